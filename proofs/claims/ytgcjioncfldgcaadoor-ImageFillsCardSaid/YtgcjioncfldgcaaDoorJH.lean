/- PROVED: what Fill makes. No condition beyond each theorem's own. -/
import Derived.Test.YtgcjioncfldgcaaDoorJG
import Derived.Laws.MakeOwn
set_option linter.unusedVariables false
set_option linter.unusedSimpArgs false
namespace Go.Proofs.YtgcjioncfldgcaaDoor.I
open Go Go.RowKit
set_option maxRecDepth 100000 in
theorem mul64_one (w : World) : Calls Tryd.prog 26 #[.int .u64 1, .int .u64 65536] w fun e w' => e = .returned (.tuple #[.int .u64 0, .int .u64 65536]) ∧ w = w' := by
  go_enter Tryd.func26, Tryd.ntmps26
  go_wp2
  go_ret2
  exact ⟨by kernel_rfl, rfl⟩
set_option maxRecDepth 100000 in
theorem mul_one (w : World) : Calls Tryd.prog 24 #[.int .u64 1, .int .u64 65536] w fun e w' => e = .returned (.tuple #[.int .u64 0, .int .u64 65536]) ∧ w = w' := by
  go_enter Tryd.func24, Tryd.ntmps24
  go_wp2_with (go_at_call 26; (with_reducible refine (mul64_one _).mono ?_); rintro e w' ⟨rfl, rfl⟩)
  go_ret2
  exact ⟨rfl, rfl⟩
/-- A copy, whatever it comes to, as a step of a region that draws. -/
theorem step_copy_eq {P : Program} {ops : Array Oper} {o : Oper} {a : Act} {w w' : World} {K : Act → World → Prop} {Q : Exit → Act → World → Prop} {E : Prop}
    (hg : o.guard = none) (s x : Operand) (t : TypeId) (hop : o.op = Op.call { callee := Callee.builtin Builtin.copy, args := #[s, x], argTypes := #[t, t] }) (ty : TypeId) (hty : o.type = ty)
    (v v2 v' : Value) (hs : a.eval s = v) (hx : a.eval x = v2) (hrun : (Builtin.copy_ #[t, t] ty #[v, v2]).run P w = .ok v' w') (hK : K (a.put o.dst v') w') :
    if Region.wanted o (yielded ops a.tmps) = true then Oper.wp P o a w K Q else E := by
  have hw : Region.wanted o (yielded ops a.tmps) = true := by simp [Region.wanted, hg]
  rw [if_pos hw]
  subst hty
  unfold Oper.wp
  simp [execOp, hop, resolve, invoke, builtin, hs, hx, hrun, Result.andThen]
  exact hK
/-- Block B holds 65536 bytes, the first n of them c. -/
def Filled (w : World) (B n : Nat) (c : Int) : Prop := ∃ cs : Array Value, w.heap[B]? = some (Obj.cells cs 5 (0, 0)) ∧ cs.size = 65536 ∧ (∀ i, i < 65536 → ∃ x : Int, cs[i]? = some (.int .u8 x)) ∧ ∀ i, i < n → cs[i]? = some (.int .u8 c)
theorem Filled.more {w : World} {B n : Nat} {c : Int} (H : Filled w B n c) (h0 : 0 < n) (h1 : n < 65536) :
    ∃ w', (Builtin.copy_ #[42, 42] 3 #[.slice (some ⟨B, n, none⟩) (65536 - n) (65536 - n), .slice (some ⟨B, 0, none⟩) n 65536]).run Tryd.prog w = .ok (goInt (min n (65536 - n) : Nat)) w' ∧ Filled w' B (n + min n (65536 - n)) c ∧ w.grownBy w' (some B) := by
  obtain ⟨cs, hb, hs, hall, hc⟩ := H
  have hrun := run_copy_row Tryd.prog w 42 42 3 5 B n (65536 - n) (65536 - n) ⟨B, 0, none⟩ n 65536 cs 5 (List.replicate (min n (65536 - n)) (Value.int .u8 c)) (by kernel_rfl) (by kernel_rfl) hb (by simp) (fun j v hv => by
      have hj : j < min n (65536 - n) := by have := (List.getElem?_eq_some_iff.1 hv).1; simpa using this
      rw [List.getElem?_replicate, if_pos hj] at hv
      have hadd : (⟨B, 0, none⟩ : Addr).add j = ⟨B, j, none⟩ := by unfold Addr.add; split <;> simp_all
      rw [hadd]
      simp [World.cell?, hb, hc j (by omega), hv]) (by simp; omega) (by intro v hv; simp at hv; rw [hv.2]; rfl)
  rw [List.length_replicate] at hrun
  refine ⟨_, hrun, ⟨_, setRow_heap w B cs _ 5 _ hb, by simp; omega, fun i hi => ?_, fun i hi => ?_⟩, ⟨rfl, rfl, rfl, by simp, fun k hk hne => setRow_other w B k _ (fun e => hne (by rw [e]))⟩⟩
  · simp only [List.getElem?_toArray]
    by_cases c1 : i < n
    · rw [List.getElem?_append_left (by simp; omega), List.getElem?_append_left (by simp; omega), List.getElem?_take_of_lt c1]
      obtain ⟨x, hx⟩ := hall i hi
      exact ⟨x, by simpa using hx⟩
    · by_cases c2 : i < n + min n (65536 - n)
      · rw [List.getElem?_append_left (by simp; omega), List.getElem?_append_right (by simp; omega)]
        exact ⟨c, by rw [List.getElem?_replicate, if_pos (by simp; omega)]⟩
      · rw [List.getElem?_append_right (by simp; omega), List.getElem?_drop]
        obtain ⟨x, hx⟩ := hall i hi
        exact ⟨x, by simp [show min n cs.size = n by omega, show n + min n (65536 - n) + (i - (n + min n (65536 - n))) = i by omega]; simpa using hx⟩
  · simp only [List.getElem?_toArray]
    by_cases c1 : i < n
    · rw [List.getElem?_append_left (by simp; omega), List.getElem?_append_left (by simp; omega), List.getElem?_take_of_lt c1]
      simpa using hc i c1
    · rw [List.getElem?_append_left (by simp; omega), List.getElem?_append_right (by simp; omega), List.getElem?_replicate, if_pos (by simp; omega)]
end Go.Proofs.YtgcjioncfldgcaaDoor.I
namespace Go.Proofs.YtgcjioncfldgcaaDoor.I
open Go Go.RowKit
theorem wpList_copy_eq {P : Program} {ops : Array Oper} {rest : List Oper} {o : Oper} {a : Act} {w w' : World} {Q : Exit → Act → World → Prop} (hgd : o.guard = none) (s x : Operand) (t : TypeId)
    (hop : o.op = Op.call { callee := Callee.builtin Builtin.copy, args := #[s, x], argTypes := #[t, t] }) (ty : TypeId) (hty : o.type = ty)
    (v v2 v' : Value) (hs : a.eval s = v) (hx : a.eval x = v2) (hrun : (Builtin.copy_ #[t, t] ty #[v, v2]).run P w = .ok v' w') (h : wpList P ops Q rest (a.put o.dst v') w') : wpList P ops Q (o :: rest) a w :=
  wpList_plain hgd fun K hK => by
    have : o.wp P a w K Q := by
      subst hty
      unfold Oper.wp
      simp [execOp, hop, resolve, invoke, builtin, hs, hx, hrun, Result.andThen]
      exact hK _ _ h
    exact this
theorem make_filled (w : World) : ∃ w1, (Instr.makeSlice 42 (.int .i64 65536) (.int .i64 65536)).run Tryd.prog w = .ok (.slice (some ⟨w.heap.size, 0, none⟩) 65536 65536) w1 ∧ Filled w1 w.heap.size 0 0 ∧ w.grownBy w1 none ∧ w1.heap.size = w.heap.size + 1 := by
  obtain ⟨i0, hi0, hz0, hz1, hz2⟩ := info_parts info5
  have hrun := run_make (P := Tryd.prog) w 42 5 i0 (.int .u8 0) Tryd.underlying42 hi0 hz0 .i64 .i64 65536 65536 (by decide) (by decide) (by rw [hz2]; decide) (by decide)
  refine ⟨_, hrun, ⟨_, World.alloc_heap_new w _, ?_, fun i hi => ⟨0, ?_⟩, fun i hi => absurd hi (Nat.not_lt_zero _)⟩, World.grownBy_alloc w _ none, by simp⟩
  · simp [madeCells, hz1]
  · simp [madeCells, hz1, Value.cells, hi]
    rw [Nat.mod_one]; rfl
set_option maxHeartbeats 1000000 in
set_option maxRecDepth 100000 in
theorem repeat_any (X : Nat) (c : Int) (w : World) (hX : w.heap[X]? = some (Obj.cells #[.int .u8 c] 5 (0, 0))) :
    Calls Tryd.prog 22 #[.slice (some ⟨X, 0, none⟩) 1 1, .int .i64 65536] w fun e w' => ∃ B, e = .returned (.slice (some ⟨B, 0, none⟩) 65536 65536) ∧ Filled w' B 65536 c ∧ w.heap.size ≤ B ∧ Below w.heap.size w w' := by
  obtain ⟨w1, hmk, hF, hg, hsz⟩ := make_filled w
  have hcp : ∃ w2, (Builtin.copy_ #[42, 42] 3 #[.slice (some ⟨w.heap.size, 0, none⟩) 65536 65536, .slice (some ⟨X, 0, none⟩) 1 1]).run Tryd.prog w1 = .ok (goInt 1) w2 ∧ Filled w2 w.heap.size 1 c ∧ w1.grownBy w2 (some w.heap.size) := by
    obtain ⟨cs, hb, hs, hall, _⟩ := hF
    have hXl : X < w.heap.size := (Array.getElem?_eq_some_iff.1 hX).1
    have hX1 : w1.heap[X]? = some (Obj.cells #[.int .u8 c] 5 (0, 0)) := by rw [hg.block X hXl (by simp)]; exact hX
    have hrun := run_copy_row Tryd.prog w1 42 42 3 5 w.heap.size 0 65536 65536 ⟨X, 0, none⟩ 1 1 cs 5 [Value.int .u8 c] (by kernel_rfl) (by kernel_rfl) hb (by rfl) (fun j v hv => by
      match j, hv with
      | 0, hv => simp at hv; subst hv; simp [Addr.add, World.cell?, hX1]
      | j + 1, hv => simp at hv) (by simp; omega) (by simp [Value.oneCell'])
    refine ⟨_, hrun, ⟨_, setRow_heap w1 _ cs _ 5 _ hb, by simp; omega, fun i hi => ?_, fun i hi => ?_⟩, ⟨rfl, rfl, rfl, by simp, fun k hk hne => setRow_other w1 _ k _ (fun e => hne (by rw [e]))⟩⟩
    · simp only [List.getElem?_toArray]
      match i, hi with
      | 0, _ => exact ⟨c, by simp⟩
      | i + 1, hi =>
        obtain ⟨x, hx⟩ := hall (i + 1) hi
        exact ⟨x, by simpa [Nat.add_comm 1] using hx⟩
    · obtain rfl : i = 0 := by omega
      simp
  obtain ⟨w2, hcp, hF2, hg2⟩ := hcp
  obtain ⟨S, hS0⟩ : ∃ S : Nat, S = 65536 := ⟨_, rfl⟩
  have hS := Lib.hid hS0
  have hSl : S ≤ 65536 := Nat.le_of_eq hS0
  have hSp : 1 ≤ S := by omega
  have hmk' : (Instr.makeSlice 42 (.int .i64 S) (.int .i64 S)).run Tryd.prog w = .ok (.slice (some ⟨w.heap.size, 0, none⟩) S S) w1 := by rw [hS0]; exact hmk
  have hcp' : (Builtin.copy_ #[42, 42] 3 #[.slice (some ⟨w.heap.size, 0, none⟩) S S, .slice (some ⟨X, 0, none⟩) 1 1]).run Tryd.prog w1 = .ok (goInt 1) w2 := by rw [hS0]; exact hcp
  have hm1 : Calls Tryd.prog 24 #[.int .u64 1, .int .u64 65536] w fun e w' => e = .returned (.tuple #[.int .u64 0, .int .u64 S]) ∧ w = w' := by rw [hS0]; exact mul_one w
  clear hmk hcp hS0
  have HF := Lib.hid hF2
  have HB : Hid (Below w.heap.size w w2) := Lib.hid (((Below.refl w.heap.size w).grown hg (Nat.le_refl _) (fun k e => by cases e)).grown hg2 (by omega) (fun k e => by cases e; exact Nat.le_refl _))
  clear hF hF2 hg hg2 hX hsz
  go_enter Tryd.func22, Tryd.ntmps22
  go_wp2_with (first | (go_at_call 24; (with_reducible refine hm1.mono ?_); rintro e w' ⟨rfl, rfl⟩) | (with_reducible refine wpList_copy_eq rfl (.tmp 31) (.tmp 32) 42 rfl 3 rfl _ _ _ rfl rfl hcp' ?_))
  go_loopw [8] (fun i wr => ∃ n : Nat, 0 < n ∧ n ≤ S ∧ i = .int .i64 n ∧ Filled wr w.heap.size n c ∧ Below w.heap.size w wr) (fun i _ => S - (intOf i).toNat)
  case atStart => exact ⟨1, by omega, by omega, rfl, HF.out, HB.out⟩
  case round =>
    obtain ⟨n, hn0, hn1, rfl, hF, hB⟩ := hrel
    by_cases hlt : n < S
    · obtain ⟨w3, hcp3, hF3, hg3⟩ := Filled.more (w := wr.drew) (by obtain ⟨cs, r⟩ := hF; exact ⟨cs, r⟩) hn0 (by omega)
      have hcp4 : (Builtin.copy_ #[42, 42] 3 #[.slice (some ⟨w.heap.size, n, none⟩) (S - n) (S - n), .slice (some ⟨w.heap.size, 0, none⟩) n S]).run Tryd.prog wr.drew = .ok (goInt (min n (65536 - n) : Nat)) w3 := by rw [hS.out]; exact hcp3
      have HR := Lib.hid (And.intro hF3 ((hB.trans (by exact ⟨rfl, rfl, rfl, Nat.le_refl _, fun _ _ => rfl⟩)).grown hg3 hB.size (fun k e => by cases e; exact Nat.le_refl _)))
      obtain ⟨d, hd⟩ : ∃ d, d = min n (65536 - n) := ⟨_, rfl⟩
      have hd0 : 0 < d := by omega
      have hd1 : n + d ≤ S := by have := hS.out; omega
      rw [← hd] at HR hcp4
      have e1 : IntKind.i64.wrap ((n : Int) + (d : Int)) = ((n + d : Nat) : Int) := by rw [IntWalk.i64_in _ (by omega)]; omega
      have hne : ¬ S = n := by omega
      clear hF hB hF3 hg3 hd hcp3
      go_wp2
      go_region_law (refine step_copy_eq rfl (.tmp 41) (.tmp 44) 42 rfl 3 rfl (.slice (some ⟨w.heap.size, n, none⟩) (S - n) (S - n)) (.slice (some ⟨w.heap.size, 0, none⟩) n S) _ (by simp [Act.eval, Act.put]) (by simp [Act.eval, Act.put]) hcp4 ?_)
      all_goals
        simp only [Act.put, List.getElem_toArray, List.getElem_cons_zero, List.getElem_cons_succ, List.setIfInBounds_toArray, List.set_cons_zero, List.set_cons_succ, e1]
        go_wp2
        go_roundw
        case rel => exact ⟨n + d, by omega, by omega, rfl, HR.out.1, HR.out.2⟩
        case measure => simp [intOf]; omega
    · have HR := Lib.hid (And.intro (show Filled wr w.heap.size 65536 c by rw [show (65536 : Nat) = n by have := hS.out; omega]; exact hF) hB)
      clear hF hB
      go_wp2
      go_ret
      exact ⟨_, by show Ending.returned (.slice (some ⟨w.heap.size, 0, none⟩) S S) = _; rw [hS.out], HR.out.1, Nat.le_refl _, HR.out.2⟩
end Go.Proofs.YtgcjioncfldgcaaDoor.I
namespace Go.Proofs.YtgcjioncfldgcaaDoor.I
open Go Go.RowKit
/-- Block B holds 65536 bytes: f where an address is of the list, else c. -/
def FillAt (w : World) (B : Nat) (f : Nat → Nat) (c : Int) (L : List Nat) : Prop := ∃ cs : Array Value, w.heap[B]? = some (Obj.cells cs 5 (0, 0)) ∧ cs.size = 65536 ∧ ∀ a, a < 65536 → cs[a]? = some (.int .u8 (if a ∈ L then (f a : Int) else c))
theorem FillAt.start {w : World} {B : Nat} {c : Int} (H : Filled w B 65536 c) (f : Nat → Nat) : FillAt w B f c [] := by
  obtain ⟨cs, hb, hs, _, hc⟩ := H
  exact ⟨cs, hb, hs, fun a ha => by simpa using hc a ha⟩
theorem FillAt.of_heap {w w' : World} {B : Nat} {f : Nat → Nat} {c : Int} {L : List Nat} (H : FillAt w B f c L) (e : w'.heap[B]? = w.heap[B]?) : FillAt w' B f c L := by
  obtain ⟨cs, hb, r⟩ := H
  exact ⟨cs, e.trans hb, r⟩
theorem FillAt.set {w : World} {B : Nat} {f : Nat → Nat} {c : Int} {L : List Nat} (H : FillAt w B f c L) (a : Nat) (ha : a < 65536) : FillAt (w.setCell ⟨B, a, none⟩ (.int .u8 (f a : Int))) B f c (L ++ [a]) := by
  obtain ⟨cs, hb, hs, hc⟩ := H
  refine ⟨_, heap_setCell_same w B _ cs 5 _ hb, by simp [hs], fun i hi => ?_⟩
  by_cases e : i = a
  · subst e; rw [Array.getElem?_setIfInBounds_self_of_lt (by omega)]; simp
  · rw [Array.getElem?_setIfInBounds_ne (by omega), hc i hi]; simp [e]
theorem FillAt.cell {w : World} {B : Nat} {f : Nat → Nat} {c : Int} {L : List Nat} (H : FillAt w B f c L) {a : Nat} (ha : a < 65536) : ∃ x : Int, w.cell? ⟨B, a, none⟩ = some (.int .u8 x) := by
  obtain ⟨cs, hb, _, hc⟩ := H
  refine ⟨if a ∈ L then (f a : Int) else c, ?_⟩
  simp [World.cell?, hb, hc a ha]
theorem FillAt.free {w : World} {B : Nat} {f : Nat → Nat} {c : Int} {L : List Nat} (H : FillAt w B f c L) (a : Nat) : w.frozen? ⟨B, a, none⟩ = false := by
  obtain ⟨cs, hb, _⟩ := H
  simp [World.frozen?, hb]
theorem FillAt.lt {w : World} {B : Nat} {f : Nat → Nat} {c : Int} {L : List Nat} (H : FillAt w B f c L) : B < w.heap.size := by
  obtain ⟨cs, hb, _⟩ := H
  exact (Array.getElem?_eq_some_iff.1 hb).1
/-- A row of addresses and bytes lies on. -/
def Kept37 (va : Option Addr) (w w' : World) : Prop := ∀ (gb : Nat) (C : Array Value), va = some ⟨gb, 0, none⟩ → w.heap[gb]? = some (Obj.cells C 37 (0, 0)) → w'.heap[gb]? = some (Obj.cells C 37 (0, 0))
theorem FillAt.ne37 {w : World} {B : Nat} {f : Nat → Nat} {c : Int} {L : List Nat} (H : FillAt w B f c L) {gb : Nat} {C : Array Value} (h : w.heap[gb]? = some (Obj.cells C 37 (0, 0))) : gb ≠ B := by
  rintro rfl
  obtain ⟨cs, hb, _⟩ := H
  rw [hb] at h
  simp at h
set_option maxHeartbeats 1000000 in
set_option maxRecDepth 100000 in
theorem fill_any (b N S : Nat) (c : Int) (f h A : Nat → Nat) (w : World) (H : ImgAt w b f h) (hh : Hid (∀ j, h j < 18446744073709551616)) (hT : Tabs w) (h0b : 0 < w.heap.size) (hf : Hid (∀ i, f i < 256)) (hS : Hid (S = 65536))
    (hN : Hid ((addrsTo h 65536).length = N)) (hA : Hid (∀ j, j < N → (addrsTo h 65536)[j]? = some (A j))) :
    Calls Tryd.prog 16 #[.pointer (some ⟨b, 0, none⟩), .int .u8 c] w fun e w' => ∃ B, e = .returned (.slice (some ⟨B, 0, none⟩) S S) ∧ FillAt w' B f c (addrsTo h 65536) ∧ w.heap.size ≤ B ∧ Below w.heap.size w w' := by
  have hN1 : N ≤ 65536 := by rw [← hN.out]; exact addrsTo_length h 65536
  have hSl : S ≤ 65536 := Nat.le_of_eq hS.out
  obtain ⟨w0, hw0⟩ : ∃ w0, w0 = w.alloc (Obj.cells #[.int .u8 c] 5) := ⟨_, rfl⟩
  have hrep : Calls Tryd.prog 22 #[.slice (some ⟨w.heap.size, 0, none⟩) 1 1, .int .i64 65536] (w.alloc (Obj.cells #[.int .u8 c] 5)) fun e w' => ∃ B, e = .returned (.slice (some ⟨B, 0, none⟩) S S) ∧ FillAt w' B f c [] ∧ w.heap.size ≤ B ∧ Below w.heap.size w w' := by
    refine (repeat_any w.heap.size c _ (World.alloc_heap_new w _)).mono ?_
    rintro e w' ⟨B, rfl, h1, h2, h3⟩
    exact ⟨B, by rw [hS.out], FillAt.start h1 f, by simp at h2; omega, ((Below.refl w.heap.size w).alloc (Nat.le_refl _) _).trans (h3.mono (by simp))⟩
  have hbb : ∀ w1, Below w.heap.size w w1 → Calls Tryd.prog 10 #[.pointer (some ⟨b, 0, none⟩)] w1 fun e w' => ∃ v, e = .returned v ∧ w'.ownsRow w1.heap.size 37 2 v N (rowsOf f (addrsTo h 65536)) ∧ Below w1.heap.size w1 w' := fun w1 hb => by
    have := callsIn_wide.1 (bytes_in b f h w1 (H.below hb H.lt) hh (fun j hj => (hb.cell (p := ⟨0, j, none⟩) h0b).trans (hT j hj)) (Nat.lt_of_lt_of_le h0b hb.size))
    rwa [hN.out] at this
  have HBB := Lib.hid hbb
  have HREP := Lib.hid hrep
  clear hbb hrep H hT hw0
  go_enter Tryd.func16, Tryd.ntmps16
  go_wp2_with (first | (go_at_call 22; (with_reducible refine HREP.out.mono ?_); rintro e w1 ⟨B, rfl, hF, hBn, hB1⟩; have HF := Lib.hid hF; have HB1 := Lib.hid hB1; clear hF hB1) | (go_at_call 10; (with_reducible refine (HBB.out _ HB1.out).mono ?_); rintro e w2 ⟨v, rfl, hrow, hB2⟩; have HROW := Lib.hid hrow; have HB2 := Lib.hid hB2; clear hrow hB2; obtain ⟨va, vc, rfl⟩ : ∃ a c, v = .slice a N c := (by rcases HROW.out.2 with ⟨e, h0⟩ | ⟨g, c, _, e, _⟩; exact ⟨none, 0, by rw [e, h0]⟩; exact ⟨_, c, e⟩)))
  have HC : Hid (∀ k : Nat, k < N → ∃ (gb : Nat) (C : Array Value), va = some ⟨gb, 0, none⟩ ∧ w2.heap[gb]? = some (Obj.cells C 37 (0, 0)) ∧ C[k * 2]? = some (.int .u16 (A k : Int)) ∧ C[k * 2 + 1]? = some (.int .u8 (f (A k) : Int)) ∧ A k < 65536) := Lib.hid fun k hk => by
    obtain ⟨_, ⟨_, h0⟩ | ⟨gb, cap, C, e, _, hC, hcap, _, hCs, hCl⟩⟩ := HROW.out
    · omega
    · simp only [Value.slice.injEq] at e
      obtain ⟨rfl, _, _⟩ := e
      have q1 := hA.out k hk
      have r := rows_at f _ k _ q1
      rw [← hCl, List.getElem?_take_of_lt (by omega), List.getElem?_take_of_lt (by omega)] at r
      have hm : A k ∈ addrsTo h 65536 := List.mem_of_getElem? q1
      have : A k < 65536 := by simp [addrsTo] at hm; exact hm.1
      exact ⟨gb, C, rfl, hC, by simpa using r.1, by simpa using r.2, this⟩
  have HF2 : Hid (FillAt w2 B f c [] ∧ Below w.heap.size w w2) := Lib.hid ⟨HF.out.of_heap (HB2.out.block B HF.out.lt), HB1.out.trans (HB2.out.mono HB1.out.size)⟩
  clear HROW HF HB1 HB2 HBB HREP
  go_loopw [14] (fun i wr => ∃ k : Nat, k ≤ N ∧ i = .int .i64 k ∧ FillAt wr B f c ((addrsTo h 65536).take k) ∧ Below w.heap.size w wr ∧ Kept37 va w2 wr) (fun i _ => N - (intOf i).toNat)
  case atStart => exact ⟨0, Nat.zero_le _, rfl, HF2.out.1, HF2.out.2, fun _ _ _ h => h⟩
  case round =>
    obtain ⟨k, hk, rfl, hF, hB, hK⟩ := hrel
    by_cases hlt : k < N
    · obtain ⟨gb, C, rfl, hC, c1, c2, a1⟩ := HC.out k hlt
      have hG := hK _ _ rfl hC
      have hx0 : wr.cell? ⟨gb, k * 2, none⟩ = some (.int .u16 (A k : Int)) := by simp [World.cell?, hG, c1]
      have hx1 : wr.cell? ⟨gb, k * 2 + 1, none⟩ = some (.int .u8 (f (A k) : Int)) := by simp [World.cell?, hG, c2]
      have hF' : FillAt (wr.alloc (Obj.cells #[.int .u16 (A k : Int), .int .u8 (f (A k) : Int)] 37)) B f c ((addrsTo h 65536).take k) := hF.of_heap (Below.heap_alloc _ _ _ hF.lt)
      obtain ⟨x, hx⟩ := hF'.cell a1
      have hfr := hF'.free (A k)
      have HR : Hid (FillAt ((wr.alloc (Obj.cells #[.int .u16 (A k : Int), .int .u8 (f (A k) : Int)] 37)).setCell ⟨B, A k, none⟩ (.int .u8 (f (A k) : Int))) B f c ((addrsTo h 65536).take (k + 1)) ∧
          Below w.heap.size w ((wr.alloc (Obj.cells #[.int .u16 (A k : Int), .int .u8 (f (A k) : Int)] 37)).setCell ⟨B, A k, none⟩ (.int .u8 (f (A k) : Int))) ∧
          Kept37 (some ⟨gb, 0, none⟩) w2 ((wr.alloc (Obj.cells #[.int .u16 (A k : Int), .int .u8 (f (A k) : Int)] 37)).setCell ⟨B, A k, none⟩ (.int .u8 (f (A k) : Int)))) := Lib.hid (by
        refine ⟨?_, ?_, ?_⟩
        · have := hF'.set (A k) a1
          rwa [List.take_add_one, hA.out k hlt]
        · exact (hB.alloc hB.size _).setCell (p := ⟨B, A k, none⟩) hBn _
        · intro g' C' e' h'
          have h1 := hK g' C' e' h'
          rw [heap_setCell_other _ _ _ _ (hF.ne37 h1), Below.heap_alloc _ _ _ (Array.getElem?_eq_some_iff.1 h1).1]
          exact h1)
      have hAS : (A k : Int) < S := by have := hS.out; omega
      clear hF hB hK hC hG c1 c2 hF'
      go_wp2
      go_roundw
      case rel => exact ⟨k + 1, by omega, by go_num, HR.out.1, HR.out.2.1, HR.out.2.2⟩
      case measure => simp [intOf]; omega
    · have HR : Hid (FillAt wr B f c (addrsTo h 65536) ∧ Below w.heap.size w wr) := Lib.hid ⟨by rwa [List.take_of_length_le (by rw [hN.out]; omega)] at hF, hB⟩
      clear hF hB hK
      go_wp2
      go_ret
      exact ⟨B, rfl, HR.out.1, hBn, HR.out.2⟩
end Go.Proofs.YtgcjioncfldgcaaDoor.I

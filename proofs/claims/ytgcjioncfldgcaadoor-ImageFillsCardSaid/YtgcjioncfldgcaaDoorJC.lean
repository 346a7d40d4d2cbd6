/- PROVED: how many bits a word has, and what Len counts. No condition beyond each theorem's own. -/
import Derived.Test.YtgcjioncfldgcaaDoorJA
import Derived.Laws.Bits128
import Derived.Test.YtgcjioncfldgcaaDoorJB
set_option linter.unusedVariables false
set_option linter.unusedSimpArgs false
namespace Go.Proofs.YtgcjioncfldgcaaDoor.I
open Go Go.RowKit
theorem ret_int {k : IntKind} {a b : Int} (h : a = b) : Ending.returned (.int k a) = .returned (.int k b) := by rw [h]
theorem wrap_low (y r : Nat) (h : y % 128 = r) : (wrap64 (y : Int)) % 128 = (r : Int) := by unfold wrap64; omega
set_option maxRecDepth 100000 in
theorem ones_any (x : Nat) (w : World) (hx : x < 18446744073709551616) :
    Calls Tryd.prog 20 #[.int .u64 x] w fun e w' => e = .returned (.int .i64 (ones 64 x)) ∧ w = w' := by
  go_enter Tryd.func20, Tryd.ntmps20
  go_wp2
  go_ret
  refine ⟨ret_int ?_, rfl⟩
  obtain ⟨y1, h1⟩ : ∃ y, y = ((x / 2) &&& m0) + (x &&& m0) := ⟨_, rfl⟩
  obtain ⟨y2, h2⟩ : ∃ y, y = ((y1 / 4) &&& m1) + (y1 &&& m1) := ⟨_, rfl⟩
  obtain ⟨y3, h3⟩ : ∃ y, y = ((y2 / 16) + y2) &&& m2 := ⟨_, rfl⟩
  obtain ⟨y4, h4⟩ : ∃ y, y = y3 + y3 / 256 := ⟨_, rfl⟩
  obtain ⟨y5, h5⟩ : ∃ y, y = y4 + y4 / 65536 := ⟨_, rfl⟩
  obtain ⟨y6, h6⟩ : ∃ y, y = y5 + y5 / 4294967296 := ⟨_, rfl⟩
  obtain ⟨p, l1, l2, l23, l3, l4, l5, l6⟩ := pop64 x hx y1 y2 y3 y4 y5 y6 h1 h2 h3 h4 h5 h6
  have wr (n : Nat) (hn : n < 18446744073709551616) : IntKind.u64.wrap (n : Int) = n := by rw [IntKind.wrap_u64]; omega
  have an (a b : Nat) (ha : a < 18446744073709551616) (hb : b < 18446744073709551616) : bits BinOp.and IntKind.u64 (a : Int) (b : Int) = ((a &&& b : Nat) : Int) := u64_and_nat a b ha hb
  have a1 (z : Nat) (hz : z < 18446744073709551616) : bits BinOp.and IntKind.u64 (z : Int) 6148914691236517205 = ((z &&& m0 : Nat) : Int) := an z m0 hz (by decide)
  have a2 (z : Nat) (hz : z < 18446744073709551616) : bits BinOp.and IntKind.u64 (z : Int) 3689348814741910323 = ((z &&& m1 : Nat) : Int) := an z m1 hz (by decide)
  have a3 (z : Nat) (hz : z < 18446744073709551616) : bits BinOp.and IntKind.u64 (z : Int) 1085102592571150095 = ((z &&& m2 : Nat) : Int) := an z m2 hz (by decide)
  have d1 : ((x : Int) / 2) = ((x / 2 : Nat) : Int) := by simp
  have e1 : IntKind.u64.wrap (bits BinOp.and IntKind.u64 ((x : Int) / 2) 6148914691236517205 + bits BinOp.and IntKind.u64 (x : Int) 6148914691236517205) = (y1 : Int) := by
    rw [d1, a1 _ (by omega), a1 _ hx, ← wr y1 l1, h1]; rfl
  have e2 : IntKind.u64.wrap (bits BinOp.and IntKind.u64 ((y1 : Int) / 4) 3689348814741910323 + bits BinOp.and IntKind.u64 (y1 : Int) 3689348814741910323) = (y2 : Int) := by
    rw [show ((y1 : Int) / 4) = ((y1 / 4 : Nat) : Int) by simp, a2 _ (by omega), a2 _ l1, ← wr y2 l2, h2]; rfl
  have e3 : bits BinOp.and IntKind.u64 (IntKind.u64.wrap ((y2 : Int) / 16 + (y2 : Int))) 1085102592571150095 = (y3 : Int) := by
    rw [show ((y2 : Int) / 16 + (y2 : Int)) = ((y2 / 16 + y2 : Nat) : Int) by simp, wr _ l23, a3 _ l23, h3]
  have e4 : IntKind.u64.wrap ((y3 : Int) + (y3 : Int) / 256) = (y4 : Int) := by rw [show ((y3 : Int) + (y3 : Int) / 256) = (y4 : Int) by omega, wr _ l4]
  have e5 : IntKind.u64.wrap ((y4 : Int) + (y4 : Int) / 65536) = (y5 : Int) := by rw [show ((y4 : Int) + (y4 : Int) / 65536) = (y5 : Int) by omega, wr _ l5]
  have e6 : IntKind.u64.wrap ((y5 : Int) + (y5 : Int) / 4294967296) = (y6 : Int) := by rw [show ((y5 : Int) + (y5 : Int) / 4294967296) = (y6 : Int) by omega, wr _ l6]
  rw [e1, e2, e3, e4, e5, e6, i64_and127]
  exact wrap_low y6 _ p
end Go.Proofs.YtgcjioncfldgcaaDoor.I
namespace Go.Proofs.YtgcjioncfldgcaaDoor.I
open Go Go.RowKit
/-- The 1024 words as one value. -/
def wordsL (h : Nat → Nat) : List Value := (List.range 1024).map fun j => .int .u64 (h j)
def wordsA (h : Nat → Nat) : Array Value := (wordsL h).toArray
theorem run_loadWords (w : World) (b : Nat) (f h : Nat → Nat) (H : ImgAt w b f h) :
    (Instr.loadAt 59 (.pointer (some ⟨b, 65536, none⟩))).run Tryd.prog w = .ok (.agg (wordsA h)) w := by
  have h59 : Tryd.prog.underlying 59 = some (.array 1024 58) := by kernel_rfl
  have s59 : (Tryd.prog.info? 59).map (·.size) = some 1024 := by kernel_rfl
  have hl : (loadCells ⟨b, 65536, none⟩ (wordsL h).length).run Tryd.prog w = .ok (wordsL h).toArray w :=
    run_loadCells_list (P := Tryd.prog) w ⟨b, 65536, none⟩ (wordsL h) (fun j v hv => by
      have hj : j < 1024 := by
        have := (List.getElem?_eq_some_iff.1 hv).1; simpa [wordsL] using this
      have hadd : (⟨b, 65536, none⟩ : Addr).add j = ⟨b, 65536 + j, none⟩ := by unfold Addr.add; split <;> simp_all
      rw [hadd, H.word hj, ← hv]
      simp [wordsL, hj])
  have hn : (wordsL h).length = 1024 := by simp [wordsL]
  rw [hn] at hl
  cases hq : Tryd.prog.info? 59 with
  | none => simp [hq] at s59
  | some i =>
    have hs : i.size = 1024 := by simpa [hq] using s59
    have hagg : (isAgg 59).run Tryd.prog w = .ok true w := by
      unfold isAgg
      rw [Sem.run_bind, run_underlying h59 w]
      simp
    simp [Instr.loadAt, Instr.sureAddr, loadVar, Sem.run_bind, hagg, sizeOf, typeInfo, hq, hs, hl, wordsA]
theorem run_indexWords (w : World) (h : Nat → Nat) (k : Nat) (hk : k < 1024) :
    (Instr.index 59 (.agg (wordsA h)) (.int .i64 k)).run Tryd.prog w = .ok (.int .u64 (h k)) w := by
  have h59 : Tryd.prog.underlying 59 = some (.array 1024 58) := by kernel_rfl
  have h58 : Tryd.prog.underlying 58 = some (.int .u64) := by kernel_rfl
  have s58 : (Tryd.prog.info? 58).map (·.size) = some 1 := by kernel_rfl
  cases hq : Tryd.prog.info? 58 with
  | none => simp [hq] at s58
  | some i =>
    have hs : i.size = 1 := by simpa [hq] using s58
    have hc : ((k : Int) < 1024) := by omega
    simp [Instr.index, asIntOf, run_underlying h59, hk, sizeOf, typeInfo, hq, hs, part, isAgg, run_underlying h58, wordsA, wordsL]
theorem wpList_load_eq {P : Program} {ops : Array Oper} {rest : List Oper} {o : Oper} {a : Act} {w : World} {Q : Exit → Act → World → Prop} (hgd : o.guard = none) (ty : TypeId) (x : Operand) (ho : o.op = .load ty x)
    (v0 v : Value) (hx : a.eval x = v0) (hrun : (Instr.loadAt ty v0).run P w = .ok v w) (h : wpList P ops Q rest (a.put o.dst v) w) : wpList P ops Q (o :: rest) a w :=
  wpList_plain hgd fun K hK => by
    have : o.wp P a w K Q := by
      unfold Oper.wp execOp
      simp only [ho, hx, Sem.run_bind, hrun, Result.andThen_ok]
      exact hK _ _ h
    exact this
end Go.Proofs.YtgcjioncfldgcaaDoor.I
namespace Go.Proofs.YtgcjioncfldgcaaDoor.I
open Go Go.RowKit
def lenTo (h : Nat → Nat) : Nat → Nat
  | 0 => 0
  | k + 1 => lenTo h k + ones 64 (h k)
theorem ones_le : ∀ n x, ones n x ≤ n
  | 0, _ => Nat.le_refl _
  | n + 1, x => by unfold ones; have := ones_le n (x / 2); omega
theorem lenTo_le (h : Nat → Nat) : ∀ k, lenTo h k ≤ 64 * k
  | 0 => Nat.le_refl _
  | k + 1 => by unfold lenTo; have := lenTo_le h k; have := ones_le 64 (h k); omega
theorem ones_int (x : Int) (n : Nat) (w : World) (hx : x = (n : Int)) (hn : n < 18446744073709551616) :
    Calls Tryd.prog 20 #[.int .u64 x] w fun e w' => e = .returned (.int .i64 (ones 64 n)) ∧ w = w' := by subst hx; exact ones_any n w hn
set_option maxRecDepth 100000 in
theorem len_any (b : Nat) (f h : Nat → Nat) (w : World) (H : ImgAt w b f h) (L o : Nat → Nat) (N : Nat) (hh : Hid ((∀ j, h j < 18446744073709551616) ∧ (∀ j, ones 64 (h j) = o j) ∧ (∀ k, lenTo h k = L k) ∧ L 1024 = N)) :
    Calls Tryd.prog 8 #[.pointer (some ⟨b, 0, none⟩)] w fun e w' => e = .returned (.int .i64 N) ∧ w = w' := by
  obtain ⟨A, hld, hixs⟩ : ∃ A : Array Value, (Instr.loadAt 59 (.pointer (some ⟨b, 65536, none⟩))).run Tryd.prog w = .ok (.agg A) w ∧
      Hid (∀ k : Nat, k < 1024 → (Instr.index 59 (.agg A) (.int .i64 k)).run Tryd.prog w = .ok (.int .u64 (h k)) w) := ⟨wordsA h, run_loadWords w b f h H, Lib.hid fun k hk => run_indexWords w h k hk⟩
  go_enter Tryd.func8, Tryd.ntmps8
  go_wp2_with (refine wpList_load_eq rfl 59 _ rfl _ _ rfl hld ?_)
  go_loop [2, 11] (fun s i => ∃ k : Nat, k ≤ 1024 ∧ i = .int .i64 k ∧ s = .int .i64 (L k)) (fun _ i => 1024 - (intOf i).toNat)
  case atStart => exact ⟨0, Nat.zero_le _, rfl, by rw [← hh.out.2.2.1]; rfl⟩
  case round =>
    obtain ⟨k, hk, rfl, rfl⟩ := hrel
    by_cases hlt : k < 1024
    · have hix := hixs.out k hlt
      have h1 : L k ≤ 65536 := by rw [← hh.out.2.2.1]; have := lenTo_le h k; omega
      have h2 : o k ≤ 64 := by rw [← hh.out.2.1]; exact ones_le 64 (h k)
      have hs : Hid (L (k + 1) = L k + o k) := Lib.hid (by rw [← hh.out.2.2.1, ← hh.out.2.2.1, ← hh.out.2.1]; rfl)
      have hc : Calls Tryd.prog 20 #[.int .u64 (h k)] w fun e w' => e = .returned (.int .i64 (o k)) ∧ w = w' := by rw [← hh.out.2.1]; exact ones_any (h k) w (hh.out.1 k)
      go_wp2_with (go_at_call 20; (with_reducible refine hc.mono ?_); rintro e w' ⟨rfl, rfl⟩)
      go_round
      case rel => exact ⟨k + 1, by omega, by go_num, by rw [hs.out]; go_num⟩
      case measure => simp [intOf]; omega
    · have hN : Hid (L k = N) := Lib.hid (by rw [show k = 1024 by omega]; exact hh.out.2.2.2)
      go_wp2
      go_ret
      exact ⟨by show Ending.returned (.int .i64 (L k)) = _; rw [hN.out], rfl⟩
end Go.Proofs.YtgcjioncfldgcaaDoor.I

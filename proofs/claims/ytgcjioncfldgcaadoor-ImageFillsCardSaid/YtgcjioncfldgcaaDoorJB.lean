/- PROVED: what Put does where nothing stands, and where nothing is put. No condition beyond each theorem's own. -/
import Derived.Test.YtgcjioncfldgcaaDoorJA
import Derived.StillTailTactics
import Derived.Laws.CopyRow
import Derived.Laws.IdiomCopy
import Derived.Laws.Rows
import Derived.IntWalk
set_option linter.unusedVariables false
set_option linter.unusedSimpArgs false
namespace Go.Proofs.YtgcjioncfldgcaaDoor.I
open Go Go.RowKit
/-- The bytes behind a Put. -/
def putF (f : Nat → Nat) (n : Nat) (bs : List Nat) (i : Nat) : Nat := if n ≤ i ∧ i < n + bs.length then bs.getD (i - n) 0 else f i
/-- The words behind k bytes of a Put. -/
def setH (h : Nat → Nat) (n : Nat) : Nat → Nat → Nat
  | 0 => h
  | k + 1 => fun j => if j = (n + k) / 64 then setH h n k j ||| 2 ^ ((n + k) % 64) else setH h n k j
theorem ImgAt.copied {w : World} {b n : Nat} {f h : Nat → Nat} (H : ImgAt w b f h) (bs : List Nat) (hn : n + bs.length ≤ 65536) (a : Addr) (len cap : Nat) (hlen : bs.length = len) (h0 : 0 < len)
    (hsrc : ∀ j v, (bs.map fun x : Nat => Value.int .u8 x)[j]? = some v → w.cell? (a.add j) = some v) :
    ∃ w2, (∀ ty, (Builtin.copy_ #[42, 42] ty #[.slice (some ⟨b, n, none⟩) (65536 - n) (65536 - n), .slice (some a) len cap]).run Tryd.prog w = .ok (goInt len) w2) ∧ ImgAt w2 b (putF f n bs) h ∧ w.grownBy w2 (some b) := by
  obtain ⟨cs, hb, hs, hf, hh⟩ := H
  refine ⟨w.setRow b (cs.toList.take n ++ (bs.map fun x : Nat => Value.int .u8 x) ++ cs.toList.drop (n + bs.length)).toArray, fun ty => ?_, ?_, ?_⟩
  · have := run_copy_row Tryd.prog w 42 42 ty 5 b n (65536 - n) (65536 - n) a len cap cs 61 (bs.map fun x : Nat => Value.int .u8 x) (by kernel_rfl) (by kernel_rfl) hb (by rw [List.length_map, hlen]; exact (Nat.min_eq_left (by omega)).symm) hsrc (by simp; omega) (by simp [Value.oneCell'])
    simpa [hlen] using this
  · refine ⟨_, setRow_heap w b cs _ 61 _ hb, by simp; omega, fun i hi => ?_, fun j hj => ?_⟩
    · simp only [List.getElem?_toArray, putF]
      have e1 := hf i hi
      simp only [Array.getElem?_eq_getElem (show i < cs.size by omega), Option.some.injEq] at e1
      by_cases c1 : i < n
      · rw [List.getElem?_append_left (by simp; omega), List.getElem?_append_left (by simp; omega), List.getElem?_take_of_lt c1, if_neg (by omega)]
        simp [Array.getElem?_eq_getElem (show i < cs.size by omega), e1]
      · by_cases c2 : i < n + bs.length
        · rw [List.getElem?_append_left (by simp; omega), List.getElem?_append_right (by simp; omega), if_pos ⟨by omega, c2⟩]
          simp [show min n cs.size = n by omega, List.getD_eq_getElem?_getD, List.getElem?_eq_getElem (show i - n < bs.length by omega)]
        · rw [List.getElem?_append_right (by simp; omega), if_neg (by omega), List.getElem?_drop]
          simp [show min n cs.size = n by omega, show n + bs.length + (i - (n + bs.length)) = i by omega, Array.getElem?_eq_getElem (show i < cs.size by omega), e1]
    · have e1 := hh j hj
      rw [Array.getElem?_eq_getElem (show 65536 + j < cs.size by omega)] at e1
      simp only [List.getElem?_toArray]
      rw [List.getElem?_append_right (by simp; omega), List.getElem?_drop]
      simp [show min n cs.size = n by omega, show n + bs.length + (65536 + j - (n + bs.length)) = 65536 + j by omega, Array.getElem?_eq_getElem (show 65536 + j < cs.size by omega)]
      simpa using e1
  · exact ⟨rfl, rfl, rfl, by simp, fun k hk hne => setRow_other w b k _ (fun e => hne (by rw [e]))⟩
theorem setH_lt {h : Nat → Nat} (hh : ∀ j, h j < 18446744073709551616) (n : Nat) : ∀ k j, setH h n k j < 18446744073709551616
  | 0, j => hh j
  | k + 1, j => by
    unfold setH
    have ih := setH_lt hh n k j
    split
    · exact Nat.or_lt_two_pow (n := 64) ih (Nat.pow_lt_pow_right (by decide) (by omega))
    · exact ih
theorem ImgAt.setWord {w : World} {b : Nat} {f h : Nat → Nat} (H : ImgAt w b f h) (j v : Nat) (hj : j < 1024) : ImgAt (w.setCell ⟨b, 65536 + j, none⟩ (.int .u64 v)) b f (fun i => if i = j then v else h i) := by
  obtain ⟨cs, hb, hs, hf, hh⟩ := H
  refine ⟨_, heap_setCell_same w b _ cs 61 _ hb, by simp [hs], fun i hi => ?_, fun i hi => ?_⟩
  · rw [Array.getElem?_setIfInBounds_ne (by omega)]; exact hf i hi
  · by_cases e : i = j
    · subst e; rw [Array.getElem?_setIfInBounds_self_of_lt (by omega)]; simp
    · rw [Array.getElem?_setIfInBounds_ne (by omega), hh i hi]; simp [e]
theorem orval (x r : Nat) (hx : x < 18446744073709551616) (hr : r < 64) : bits BinOp.or IntKind.u64 (x : Int) (IntKind.u64.wrap (2 ^ min r 64)) = ((x ||| 2 ^ r : Nat) : Int) := by
  have e0 : min r 64 = r := by omega
  have e1 : (2 : Nat) ^ r < 18446744073709551616 := by
    have := Nat.pow_lt_pow_right (a := 2) (by decide) hr
    simpa using this
  have e2 : IntKind.u64.wrap (2 ^ r) = ((2 ^ r : Nat) : Int) := by
    have e3 : (2 : Int) ^ r = ((2 ^ r : Nat) : Int) := by exact (Int.natCast_pow 2 r).symm
    rw [IntKind.wrap_u64, e3]
    generalize (2 : Nat) ^ r = y at e1
    omega
  rw [e0, e2]
  exact u64_or_nat x (2 ^ r) hx e1
theorem grownBy_set (W : World) (a : Addr) (v : Value) : W.grownBy (W.setCell a v) (some a.block) :=
  ⟨rfl, rfl, rfl, by simp, fun k _ hk => heap_setCell_other _ _ _ _ (fun e => hk (by rw [e]))⟩
theorem grownBy_drew {W W' : World} {r : Option Nat} (h : W.grownBy W' r) : W.grownBy W'.drew r := ⟨h.os, h.tape, h.output, h.size, h.block⟩
theorem run_sliceImg (b n : Nat) (w : World) (hn : n < 65536) :
    (Instr.sliceAt 57 (.pointer (some ⟨b, 0, none⟩)) (some (.int .i64 n)) none none).run Tryd.prog w = .ok (.slice (some ⟨b, n, none⟩) (65536 - n) (65536 - n)) w := by
  have h57 : Tryd.prog.underlying 57 = some (.array 65536 5) := by kernel_rfl
  have h5 : (Tryd.prog.info? 5).map (·.size) = some 1 := by kernel_rfl
  cases hq : Tryd.prog.info? 5 with
  | none => simp [hq] at h5
  | some i =>
    have hi : i.size = 1 := by simpa [hq] using h5
    have e2 : ¬ 65536 = n := by omega
    have e3 : n ≤ 65536 := by omega
    simp [Instr.sliceAt, run_underlying h57, Instr.sureAddr, Instr.sliceBounds, Instr.sliceBound, asIntOf, sizeOf, typeInfo, hq, hi, e2, e3, Addr.add]
    intro h; subst h; rfl
set_option maxRecDepth 100000 in
theorem put_ok (b : Nat) (a : Addr) (n len cap : Nat) (f h : Nat → Nat) (bs : List Nat) (w : World) (H : ImgAt w b f h) (hh : Hid (∀ j, h j < 18446744073709551616)) (hn : n + len ≤ 65536) (h0 : 0 < len) (hbs : Hid (bs.length = len))
    (hsrc : Hid (∀ j v, (bs.map fun x : Nat => Value.int .u8 x)[j]? = some v → w.cell? (a.add j) = some v)) (hno : NoneIn h n len) :
    Calls Tryd.prog 18 #[.pointer (some ⟨b, 0, none⟩), .int .i64 n, .slice (some a) len cap] w fun e w' => e = .returned (.int .i64 0) ∧ ImgAt w' b (putF f n bs) (setH h n len) ∧ w.grownBy w' (some b) := by
  obtain ⟨w2, hcp, H2, hg2⟩ := H.copied bs (by rw [hbs.out]; omega) a len cap hbs.out h0 hsrc.out
  have HH2 := Lib.hid H2
  have HG2 := Lib.hid hg2
  clear H2 hg2
  have hsl := run_sliceImg b n w (by omega)
  go_enter Tryd.func18, Tryd.ntmps18
  go_wp2
  go_loop [28] (fun i => ∃ k : Nat, k ≤ len ∧ i = .int .i64 k) (fun i => len - (intOf i).toNat)
  case atStart => exact ⟨0, Nat.zero_le _, rfl⟩
  case round =>
    obtain ⟨k, hk, rfl⟩ := hrel
    by_cases hlt : k < len
    · have hg : Hid (hasB h ((n : Int) + k).toNat = false) := Lib.hid (hno k hlt)
      go_wp2_with (go_at_call 11; (with_reducible refine (get_int _ _ f h _ H hh (by omega) (by omega) false hg).mono ?_); rintro e w' ⟨rfl, rfl⟩)
      go_round
      case rel => exact ⟨k + 1, by omega, by go_num⟩
      case measure => simp [intOf]; omega
    · go_wp2
      go_loopw [51] (fun i wr => ∃ j : Nat, j ≤ len ∧ i = .int .i64 j ∧ ImgAt wr b (putF f n bs) (setH h n j) ∧ w.grownBy wr (some b)) (fun i _ => len - (intOf i).toNat)
      case atStart => exact ⟨0, Nat.zero_le _, rfl, HH2.out, HG2.out⟩
      case round =>
        obtain ⟨j, hj, rfl, HI, HG⟩ := hrel
        by_cases hjt : j < len
        · obtain ⟨m, hm⟩ : ∃ m, m = n + j := ⟨_, rfl⟩
          obtain ⟨q, hq⟩ : ∃ q, q = m / 64 := ⟨_, rfl⟩
          obtain ⟨r, hr⟩ : ∃ r, r = m % 64 := ⟨_, rfl⟩
          have hq1 : q < 1024 := by omega
          have hr1 : r < 64 := by omega
          have e1 : IntKind.i64.wrap ((n : Int) + (j : Int)) = (m : Int) := by rw [IntWalk.i64_in _ (by omega)]; omega
          have e2 : IntKind.i64.wrap ((m : Int) / 64) = (q : Int) := by rw [IntWalk.i64_in _ (by omega)]; omega
          have e3 : (m : Int) % 64 = (r : Int) := by omega
          have e4 : (q : Int) < 1024 := by omega
          have e5 : (r : Int) < 64 := by omega
          have hc := HI.word (j := q) hq1
          have hfr := HI.free (65536 + q)
          have HJ := Lib.hid HI
          have HK := Lib.hid HG
          have HM := Lib.hid (And.intro hm (And.intro hq hr))
          clear HI HG HH2 HG2 H hm hq hr
          go_wp2
          go_still_tail 19, (by kernel_rfl)
          change wpList _ _ _ _ _ wr.drew
          go_wp2
          go_roundw
          case rel =>
            obtain ⟨hm, hq, hr⟩ := HM.out
            have hv := setH_lt hh.out n j q
            have e7 := orval (setH h n j q) (m % 64) hv (by omega)
            refine ⟨j + 1, by omega, by go_num, ?_, ?_⟩
            · rw [e7]
              have := HJ.out.setWord q (setH h n j q ||| 2 ^ (m % 64)) hq1
              refine ImgAt.of_heap (w := wr.setCell ⟨b, 65536 + q, none⟩ (.int .u64 ((setH h n j q ||| 2 ^ (m % 64) : Nat) : Int))) ?_ rfl
              have e8 : (fun i => if i = q then setH h n j q ||| 2 ^ (m % 64) else setH h n j i) = setH h n (j + 1) := by
                funext i
                subst hm
                show _ = (if i = (n + j) / 64 then setH h n j i ||| 2 ^ ((n + j) % 64) else setH h n j i)
                by_cases c : i = q
                · rw [if_pos c, if_pos (by rw [c, hq]), c]
                · rw [if_neg c, if_neg (by rw [← hq]; exact c)]
              rw [e8] at this
              exact this
            · exact grownBy_drew (HK.out.trans (grownBy_set wr _ _))
          case measure => simp [intOf]; omega
        · go_wp2
          go_ret
          obtain rfl : j = len := by omega
          exact ⟨rfl, HI, HG⟩
end Go.Proofs.YtgcjioncfldgcaaDoor.I
namespace Go.Proofs.YtgcjioncfldgcaaDoor.I
open Go Go.RowKit
theorem run_sliceImg' (b n : Nat) (w : World) (hn : n ≤ 65536) :
    ∃ d, (Instr.sliceAt 57 (.pointer (some ⟨b, 0, none⟩)) (some (.int .i64 n)) none none).run Tryd.prog w = .ok (.slice d (65536 - n) (65536 - n)) w := by
  have h57 : Tryd.prog.underlying 57 = some (.array 65536 5) := by kernel_rfl
  have h5 : (Tryd.prog.info? 5).map (·.size) = some 1 := by kernel_rfl
  cases hq : Tryd.prog.info? 5 with
  | none => simp [hq] at h5
  | some i =>
    simp [Instr.sliceAt, run_underlying h57, Instr.sureAddr, Instr.sliceBounds, Instr.sliceBound, asIntOf, sizeOf, typeInfo, hq, hn]
set_option maxRecDepth 100000 in
theorem put_empty (b : Nat) (s : Option Addr) (n cap : Nat) (w : World) (hn : n ≤ 65536) :
    Calls Tryd.prog 18 #[.pointer (some ⟨b, 0, none⟩), .int .i64 n, .slice s 0 cap] w fun e w' => e = .returned (.int .i64 0) ∧ w = w' := by
  obtain ⟨d, hsl⟩ := run_sliceImg' b n w hn
  have hcp : ∀ ty, (Builtin.copy_ #[42, 42] ty #[.slice d (65536 - n) (65536 - n), .slice s 0 cap]).run Tryd.prog w = .ok (goInt 0) w := fun ty =>
    run_copy_none (P := Tryd.prog) w 42 42 ty 5 d s _ _ 0 cap (by kernel_rfl) (by kernel_rfl) (by exact Nat.zero_min _)
  go_enter Tryd.func18, Tryd.ntmps18
  go_wp2
  go_loop [28] (fun i => i = .int .i64 0) (fun _ => 0)
  case atStart => rfl
  case round =>
    subst hrel
    go_wp2
    go_loop [51] (fun i => i = .int .i64 0) (fun _ => 0)
    case atStart => rfl
    case round =>
      subst hrel
      go_wp2
      go_ret
      exact ⟨rfl, rfl⟩
end Go.Proofs.YtgcjioncfldgcaaDoor.I

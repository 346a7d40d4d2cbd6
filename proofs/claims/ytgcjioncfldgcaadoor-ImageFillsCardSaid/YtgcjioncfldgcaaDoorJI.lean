/- PROVED: what the document's own Put, Find and Runs come to, and that the chapter's example comes. No condition beyond each theorem's own. -/
import Derived.Test.YtgcjioncfldgcaaDoorJG
import Derived.Test.YtgcjioncfldgcaaDoorG5
import Derived.Test.YtgcjioncfldgcaaDoorG4
import Derived.Test.YtgcjioncfldgcaaDoorG3
import Derived.Test.YtgcjioncfldgcaaDoorG2
import Derived.Test.YtgcjioncfldgcaaDoorJC
import Derived.Test.YtgcjioncfldgcaaDoorJB
import Derived.Test.YtgcjioncfldgcaaDoorJF
set_option linter.unusedVariables false
set_option linter.unusedSimpArgs false
namespace Go.Proofs.YtgcjioncfldgcaaDoor.I
open Go Go.RowKit Go.Proofs.YtgcjioncfldgcaaDoorW.PrintWords Go.Proofs.YtgcjioncfldgcaaDoorW.PrintLast Go.Proofs.YtgcjioncfldgcaaDoorW.PrintMore G
/-- The bytes of an image as the document has them. -/
def elemOf (f : Nat → Nat) (a : Nat) : S37 := ⟨(a : Int), (f a : Int)⟩
def sOf (f h : Nat → Nat) : List S37 := (addrsTo h 65536).map (elemOf f)
theorem w64 {n : Int} (h0 : -9223372036854775808 ≤ n) (h1 : n ≤ 9223372036854775807) : wrap64 n = n := by unfold wrap64; omega
theorem rd37 {l : List S37} {i : Nat} (h : i < l.length) : rd_T37 l (i : Int) = l[i] := by
  simp [rd_T37, List.getD_eq_getElem?_getD, List.getElem?_eq_getElem h]
theorem addrsTo_split (h : Nat → Nat) (n len : Nat) (hl : n + len ≤ 65536) :
    addrsTo h 65536 = (List.range' 0 n).filter (hasB h) ++ ((List.range' n len).filter (hasB h) ++ (List.range' (n + len) (65536 - (n + len))).filter (hasB h)) := by
  unfold addrsTo
  rw [← List.filter_append, ← List.filter_append, List.range_eq_range']
  congr 1
  have e1 := List.range'_append_1 (s := n) (m := len) (n := 65536 - (n + len))
  have e2 := List.range'_append_1 (s := 0) (m := n) (n := len + (65536 - (n + len)))
  rw [e1]
  rw [Nat.zero_add] at e2
  rw [e2]
  congr 1
  omega
theorem hasB_setH (h : Nat → Nat) (n : Nat) : ∀ (k a : Nat), hasB (setH h n k) a = (hasB h a || (decide (n ≤ a) && decide (a < n + k)))
  | 0, a => by simp [setH]; omega
  | k + 1, a => by
    have ih := hasB_setH h n k a
    unfold hasB at ih ⊢
    show Nat.testBit (if a / 64 = (n + k) / 64 then setH h n k (a / 64) ||| 2 ^ ((n + k) % 64) else setH h n k (a / 64)) (a % 64) = _
    by_cases c : a / 64 = (n + k) / 64
    · rw [if_pos c, Nat.testBit_or, ih, Nat.testBit_two_pow]
      by_cases e : a = n + k
      · subst e; simp
      · have e2 : (n + k) % 64 ≠ a % 64 := by omega
        have e3 : (a < n + (k + 1)) ↔ (a < n + k) := by omega
        simp [e2, e3]
    · rw [if_neg c, ih]
      have e3 : (a < n + (k + 1)) ↔ (a < n + k) := by omega
      simp [e3]
/-- What the addresses are behind a Put. -/
theorem sOf_put (f h : Nat → Nat) (n : Nat) (bs : List Nat) (hl : n + bs.length ≤ 65536) (hno : NoneIn h n bs.length) :
    sOf f h = ((List.range' 0 n).filter (hasB h)).map (elemOf f) ++ ((List.range' (n + bs.length) (65536 - (n + bs.length))).filter (hasB h)).map (elemOf f) ∧
    sOf (putF f n bs) (setH h n bs.length) = ((List.range' 0 n).filter (hasB h)).map (elemOf f) ++ ((List.range' 0 bs.length).map fun i => (⟨((n + i : Nat) : Int), (bs.getD i 0 : Int)⟩ : S37)) ++ ((List.range' (n + bs.length) (65536 - (n + bs.length))).filter (hasB h)).map (elemOf f) := by
  have hmid : (List.range' n bs.length).filter (hasB h) = [] := by
    rw [List.filter_eq_nil_iff]
    intro a ha
    rw [List.mem_range'_1] at ha
    have := hno (a - n) (by omega)
    rw [show n + (a - n) = a by omega] at this
    simp [this]
  constructor
  · unfold sOf
    rw [addrsTo_split h n bs.length hl, hmid, List.nil_append, List.map_append]
  · unfold sOf
    rw [addrsTo_split _ n bs.length hl, List.map_append, List.map_append, List.append_assoc]
    have e1 : (List.range' 0 n).filter (hasB (setH h n bs.length)) = (List.range' 0 n).filter (hasB h) := by
      refine List.filter_congr fun a ha => ?_
      rw [List.mem_range'_1] at ha
      rw [hasB_setH]; simp; omega
    have e3 : (List.range' (n + bs.length) (65536 - (n + bs.length))).filter (hasB (setH h n bs.length)) = (List.range' (n + bs.length) (65536 - (n + bs.length))).filter (hasB h) := by
      refine List.filter_congr fun a ha => ?_
      rw [List.mem_range'_1] at ha
      rw [hasB_setH]; simp; omega
    have e2 : (List.range' n bs.length).filter (hasB (setH h n bs.length)) = List.range' n bs.length := by
      rw [List.filter_eq_self]
      intro a ha
      rw [List.mem_range'_1] at ha
      rw [hasB_setH]; simp; omega
    rw [e1, e2, e3]
    congr 1
    · refine List.map_congr_left fun a ha => ?_
      have := (List.mem_filter.1 ha).1
      rw [List.mem_range'_1] at this
      unfold elemOf putF
      rw [if_neg (by omega)]
    · congr 1
      · rw [show List.range' n bs.length = (List.range' 0 bs.length).map (n + ·) by rw [List.map_add_range']; simp, List.map_map]
        refine List.map_congr_left fun i hi => ?_
        rw [List.mem_range'_1] at hi
        simp only [Function.comp, elemOf, putF]
        rw [if_pos (by omega), show n + i - n = i by omega]
      · refine List.map_congr_left fun a ha => ?_
        have := (List.mem_filter.1 ha).1
        rw [List.mem_range'_1] at this
        unfold elemOf putF
        rw [if_neg (by omega)]
end Go.Proofs.YtgcjioncfldgcaaDoor.I
namespace Go.Proofs.YtgcjioncfldgcaaDoor.I
open Go Go.RowKit Go.Proofs.YtgcjioncfldgcaaDoorW.PrintWords Go.Proofs.YtgcjioncfldgcaaDoorW.PrintLast Go.Proofs.YtgcjioncfldgcaaDoorW.PrintMore G
def Small (s : List S37) : Prop := s.length ≤ 65536 ∧ ∀ i (h : i < s.length), 0 ≤ s[i].f0 ∧ s[i].f0 ≤ 65535
theorem l0_step {s : List S37} (hs : Small s) (n : Nat) (hn : n ≤ 65536) (bs : List Int) (k i : Nat) (hi : i < s.length) :
    pidginref02_Put.l0 (k + 1) s n bs i = if (n : Int) ≤ s[i].f0 ∧ s[i].f0 - n < bs.length then some (s, 6) else pidginref02_Put.l0 k s n bs ((i + 1 : Nat) : Int) := by
  obtain ⟨a, b⟩ := hs.2 i hi
  have hl := hs.1
  rw [pidginref02_Put.l0, if_pos (by omega), if_pos (by omega), rd37 hi, w64 (by omega) (by omega), w64 (n := s[i].f0 - n) (by omega) (by omega), w64 (n := (i : Int) + 1) (by omega) (by omega)]
  rw [show ((i : Int) + 1) = ((i + 1 : Nat) : Int) by omega]
  by_cases c1 : s[i].f0 ≥ (n : Int)
  · by_cases c2 : s[i].f0 - n < bs.length
    · rw [if_pos c1, if_pos c2, if_pos ⟨c1, c2⟩]
    · rw [if_pos c1, if_neg c2, if_neg (fun h => c2 h.2)]
  · rw [if_neg c1, if_neg (fun h => c1 h.1)]
theorem l0_end (s : List S37) (n : Nat) (bs : List Int) (k : Nat) : pidginref02_Put.l0 (k + 1) s n bs (s.length : Nat) = pidginref02_Put.l1 k s n bs 0 := by
  rw [pidginref02_Put.l0, if_neg (by omega)]
theorem l0_hit {s : List S37} (hs : Small s) (n : Nat) (hn : n ≤ 65536) (bs : List Int) : ∀ (d i k j : Nat) (hj : j < s.length), i + d = s.length → i ≤ j → (n : Int) ≤ s[j].f0 ∧ s[j].f0 - n < bs.length → pidginref02_Put.l0 (k + d) s n bs i = some (s, 6)
  | 0, i, k, j, hj, hd, hij, _ => by omega
  | d + 1, i, k, j, hj, hd, hij, h => by
    rw [← Nat.add_assoc, l0_step hs n hn bs _ i (by omega)]
    split
    · rfl
    · rename_i c
      have : i ≠ j := by rintro rfl; exact c h
      exact l0_hit hs n hn bs d (i + 1) k j hj (by omega) (by omega) h
theorem l0_miss {s : List S37} (hs : Small s) (n : Nat) (hn : n ≤ 65536) (bs : List Int) (hno : ∀ j (hj : j < s.length), ¬ ((n : Int) ≤ s[j].f0 ∧ s[j].f0 - n < bs.length)) : ∀ (d i k : Nat), i + d = s.length → pidginref02_Put.l0 (k + d + 1) s n bs i = pidginref02_Put.l1 k s n bs 0
  | 0, i, k, hd => by obtain rfl : i = s.length := by omega
                      exact l0_end s n bs k
  | d + 1, i, k, hd => by
    rw [show k + (d + 1) + 1 = (k + d + 1) + 1 by omega, l0_step hs n hn bs _ i (by omega), if_neg (hno i (by omega))]
    exact l0_miss hs n hn bs hno d (i + 1) k (by omega)
theorem l1_run {s : List S37} (hs : Small s) (n : Nat) (bs : List Int) (p : Nat) (hp : p ≤ s.length) (hlo : ∀ j (hj : j < s.length), j < p → s[j].f0 < n) (hhi : ∀ hj : p < s.length, (n : Int) ≤ s[p].f0) :
    ∀ (d i k : Nat), i + d = p → pidginref02_Put.l1 (k + d + 1) s n bs i = pidginref02_Put.j3 k s n bs p
  | 0, i, k, hd => by
    obtain rfl : i = p := by omega
    have hl := hs.1
    rw [Nat.add_zero, pidginref02_Put.l1]
    by_cases c : i < s.length
    · obtain ⟨a, b⟩ := hs.2 i c
      rw [if_pos (by omega), if_pos (by omega), rd37 c, w64 (by omega) (by omega), if_neg (by have := hhi c; omega)]
    · rw [if_neg (by omega)]
  | d + 1, i, k, hd => by
    have hl := hs.1
    have c : i < s.length := by omega
    obtain ⟨a, b⟩ := hs.2 i c
    rw [show k + (d + 1) + 1 = (k + d + 1) + 1 by omega, pidginref02_Put.l1, if_pos (by omega), if_pos (by omega), rd37 c, w64 (by omega) (by omega), if_pos (hlo i c (by omega)), w64 (n := (i : Int) + 1) (by omega) (by omega), show ((i : Int) + 1) = ((i + 1 : Nat) : Int) by omega]
    exact l1_run hs n bs p hp hlo hhi d (i + 1) k (by omega)
def newOf (n : Nat) (bs : List Int) (i : Nat) : S37 := ⟨((n + i : Nat) : Int), bs.getD i 0⟩
theorem l2_run {s : List S37} (hs : Small s) (n : Nat) (bs : List Int) (p : Nat) (hp : p ≤ s.length) (hnb : n + bs.length ≤ 65536) (hnb2 : n < 65536 ∨ bs.length = 0) :
    ∀ (d i k : Nat) (acc : List S37), i + d = bs.length → acc.length ≤ 65536 + i → pidginref02_Put.l2 (k + d + 1) s n bs p acc i = some (acc ++ (List.range' i d).map (newOf n bs) ++ s.drop p, 0)
  | 0, i, k, acc, hd, ha => by
    have hl := hs.1
    rw [Nat.add_zero, pidginref02_Put.l2, if_neg (by omega), if_pos (by omega), if_pos (by omega)]
    simp only [Option.bind_some, Int.toNat_natCast]
    rw [if_pos (by rw [List.length_drop]; omega)]
    simp
  | d + 1, i, k, acc, hd, ha => by
    have hl := hs.1
    rw [show k + (d + 1) + 1 = (k + d + 1) + 1 by omega, pidginref02_Put.l2, if_pos (by omega), if_pos (by omega), if_pos (by omega), w64 (n := (n : Int) + i) (by omega) (by omega), w64 (n := (i : Int) + 1) (by omega) (by omega), show ((i : Int) + 1) = ((i + 1 : Nat) : Int) by omega]
    have e : (⟨IntKind.u16.wrap ((n : Int) + i), rd bs i⟩ : S37) = newOf n bs i := by
      unfold newOf
      rw [IntWalk.u16_in _ (by omega)]
      congr 1
    rw [e, l2_run hs n bs p hp hnb hnb2 d (i + 1) k (acc ++ [newOf n bs i]) (by omega) (by simp; omega)]
    rw [List.range'_succ, List.map_cons]
    simp
theorem put_f_neg (k : Nat) (s : List S37) (n : Int) (bs : List Int) (h : n < 0) : pidginref02_Put.f k s n bs = some (s, 1) := by
  unfold pidginref02_Put.f; rw [if_pos h]
theorem put_f_over (s : List S37) (n : Nat) (bs : List Int) (hb : bs.length ≤ 9223372036854775807) (h : 65536 < bs.length ∨ 65536 < n + bs.length) : pidginref02_Put.f 1 s n bs = some (s, 7) := by
  unfold pidginref02_Put.f
  rw [if_neg (by omega)]
  by_cases c : (bs.length : Int) > 65536
  · rw [if_pos c]; rfl
  · rw [if_neg c, w64 (by omega) (by omega)]
    have : decide ((n : Int) > 65536 - (bs.length : Int)) = true := decide_eq_true (by omega)
    rw [this]; rfl
theorem put_f_in (k : Nat) (s : List S37) (n : Nat) (bs : List Int) (h : n + bs.length ≤ 65536) : pidginref02_Put.f (k + 1) s n bs = pidginref02_Put.l0 k s n bs 0 := by
  unfold pidginref02_Put.f
  rw [if_neg (by omega), if_neg (by omega), w64 (by omega) (by omega)]
  have : decide ((n : Int) > 65536 - (bs.length : Int)) = false := decide_eq_false (by omega)
  rw [this]; rfl
theorem put_f_lap {s : List S37} (hs : Small s) (n : Nat) (bs : List Int) (h : n + bs.length ≤ 65536) (j : Nat) (hj : j < s.length) (hl : (n : Int) ≤ s[j].f0 ∧ s[j].f0 - n < bs.length) : ∃ k, pidginref02_Put.f k s n bs = some (s, 6) :=
  ⟨0 + s.length + 1, by rw [put_f_in _ s n bs h]; exact l0_hit hs n (by omega) bs s.length 0 0 j hj (by omega) (by omega) hl⟩
theorem put_f_ok {s : List S37} (hs : Small s) (n : Nat) (bs : List Int) (h : n + bs.length ≤ 65536) (hno : ∀ j (hj : j < s.length), ¬ ((n : Int) ≤ s[j].f0 ∧ s[j].f0 - n < bs.length))
    (p : Nat) (hp : p ≤ s.length) (hlo : ∀ j (hj : j < s.length), j < p → s[j].f0 < n) (hhi : ∀ hj : p < s.length, (n : Int) ≤ s[p].f0) :
    ∃ k, pidginref02_Put.f k s n bs = some (s.take p ++ (List.range' 0 bs.length).map (newOf n bs) ++ s.drop p, 0) := by
  refine ⟨((((0 + bs.length + 1) + 1) + p + 1) + s.length + 1) + 1, ?_⟩
  rw [put_f_in _ s n bs h]
  have e1 := l0_miss hs n (by omega) bs hno s.length 0 (((0 + bs.length + 1) + 1) + p + 1) (by omega)
  have e2 := l1_run hs n bs p hp hlo hhi p 0 ((0 + bs.length + 1) + 1) (by omega)
  have hl := hs.1
  have e3 : pidginref02_Put.j3 ((0 + bs.length + 1) + 1) s n bs p = pidginref02_Put.l2 (0 + bs.length + 1) s n bs p (s.take p) 0 := by
    rw [pidginref02_Put.j3]
    simp only [Option.bind_some, Int.toNat_natCast, List.nil_append, List.length_nil]
    rw [if_pos (by omega), if_pos (by omega), if_pos (by rw [List.length_take]; omega)]
  have e4 := l2_run hs n bs p hp h (by omega) bs.length 0 0 (s.take p) (by omega) (by rw [List.length_take]; omega)
  rw [← e4, ← Int.natCast_zero, e1, ← Int.natCast_zero, e2, e3]
  rfl
end Go.Proofs.YtgcjioncfldgcaaDoor.I
namespace Go.Proofs.YtgcjioncfldgcaaDoor.I
open Go Go.RowKit Go.Proofs.YtgcjioncfldgcaaDoorW.PrintWords Go.Proofs.YtgcjioncfldgcaaDoorW.PrintLast Go.Proofs.YtgcjioncfldgcaaDoorW.PrintMore G
theorem sOf_length (f h : Nat → Nat) : (sOf f h).length = (addrsTo h 65536).length := by simp [sOf]
theorem sOf_at (f h : Nat → Nat) (i : Nat) (hi : i < (sOf f h).length) : (sOf f h)[i] = elemOf f ((addrsTo h 65536)[i]'(by rw [sOf_length] at hi; exact hi)) := by simp [sOf]
theorem addr_lt (h : Nat → Nat) (i : Nat) (hi : i < (addrsTo h 65536).length) : (addrsTo h 65536)[i] < 65536 ∧ hasB h (addrsTo h 65536)[i] = true := by
  have := List.getElem_mem hi
  generalize (addrsTo h 65536)[i] = a at this
  unfold addrsTo at this
  rw [List.mem_filter, List.mem_range] at this
  exact this
theorem sOf_small (f h : Nat → Nat) : Small (sOf f h) := by
  refine ⟨by rw [sOf_length]; exact addrsTo_length h 65536, fun i hi => ?_⟩
  rw [sOf_at]
  have := (addr_lt h i (by rw [sOf_length] at hi; exact hi)).1
  simp only [elemOf]; omega
theorem addr_find (h : Nat → Nat) (a : Nat) (ha : a < 65536) (hb : hasB h a = true) : ∃ (i : Nat) (hi : i < (addrsTo h 65536).length), (addrsTo h 65536)[i] = a := by
  have : a ∈ addrsTo h 65536 := by unfold addrsTo; rw [List.mem_filter, List.mem_range]; exact ⟨ha, hb⟩
  exact List.mem_iff_getElem.1 this
def ints (bs : List Nat) : List Int := bs.map fun x : Nat => (x : Int)
theorem spec_lap (f h : Nat → Nat) (n : Nat) (bs : List Nat) (hl : n + bs.length ≤ 65536) (hlap : ∃ i, i < bs.length ∧ hasB h (n + i) = true) : ∃ k, pidginref02_Put.f k (sOf f h) n (ints bs) = some (sOf f h, 6) := by
  obtain ⟨i, hi, hb⟩ := hlap
  obtain ⟨j, hj, e⟩ := addr_find h (n + i) (by omega) hb
  refine put_f_lap (sOf_small f h) n (ints bs) (by simpa [ints] using hl) j (by rw [sOf_length]; exact hj) ?_
  rw [sOf_at]
  simp only [elemOf, e, ints, List.length_map]
  omega
theorem spec_ok (f h : Nat → Nat) (n : Nat) (bs : List Nat) (hl : n + bs.length ≤ 65536) (hno : NoneIn h n bs.length) : ∃ k, pidginref02_Put.f k (sOf f h) n (ints bs) = some (sOf (putF f n bs) (setH h n bs.length), 0) := by
  obtain ⟨e1, e2⟩ := sOf_put f h n bs hl hno
  obtain ⟨P1, hP1⟩ : ∃ P, P = ((List.range' 0 n).filter (hasB h)).map (elemOf f) := ⟨_, rfl⟩
  obtain ⟨P3, hP3⟩ : ∃ P, P = ((List.range' (n + bs.length) (65536 - (n + bs.length))).filter (hasB h)).map (elemOf f) := ⟨_, rfl⟩
  rw [← hP1, ← hP3] at e1 e2
  have lo : ∀ x ∈ P1, x.f0 < n := fun x hx => by
    rw [hP1, List.mem_map] at hx
    obtain ⟨a, ha, rfl⟩ := hx
    have := (List.mem_filter.1 ha).1
    rw [List.mem_range'_1] at this
    simp only [elemOf]; omega
  have hi : ∀ x ∈ P3, (n : Int) + bs.length ≤ x.f0 := fun x hx => by
    rw [hP3, List.mem_map] at hx
    obtain ⟨a, ha, rfl⟩ := hx
    have := (List.mem_filter.1 ha).1
    rw [List.mem_range'_1] at this
    simp only [elemOf]; omega
  have hs := sOf_small f h
  rw [e1] at hs ⊢
  obtain ⟨k, hk⟩ := put_f_ok hs n (ints bs) (by simpa [ints] using hl) (fun j hj hc => by
    have hm := List.getElem_mem hj
    rcases List.mem_append.1 hm with q | q
    · have := lo _ q; omega
    · have := hi _ q; simp only [ints, List.length_map] at hc; omega) P1.length (by simp) (fun j hj hjp => by
      rw [List.getElem_append_left hjp]; exact lo _ (List.getElem_mem _)) (fun hp => by
      have := hi _ (List.getElem_mem (l := P3) (n := 0) (by simp at hp; exact hp))
      rw [List.getElem_append_right (Nat.le_refl _)]
      simp only [Nat.sub_self]; omega)
  refine ⟨k, ?_⟩
  rw [hk, e2]
  rw [List.take_left, List.drop_left]
  have e3 : (List.range' 0 (ints bs).length).map (newOf n (ints bs)) = (List.range' 0 bs.length).map fun i => (⟨((n + i : Nat) : Int), (bs.getD i 0 : Int)⟩ : S37) := by
    rw [show (ints bs).length = bs.length by simp [ints]]
    refine List.map_congr_left fun i hi => ?_
    rw [List.mem_range'_1] at hi
    simp [newOf, ints, List.getD_eq_getElem?_getD, show i < bs.length by omega]
  rw [e3]
theorem rdn {l : List Int} {i : Nat} (h : i < l.length) : rd l (i : Int) = l[i] := by
  simp [rd, List.getD_eq_getElem?_getD, List.getElem?_eq_getElem h]
theorem same_run (s : List S37) (hl : s.length ≤ 65536) : ∀ (d i k : Nat), i + d = s.length → pidginref02_Same.l0 (k + d + 1) s s i = some true
  | 0, i, k, hd => by rw [Nat.add_zero, pidginref02_Same.l0, if_neg (by omega)]
  | d + 1, i, k, hd => by
    rw [show k + (d + 1) + 1 = (k + d + 1) + 1 by omega, pidginref02_Same.l0, if_pos (by omega), if_pos (by omega), if_pos (by omega), if_neg (by simp), w64 (n := (i : Int) + 1) (by omega) (by omega), show ((i : Int) + 1) = ((i + 1 : Nat) : Int) by omega]
    exact same_run s hl d (i + 1) k (by omega)
theorem same_f (s : List S37) (hl : s.length ≤ 65536) : ∃ k, pidginref02_Same.f k s s = some true :=
  ⟨0 + s.length + 1, by unfold pidginref02_Same.f; rw [if_pos rfl]; exact same_run s hl s.length 0 0 (by omega)⟩
theorem bytes_run (s : List Int) (hl : s.length ≤ 65536) : ∀ (d i k : Nat), i + d = s.length → pidginref02_Bytes.l0 (k + d + 1) s s i = some true
  | 0, i, k, hd => by rw [Nat.add_zero, pidginref02_Bytes.l0, if_neg (by omega)]
  | d + 1, i, k, hd => by
    rw [show k + (d + 1) + 1 = (k + d + 1) + 1 by omega, pidginref02_Bytes.l0, if_pos (by omega), if_pos (by omega), if_pos (by omega), if_pos rfl, w64 (n := (i : Int) + 1) (by omega) (by omega), show ((i : Int) + 1) = ((i + 1 : Nat) : Int) by omega]
    exact bytes_run s hl d (i + 1) k (by omega)
theorem bytes_f (s : List Int) (hl : s.length ≤ 65536) : ∃ k, pidginref02_Bytes.f k s s = some true :=
  ⟨0 + s.length + 1, by unfold pidginref02_Bytes.f; rw [if_pos rfl]; exact bytes_run s hl s.length 0 0 (by omega)⟩
theorem find_step {s : List S37} (hs : Small s) (a : Int) (k i : Nat) (hi : i < s.length) : pidginref02_Find.l0 (k + 1) s a i = if s[i].f0 = a then some (i : Int) else pidginref02_Find.l0 k s a ((i + 1 : Nat) : Int) := by
  have hl := hs.1
  rw [pidginref02_Find.l0, if_pos (by omega), if_pos (by omega), rd37 hi, w64 (n := (i : Int) + 1) (by omega) (by omega), show ((i : Int) + 1) = ((i + 1 : Nat) : Int) by omega]
theorem find_hit {s : List S37} (hs : Small s) (a : Int) : ∀ (d i k j : Nat) (hj : j < s.length), i + d = s.length → i ≤ j → s[j].f0 = a → (∀ m (hm : m < s.length), s[m].f0 = a → m = j) → pidginref02_Find.l0 (k + d) s a i = some (j : Int)
  | 0, i, k, j, hj, hd, hij, _, _ => by omega
  | d + 1, i, k, j, hj, hd, hij, h, hu => by
    rw [← Nat.add_assoc, find_step hs a _ i (by omega)]
    by_cases e : i = j
    · subst e; rw [if_pos h]
    · rw [if_neg (fun hc => e (hu i (by omega) hc))]
      exact find_hit hs a d (i + 1) k j hj (by omega) (by omega) h hu
theorem find_miss {s : List S37} (hs : Small s) (a : Int) (hno : ∀ m (hm : m < s.length), s[m].f0 ≠ a) : ∀ (d i k : Nat), i + d = s.length → pidginref02_Find.l0 (k + d + 1) s a i = some (-1)
  | 0, i, k, hd => by rw [Nat.add_zero, pidginref02_Find.l0, if_neg (by omega)]
  | d + 1, i, k, hd => by
    rw [show k + (d + 1) + 1 = (k + d + 1) + 1 by omega, find_step hs a _ i (by omega), if_neg (hno i (by omega))]
    exact find_miss hs a hno d (i + 1) k (by omega)
theorem find_no {s : List S37} (hs : Small s) (a : Int) (hno : ∀ m (hm : m < s.length), s[m].f0 ≠ a) : ∃ k, pidginref02_Find.f k s a = some (-1) := ⟨0 + s.length + 1, find_miss hs a hno s.length 0 0 (by omega)⟩
theorem find_yes {s : List S37} (hs : Small s) (a : Int) (j : Nat) (hj : j < s.length) (h : s[j].f0 = a) (hu : ∀ m (hm : m < s.length), s[m].f0 = a → m = j) : ∃ k, pidginref02_Find.f k s a = some (j : Int) := ⟨0 + s.length, find_hit hs a s.length 0 0 j hj (by omega) (by omega) h hu⟩
theorem addrs_nodup (h : Nat → Nat) : (addrsTo h 65536).Nodup := List.Nodup.sublist List.filter_sublist List.nodup_range
/-- Where an address is found: its place, or -1. -/
theorem find_f (f h : Nat → Nat) (a : Nat) (ha : a < 65536) :
    (hasB h a = false ∧ ∃ k, pidginref02_Find.f k (sOf f h) a = some (-1)) ∨
    (hasB h a = true ∧ ∃ (k j : Nat) (hj : j < (sOf f h).length), pidginref02_Find.f k (sOf f h) a = some (j : Int) ∧ (sOf f h)[j] = elemOf f a) := by
  cases hb : hasB h a
  · refine .inl ⟨rfl, find_no (sOf_small f h) a (fun m hm e => ?_)⟩
    rw [sOf_at] at e
    have := (addr_lt h m (by rw [sOf_length] at hm; exact hm)).2
    simp only [elemOf] at e
    rw [Int.ofNat_inj.1 e, hb] at this
    cases this
  · obtain ⟨j, hj, e⟩ := addr_find h a ha hb
    have hj' : j < (sOf f h).length := by rw [sOf_length]; exact hj
    have ej : (sOf f h)[j] = elemOf f a := by rw [sOf_at, e]
    obtain ⟨k, hk⟩ := find_yes (sOf_small f h) a j hj' (by rw [ej]; rfl) (fun m hm hm2 => by
      rw [sOf_at] at hm2
      simp only [elemOf] at hm2
      have hm' : m < (addrsTo h 65536).length := by rw [sOf_length] at hm; exact hm
      exact (List.getElem_inj (addrs_nodup h)).1 ((Int.ofNat_inj.1 hm2).trans e.symm))
    exact .inr ⟨rfl, k, j, hj', hk, ej⟩
theorem light_run (l : List S51) (hl : l.length ≤ 30) : ∀ (d i k : Nat), i + d = l.length → ∃ r, pidginlaw02_light.l0 (k + d + 1) l i = some r
  | 0, i, k, hd => ⟨true, by rw [Nat.add_zero, pidginlaw02_light.l0, if_neg (by omega)]⟩
  | d + 1, i, k, hd => by
    rw [show k + (d + 1) + 1 = (k + d + 1) + 1 by omega, pidginlaw02_light.l0, if_pos (by omega), if_pos (by omega), w64 (n := (i : Int) + 1) (by omega) (by omega), show ((i : Int) + 1) = ((i + 1 : Nat) : Int) by omega]
    split
    · exact ⟨false, rfl⟩
    · exact light_run l hl d (i + 1) k (by omega)
theorem light_f (l : List S51) : ∃ k r, pidginlaw02_light.f k l = some r := by
  by_cases c : (l.length : Int) > 30
  · exact ⟨0, false, by unfold pidginlaw02_light.f; rw [if_pos c]⟩
  · obtain ⟨r, hr⟩ := light_run l (by omega) l.length 0 0 (by omega)
    exact ⟨_, r, by unfold pidginlaw02_light.f; rw [if_neg c]; exact hr⟩
end Go.Proofs.YtgcjioncfldgcaaDoor.I
namespace Go.Proofs.YtgcjioncfldgcaaDoor.I
open Go Go.RowKit Go.Proofs.YtgcjioncfldgcaaDoorW.PrintWords Go.Proofs.YtgcjioncfldgcaaDoorW.PrintLast Go.Proofs.YtgcjioncfldgcaaDoorW.PrintMore G
theorem lastOf_snoc (rs : List S45) (a : Int) (x : Nat) : lastOf (rs ++ [⟨a, []⟩]) x = rs ++ [⟨a, [(x : Int)]⟩] := by
  unfold lastOf
  have e : (rs ++ [(⟨a, []⟩ : S45)]).length - 1 = rs.length := by simp
  rw [e]
  have e2 : (rs ++ [(⟨a, []⟩ : S45)]).getD rs.length z45 = ⟨a, []⟩ := by simp [List.getD_eq_getElem?_getD]
  rw [e2, List.set_append_right _ _ (Nat.le_refl _)]
  simp
theorem rd45 (rs : List S45) (i : Nat) : rd_T45 rs (i : Int) = rs.getD i z45 := by simp [rd_T45]
theorem runs_run {s : List S37} (hs : Small s) (A B : Nat → Nat) (hA : ∀ j (hj : j < s.length), s[j].f0 = (A j : Int) ∧ s[j].f1 = (B j : Int)) : ∀ (d i k : Nat), i + d = s.length → pidginref02_Runs.l0 (k + d + 1) s (runsK A B i) i = some (runsK A B s.length)
  | 0, i, k, hd => by
    obtain rfl : i = s.length := by omega
    rw [Nat.add_zero, pidginref02_Runs.l0, if_neg (by omega)]
  | d + 1, i, k, hd => by
    have hl := hs.1
    have hi : i < s.length := by omega
    have ih := runs_run hs A B hA d (i + 1) k (by omega)
    obtain ⟨a1, a2⟩ := hA i hi
    have hlen := runsK_len A B i
    obtain ⟨q1, q2⟩ := hs.2 i hi
    rw [show k + (d + 1) + 1 = (k + d + 1) + 1 by omega, pidginref02_Runs.l0, if_pos (by omega)]
    have ew : wrap64 ((i : Int) + 1) = ((i + 1 : Nat) : Int) := by rw [w64 (by omega) (by omega)]; omega
    rw [ew, rd37 hi, a1, a2]
    by_cases c0 : 0 < i
    · have hi1 : i - 1 < s.length := by omega
      obtain ⟨b1, _⟩ := hA (i - 1) hi1
      obtain ⟨p1, p2⟩ := hs.2 (i - 1) hi1
      have ew1 : wrap64 ((i : Int) - 1) = ((i - 1 : Nat) : Int) := by rw [w64 (by omega) (by omega)]; omega
      have hpos := runsK_pos A B i c0
      have ew2 : wrap64 (((runsK A B i).length : Int) - 1) = (((runsK A B i).length - 1 : Nat) : Int) := by rw [w64 (by omega) (by omega)]; omega
      rw [ew1, ew2, if_pos (by omega), if_pos (by omega), if_pos (by omega), if_pos (by omega), rd37 hi1, b1, w64 (n := (A (i - 1) : Int)) (by omega) (by omega), w64 (n := (A i : Int)) (by omega) (by omega), w64 (n := (A i : Int) - 1) (by omega) (by omega)]
      by_cases c : A (i - 1) + 1 = A i
      · have hea := runsK_each A B i ((runsK A B i).length - 1)
        rw [if_pos (by omega), if_pos (by omega), if_pos (by omega), rd45, if_pos (by omega), Int.toNat_natCast]
        rw [runsK, if_pos ⟨c0, c⟩] at ih
        exact ih
      · rw [if_neg (by omega), if_pos (by omega)]
        rw [runsK, if_neg (fun h => c h.2), lastOf_snoc] at ih
        exact ih
    · rw [if_neg (by omega), if_pos (by omega), if_pos (by omega)]
      rw [runsK, if_neg (fun h => c0 h.1), lastOf_snoc] at ih
      exact ih
theorem runs_f {s : List S37} (hs : Small s) (A B : Nat → Nat) (hA : ∀ j (hj : j < s.length), s[j].f0 = (A j : Int) ∧ s[j].f1 = (B j : Int)) : ∃ k, pidginref02_Runs.f k s = some (runsK A B s.length) :=
  ⟨0 + s.length + 1, by unfold pidginref02_Runs.f; exact runs_run hs A B hA s.length 0 0 (by omega)⟩
/-- Which address stands at a place; which byte. -/
def atOf (h : Nat → Nat) (j : Nat) : Nat := (addrsTo h 65536).getD j 0
theorem atOf_at (h : Nat → Nat) (j : Nat) (hj : j < (addrsTo h 65536).length) : (addrsTo h 65536)[j]? = some (atOf h j) := by
  unfold atOf; rw [List.getD_eq_getElem?_getD, List.getElem?_eq_getElem hj]; rfl
theorem sOf_f (f h : Nat → Nat) (j : Nat) (hj : j < (sOf f h).length) : (sOf f h)[j].f0 = (atOf h j : Int) ∧ (sOf f h)[j].f1 = (f (atOf h j) : Int) := by
  have hj' : j < (addrsTo h 65536).length := by rw [sOf_length] at hj; exact hj
  have e : (addrsTo h 65536)[j] = atOf h j := by
    have := atOf_at h j hj'
    rw [List.getElem?_eq_getElem hj'] at this
    exact Option.some.inj this
  rw [sOf_at, e]
  exact ⟨rfl, rfl⟩
/-- The bytes are as many as the ones of all words. -/
theorem ones_count : ∀ (n x : Nat), ones n x = ((List.range n).filter fun i => x.testBit i).length
  | 0, _ => rfl
  | n + 1, x => by
    rw [ones, ones_count n (x / 2), List.range_succ_eq_map, List.filter_cons, List.filter_map]
    have e : (List.range n).filter ((fun i => x.testBit i) ∘ Nat.succ) = (List.range n).filter fun i => (x / 2).testBit i := by
      refine List.filter_congr fun i _ => ?_
      simp [Function.comp, Nat.testBit_succ]
    rw [e]
    have e0 : x.testBit 0 = decide (x % 2 = 1) := Nat.testBit_zero x
    rcases Nat.mod_two_eq_zero_or_one x with c | c
    · simp [c]
    · simp [c]; omega
theorem count_word (h : Nat → Nat) (k : Nat) : ∀ n, n ≤ 64 → (addrsTo h (64 * k + n)).length = (addrsTo h (64 * k)).length + ((List.range n).filter fun i => (h k).testBit i).length
  | 0, _ => by simp
  | n + 1, hn => by
    rw [← Nat.add_assoc, addrsTo_succ, List.length_append, count_word h k n (by omega), List.range_succ, List.filter_append, List.length_append]
    have e : hasB h (64 * k + n) = (h k).testBit n := by unfold hasB; rw [show (64 * k + n) / 64 = k by omega, show (64 * k + n) % 64 = n by omega]
    rw [e]
    cases c : (h k).testBit n <;> simp [c]
    omega
theorem lenTo_eq (h : Nat → Nat) : ∀ k, lenTo h k = (addrsTo h (64 * k)).length
  | 0 => rfl
  | k + 1 => by
    rw [lenTo, lenTo_eq h k, ones_count, show 64 * (k + 1) = 64 * k + 64 by omega, count_word h k 64 (Nat.le_refl _)]
theorem len_eq (h : Nat → Nat) : lenTo h 1024 = (addrsTo h 65536).length := lenTo_eq h 1024
end Go.Proofs.YtgcjioncfldgcaaDoor.I
namespace Go.Proofs.YtgcjioncfldgcaaDoor.I
open Go Go.RowKit Go.Proofs.YtgcjioncfldgcaaDoorW.PrintWords Go.Proofs.YtgcjioncfldgcaaDoorW.PrintLast Go.Proofs.YtgcjioncfldgcaaDoorW.PrintMore G
/-- What a Put answers, and what it makes of an image. -/
def PutRes (f h : Nat → Nat) (x : Int) (bs : List Nat) (k : Int) (f' h' : Nat → Nat) : Prop :=
  (x < 0 ∧ k = 1 ∧ f' = f ∧ h' = h) ∨ (0 ≤ x ∧ 65536 < x + bs.length ∧ k = 7 ∧ f' = f ∧ h' = h) ∨
  (0 ≤ x ∧ x + bs.length ≤ 65536 ∧ (∃ i, i < bs.length ∧ hasB h (x.toNat + i) = true) ∧ k = 6 ∧ f' = f ∧ h' = h) ∨
  (0 ≤ x ∧ x + bs.length ≤ 65536 ∧ NoneIn h x.toNat bs.length ∧ k = 0 ∧ f' = putF f x.toNat bs ∧ h' = setH h x.toNat bs.length)
theorem grown_same {w : World} {b : Nat} : w.grownBy w (some b) := ⟨rfl, rfl, rfl, Nat.le_refl _, fun _ _ _ => rfl⟩
theorem setH_zero (h : Nat → Nat) (n : Nat) : setH h n 0 = h := rfl
theorem putF_nil (f : Nat → Nat) (n : Nat) : putF f n [] = f := by funext i; simp [putF]; omega
theorem put_any (b : Nat) (x : Int) (s : Option Addr) (len cap : Nat) (f h : Nat → Nat) (bs : List Nat) (w : World) (H : ImgAt w b f h) (hh : ∀ j, h j < 18446744073709551616) (hx0 : -9223372036854775808 ≤ x) (hx1 : x ≤ 9223372036854775807)
    (hbs : bs.length = len) (hlen : len ≤ 9223372036854775807) (hsrc : ∀ j v, (bs.map fun x : Nat => Value.int .u8 x)[j]? = some v → ∃ a, s = some a ∧ w.cell? (a.add j) = some v) :
    Calls Tryd.prog 18 #[.pointer (some ⟨b, 0, none⟩), .int .i64 x, .slice s len cap] w fun e w' => ∃ k f' h', e = .returned (.int .i64 k) ∧ PutRes f h x bs k f' h' ∧ ImgAt w' b f' h' ∧ w.grownBy w' (some b) := by
  rcases Int.lt_or_le x 0 with c | c
  · refine (put_neg b _ x w c hx0).mono ?_
    rintro e w' ⟨rfl, rfl⟩
    exact ⟨1, f, h, rfl, .inl ⟨c, rfl, rfl, rfl⟩, H, grown_same⟩
  · obtain ⟨n, rfl⟩ : ∃ n : Nat, x = n := ⟨x.toNat, by omega⟩
    by_cases c2 : 65536 < n + len
    · refine (put_over b s n len cap w hlen (by omega) (by omega)).mono ?_
      rintro e w' ⟨rfl, rfl⟩
      exact ⟨7, f, h, rfl, .inr (.inl ⟨c, by omega, rfl, rfl, rfl⟩), H, grown_same⟩
    · by_cases c3 : ∃ i, i < len ∧ hasB h (n + i) = true
      · refine (put_lap b s n len cap f h w H (Lib.hid hh) (by omega) (by omega) (Lib.hid c3)).mono ?_
        rintro e w' ⟨rfl, rfl⟩
        exact ⟨6, f, h, rfl, .inr (.inr (.inl ⟨c, by omega, by rw [hbs]; exact c3, rfl, rfl, rfl⟩)), H, grown_same⟩
      · have hno : NoneIn h n len := fun j hj => by
          cases e : hasB h (n + j)
          · rfl
          · exact absurd ⟨j, hj, e⟩ c3
        rcases Nat.eq_zero_or_pos len with c4 | c4
        · subst c4
          have hb0 : bs = [] := List.eq_nil_of_length_eq_zero hbs
          subst hb0
          refine (put_empty b s n cap w (by omega)).mono ?_
          rintro e w' ⟨rfl, rfl⟩
          exact ⟨0, f, h, rfl, .inr (.inr (.inr ⟨c, by omega, hno, rfl, (putF_nil f n).symm, rfl⟩)), H, grown_same⟩
        · obtain ⟨a, rfl, _⟩ := hsrc 0 _ (List.getElem?_eq_getElem (by simp; omega))
          refine (put_ok b a n len cap f h bs w H (Lib.hid hh) (by omega) c4 (Lib.hid hbs) (Lib.hid fun j v hv => by obtain ⟨a', e, hc⟩ := hsrc j v hv; rw [Option.some.inj e]; exact hc) hno).mono ?_
          rintro e w' ⟨rfl, h1, h2⟩
          exact ⟨0, _, _, rfl, .inr (.inr (.inr ⟨c, by omega, by rw [hbs]; exact hno, rfl, rfl, rfl⟩)), by rw [hbs]; exact h1, h2⟩
end Go.Proofs.YtgcjioncfldgcaaDoor.I
namespace Go.Proofs.YtgcjioncfldgcaaDoor.I
open Go Go.RowKit Go.Proofs.YtgcjioncfldgcaaDoorW.PrintWords Go.Proofs.YtgcjioncfldgcaaDoorW.PrintLast Go.Proofs.YtgcjioncfldgcaaDoorW.PrintMore G
def Z0 : Nat → Nat := fun _ => 0
def F1 : Nat → Nat := putF Z0 5 [1, 2]
def H1 : Nat → Nat := setH Z0 5 2
def F2 : Nat → Nat := putF F1 7 [3]
def H2 : Nat → Nat := setH H1 7 1
theorem hasZ (a : Nat) : hasB Z0 a = false := by simp [hasB, Z0]
theorem res1 {k : Int} {f' h' : Nat → Nat} (h : PutRes Z0 Z0 5 [1, 2] k f' h') : k = 0 ∧ f' = F1 ∧ h' = H1 := by
  rcases h with ⟨h, _⟩ | ⟨_, h, _⟩ | ⟨_, _, ⟨i, _, h⟩, _⟩ | ⟨_, _, _, rfl, rfl, rfl⟩
  · omega
  · simp at h
  · rw [hasZ] at h; cases h
  · exact ⟨rfl, rfl, rfl⟩
theorem res2 {k : Int} {f' h' : Nat → Nat} (h : PutRes F1 H1 7 [3] k f' h') : k = 0 ∧ f' = F2 ∧ h' = H2 := by
  rcases h with ⟨h, _⟩ | ⟨_, h, _⟩ | ⟨_, _, ⟨i, hi, h⟩, _⟩ | ⟨_, _, _, rfl, rfl, rfl⟩
  · omega
  · simp at h
  · obtain rfl : i = 0 := by simpa using hi
    exact absurd h (by decide +kernel)
  · exact ⟨rfl, rfl, rfl⟩
theorem res3 {k : Int} {f' h' : Nat → Nat} (h : PutRes F2 H2 6 [9] k f' h') : k = 6 ∧ f' = F2 ∧ h' = H2 := by
  rcases h with ⟨h, _⟩ | ⟨_, h, _⟩ | ⟨_, _, _, rfl, rfl, rfl⟩ | ⟨_, _, h, _⟩
  · omega
  · simp at h
  · exact ⟨rfl, rfl, rfl⟩
  · have := h 0 (by decide)
    exact absurd this (by decide +kernel)
theorem addr3 : addrsTo H2 65536 = [5, 6, 7] := by decide +kernel
theorem small2 : (∀ j, H1 j < 18446744073709551616) ∧ (∀ j, H2 j < 18446744073709551616) ∧ (∀ j, Z0 j < 18446744073709551616) := by
  have a : ∀ j, Z0 j < 18446744073709551616 := fun j => by simp [Z0]
  have b := setH_lt a 5 2
  exact ⟨b, setH_lt b 7 1, a⟩
theorem F2_lt : ∀ i, F2 i < 256 := by
  intro i
  unfold F2 F1 putF
  split
  · rename_i c
    have : i = 7 := by simp at c; omega
    subst this; decide
  · split
    · rename_i c
      have : i = 5 ∨ i = 6 := by simp at c; omega
      rcases this with rfl | rfl <;> decide
    · show (0 : Nat) < 256; decide
def A3 (j : Nat) : Nat := 5 + j
def B3 (j : Nat) : Nat := 1 + j
theorem runs3 : runsK A3 B3 3 = [⟨5, [1, 2, 3]⟩] := by rfl
theorem put_at (W : World) (b : Nat) (x K : Int) (f h f1 h1 : Nat → Nat) (bs : List Nat) (len : Nat) (cells : Array Value) (H : ImgAt W b f h) (hh : ∀ j, h j < 18446744073709551616) (hx0 : 0 ≤ x) (hx1 : x ≤ 65535) (hbs : bs.length = len) (hl : len ≤ 2) (hc : cells.toList = bs.map fun x : Nat => Value.int .u8 (x : Int))
    (hres : ∀ k f' h', PutRes f h x bs k f' h' → k = K ∧ f' = f1 ∧ h' = h1) :
    Calls Tryd.prog 18 #[.pointer (some ⟨b, 0, none⟩), .int .i64 x, .slice (some ⟨W.heap.size, 0, none⟩) len len] (W.alloc (Obj.cells cells 5)) fun e w' => e = .returned (.int .i64 K) ∧ ImgAt w' b f1 h1 ∧ W.grownBy w' (some b) := by
  refine (put_any b x _ len len f h bs _ (H.of_heap (Below.heap_alloc _ _ _ H.lt)) hh (by omega) (by omega) hbs (by omega) (fun j v hv => ⟨_, rfl, ?_⟩)).mono ?_
  · have hadd : (⟨W.heap.size, 0, none⟩ : Addr).add j = ⟨W.heap.size, j, none⟩ := by unfold Addr.add; split <;> simp_all
    rw [← hc] at hv
    rw [hadd]
    simp only [World.cell?, World.alloc_heap_new]
    simpa using hv
  · rintro e w' ⟨k, f', h', rfl, hr, hI, hg⟩
    obtain ⟨rfl, rfl, rfl⟩ := hres _ _ _ hr
    exact ⟨rfl, hI, (World.grownBy_alloc W _ _).trans hg⟩
end Go.Proofs.YtgcjioncfldgcaaDoor.I
namespace Go.Proofs.YtgcjioncfldgcaaDoor.I
open Go Go.RowKit Go.Proofs.YtgcjioncfldgcaaDoorW.PrintWords Go.Proofs.YtgcjioncfldgcaaDoorW.PrintLast Go.Proofs.YtgcjioncfldgcaaDoorW.PrintMore G
set_option maxHeartbeats 1000000 in
set_option maxRecDepth 100000 in
theorem alive_any (w : World) (hT : Tabs w) (h0b : 0 < w.heap.size) : Calls Tryd.prog 6 #[] w fun e w' => e = .returned (.bool true) ∧ Below w.heap.size w w' := by
  have hnew := Lib.hid (new_any w)
  have HT := Lib.hid hT
  clear hT
  have hp1 := fun (W : World) (H : Hid (ImgAt W w.heap.size Z0 Z0)) => put_at W w.heap.size 5 0 Z0 Z0 F1 H1 [1, 2] 2 #[.int .u8 1, .int .u8 2] H.out small2.2.2 (by decide) (by decide) rfl (by decide) rfl (fun _ _ _ => res1)
  have hp2 := fun (W : World) (H : Hid (ImgAt W w.heap.size F1 H1)) => put_at W w.heap.size 7 0 F1 H1 F2 H2 [3] 1 #[.int .u8 3] H.out small2.1 (by decide) (by decide) rfl (by decide) rfl (fun _ _ _ => res2)
  have hp3 := fun (W : World) (H : Hid (ImgAt W w.heap.size F2 H2)) => put_at W w.heap.size 6 6 F2 H2 F2 H2 [9] 1 #[.int .u8 9] H.out small2.2.1 (by decide) (by decide) rfl (by decide) rfl (fun _ _ _ => res3)
  have hr : ∀ W, Hid (ImgAt W w.heap.size F2 H2) → Hid (Below w.heap.size w W) → Calls Tryd.prog 13 #[.pointer (some ⟨w.heap.size, 0, none⟩)] W fun e w' => ∃ (g cap c : Nat) (a : Option Addr), e = .returned (.slice (some ⟨g, 0, none⟩) 1 cap) ∧ w'.cell? ⟨g, 0, none⟩ = some (.int .u16 5) ∧ w'.cell? ⟨g, 1, none⟩ = some (.slice a 3 c) ∧ Below w.heap.size w w' := by
    intro W hI hB
    have hTW : Tabs W := fun j hj => (hB.out.cell (p := ⟨0, j, none⟩) h0b).trans (HT.out j hj)
    refine (runs_some w.heap.size 3 F2 H2 A3 B3 W hI.out (Lib.hid small2.2.1) hTW (Nat.lt_of_lt_of_le h0b hB.out.size) (Lib.hid F2_lt) (Lib.hid (by rw [addr3]; rfl)) (Lib.hid fun j hj => ?_) (by decide)).mono ?_
    · rw [addr3]
      match j, hj with
      | 0, _ => exact ⟨rfl, by decide +kernel⟩
      | 1, _ => exact ⟨rfl, by decide +kernel⟩
      | 2, _ => exact ⟨rfl, by decide +kernel⟩
    · rintro e w' ⟨v, rfl, hS, hB2⟩
      rw [runs3] at hS
      obtain ⟨g, cap, rfl, _⟩ := Kd.S_form hS (by decide)
      obtain ⟨_, _, hC⟩ := Kd.S_reads' hS
      obtain ⟨ad, A1, c1, e1, q0, q1, _, _⟩ := at_T45 hC 0 (by decide) (by decide)
      cases e1
      exact ⟨g, cap, c1, A1, rfl, by simpa [Addr.add, rd_T45] using q0, by simpa [Addr.add, rd_T45] using q1, hB.out.trans (hB2.mono hB.out.size)⟩
  have HP1 := Lib.hid hp1
  have HP2 := Lib.hid hp2
  have HP3 := Lib.hid hp3
  have HR := Lib.hid hr
  clear hp1 hp2 hp3 hr
  go_enter Tryd.func6, Tryd.ntmps6
  go_wp2_with (first
    | (go_at_call 17; (with_reducible refine hnew.out.mono ?_); rintro e W1 ⟨rfl, hI1, hs1, hB1⟩; have HI1 : Hid (ImgAt W1 w.heap.size Z0 Z0) := Lib.hid hI1; have HB1 := Lib.hid hB1; clear hI1 hB1 hs1)
    | (go_at_call 18; (with_reducible refine (HP1.out _ HI1).mono ?_); rintro e W2 ⟨rfl, hI2, hg2⟩; have HI2 := Lib.hid hI2; have HB2 := Lib.hid (HB1.out.grown hg2 HB1.out.size (fun k e => by cases e; exact Nat.le_refl _)); clear hI2 hg2 HI1)
    | (go_at_call 18; (with_reducible refine (HP2.out _ HI2).mono ?_); rintro e W3 ⟨rfl, hI3, hg3⟩; have HI3 := Lib.hid hI3; have HB3 := Lib.hid (HB2.out.grown hg3 HB2.out.size (fun k e => by cases e; exact Nat.le_refl _)); clear hI3 hg3 HI2)
    | (go_at_call 18; (with_reducible refine (HP3.out _ HI3).mono ?_); rintro e W4 ⟨rfl, hI4, hg4⟩; have HI4 := Lib.hid hI4; have HB4 := Lib.hid (HB3.out.grown hg4 HB3.out.size (fun k e => by cases e; exact Nat.le_refl _)); clear hI4 hg4 HI3)
    | (go_at_call 13; (with_reducible refine (HR.out _ HI4 HB4).mono ?_); rintro e W5 ⟨g, cap, c, a, rfl, q0, q1, hB5⟩; have HB5 := Lib.hid hB5; clear hB5))
  go_ret
  exact ⟨rfl, HB5.out⟩
end Go.Proofs.YtgcjioncfldgcaaDoor.I

/- PROVED: an image's cells, and what Get does. No condition beyond each theorem's own. -/
import Derived.WalkKit
import Derived.Below
import Derived.RangeFuncWrites
import Derived.Laws.BitsAllLaws
import Derived.Test.YtgcjioncfldgcaaDoorProg
import Derived.WalkLawsBesides
import Derived.WalkSpells
import Derived.Outline
import Derived.Lib.Hide
import Derived.LoopTactic
set_option linter.unusedVariables false
set_option linter.unusedSimpArgs false
/- Of no program: the sum by which math/bits counts ones is the number of ones. -/
namespace Go.Proofs.YtgcjioncfldgcaaDoor.I
def val : List Nat → Nat
  | [] => 0
  | a :: l => a + 256 * val l
def maskv (m : Nat) (n : Nat) : Nat := val (List.replicate n m)
theorem and_split (a b m n : Nat) (ha : a < 256) (hm : m < 256) : (a + 256 * b) &&& (m + 256 * n) = (a &&& m) + 256 * (b &&& n) := by
  have hand : a &&& m < 256 := Nat.lt_of_le_of_lt Nat.and_le_left ha
  apply Nat.eq_of_testBit_eq
  intro i
  rw [Nat.testBit_and]
  have e (x y : Nat) (hx : x < 256) : (x + 256 * y).testBit i = if i < 8 then x.testBit i else y.testBit (i - 8) := by
    rw [show x + 256 * y = 2 ^ 8 * y + x by omega, Nat.testBit_two_pow_mul_add y (by simpa using hx)]
  rw [e a b ha, e m n hm, e _ _ hand]
  split <;> simp [Nat.testBit_and]
theorem and_val (m : Nat) (hm : m < 256) : ∀ l : List Nat, (∀ a ∈ l, a < 256) → val l &&& maskv m l.length = val (l.map (· &&& m))
  | [], _ => by simp [val, maskv]
  | a :: l, h => by
    have ih := and_val m hm l (fun x hx => h x (.tail _ hx))
    simp only [List.length_cons, maskv, List.replicate_succ, val, List.map_cons]
    rw [and_split _ _ _ _ (h a (.head _)) hm, ← ih]
    rfl
def p1 (a : Nat) : Nat := ((a / 2) &&& 85) + (a &&& 85)
def p2 (a : Nat) : Nat := ((a / 4) &&& 51) + (a &&& 51)
def p3 (a : Nat) : Nat := ((a / 16) + a) &&& 15
theorem low1 : ∀ a : Fin 256, ∀ c : Fin 2, (a.val / 2 + 128 * c.val) &&& 85 = (a.val / 2) &&& 85 := by decide +kernel
theorem low2 : ∀ a : Fin 256, ∀ c : Fin 4, (a.val / 4 + 64 * c.val) &&& 51 = (a.val / 4) &&& 51 := by decide +kernel
theorem low3 : ∀ a : Fin 120, ∀ c : Fin 8, (a.val / 16 + 16 * c.val + a.val) &&& 15 = ((a.val / 16) + a.val) &&& 15 := by decide +kernel
theorem step1 : ∀ l : List Nat, (∀ a ∈ l, a < 256) → ((val l / 2) &&& maskv 85 l.length) + (val l &&& maskv 85 l.length) = val (l.map p1)
  | [], _ => rfl
  | a :: l, h => by
    have ih := step1 l (fun x hx => h x (.tail _ hx))
    have ha := h a (.head _)
    simp only [List.length_cons, maskv, List.replicate_succ, val, List.map_cons] at ih ⊢
    rw [and_split _ _ _ _ ha (by decide), show (a + 256 * val l) / 2 = (a / 2 + 128 * (val l % 2)) + 256 * (val l / 2) by omega, and_split _ _ _ _ (by omega) (by decide)]
    have e := low1 ⟨a, ha⟩ ⟨val l % 2, by omega⟩
    simp only [] at e
    rw [e]
    have e0 : p1 a = ((a / 2) &&& 85) + (a &&& 85) := rfl
    omega
theorem step2 : ∀ l : List Nat, (∀ a ∈ l, a < 256) → ((val l / 4) &&& maskv 51 l.length) + (val l &&& maskv 51 l.length) = val (l.map p2)
  | [], _ => rfl
  | a :: l, h => by
    have ih := step2 l (fun x hx => h x (.tail _ hx))
    have ha := h a (.head _)
    simp only [List.length_cons, maskv, List.replicate_succ, val, List.map_cons] at ih ⊢
    rw [and_split _ _ _ _ ha (by decide), show (a + 256 * val l) / 4 = (a / 4 + 64 * (val l % 4)) + 256 * (val l / 4) by omega, and_split _ _ _ _ (by omega) (by decide)]
    have e := low2 ⟨a, ha⟩ ⟨val l % 4, by omega⟩
    simp only [] at e
    rw [e]
    have e0 : p2 a = ((a / 4) &&& 51) + (a &&& 51) := rfl
    omega
theorem step3 : ∀ l : List Nat, (∀ a ∈ l, a < 120 ∧ a % 16 < 8) → ((val l / 16) + val l) &&& maskv 15 l.length = val (l.map p3)
  | [], _ => rfl
  | a :: l, h => by
    have ih := step3 l (fun x hx => h x (.tail _ hx))
    obtain ⟨ha, _⟩ := h a (.head _)
    have hc : val l % 16 < 8 := by
      cases l with
      | nil => simp [val]
      | cons b l => have := (h b (.tail _ (.head _))).2; simp only [val]; omega
    simp only [List.length_cons, maskv, List.replicate_succ, val, List.map_cons] at ih ⊢
    rw [show (a + 256 * val l) / 16 + (a + 256 * val l) = (a / 16 + 16 * (val l % 16) + a) + 256 * (val l / 16 + val l) by omega, and_split _ _ _ _ (by omega) (by decide)]
    have e := low3 ⟨a, ha⟩ ⟨val l % 16, hc⟩
    simp only [] at e
    rw [e, ih]
    rfl
/-- How many ones stand among the n lowest bits. -/
def ones : Nat → Nat → Nat
  | 0, _ => 0
  | n + 1, x => x % 2 + ones n (x / 2)
theorem ones_split (n a : Nat) (ha : a < 256) (y : Nat) : ones (n + 8) (a + 256 * y) = ones 8 a + ones n y := by
  simp only [ones]
  rw [show (a + 256 * y) / 2 / 2 / 2 / 2 / 2 / 2 / 2 / 2 = y by omega]
  omega
def pb (a : Nat) : Nat := p3 (p2 (p1 a))
theorem pb_ones : ∀ a : Fin 256, pb a.val = ones 8 a.val ∧ p1 a.val < 256 ∧ p2 (p1 a.val) < 120 ∧ p2 (p1 a.val) % 16 < 8 ∧ pb a.val ≤ 8 := by decide +kernel
theorem sum8 (c0 c1 c2 c3 c4 c5 c6 c7 : Nat) (h0 : c0 ≤ 8) (h1 : c1 ≤ 8) (h2 : c2 ≤ 8) (h3 : c3 ≤ 8) (h4 : c4 ≤ 8) (h5 : c5 ≤ 8) (h6 : c6 ≤ 8) (h7 : c7 ≤ 8) (x a b c : Nat)
    (hx : x = c0 + 256 * (c1 + 256 * (c2 + 256 * (c3 + 256 * (c4 + 256 * (c5 + 256 * (c6 + 256 * c7)))))))
    (ha : a = x + x / 256) (hb : b = a + a / 65536) (hc : c = b + b / 4294967296) : c % 128 = c0 + c1 + c2 + c3 + c4 + c5 + c6 + c7 ∧ a < 18446744073709551616 ∧ b < 18446744073709551616 ∧ c < 18446744073709551616 := by
  have d1 : x / 256 = c1 + 256 * (c2 + 256 * (c3 + 256 * (c4 + 256 * (c5 + 256 * (c6 + 256 * c7))))) := by omega
  have e1 : a = (c0 + c1) + 256 * ((c1 + c2) + 256 * ((c2 + c3) + 256 * ((c3 + c4) + 256 * ((c4 + c5) + 256 * ((c5 + c6) + 256 * ((c6 + c7) + 256 * c7)))))) := by rw [ha, d1, hx]; omega
  clear hx ha d1
  have d2 : a / 65536 = (c2 + c3) + 256 * ((c3 + c4) + 256 * ((c4 + c5) + 256 * ((c5 + c6) + 256 * ((c6 + c7) + 256 * c7)))) := by clear hb hc; omega
  have e2 : b = (c0 + c1 + c2 + c3) + 256 * ((c1 + c2 + c3 + c4) + 256 * ((c2 + c3 + c4 + c5) + 256 * ((c3 + c4 + c5 + c6) + 256 * ((c4 + c5 + c6 + c7) + 256 * ((c5 + c6 + c7) + 256 * ((c6 + c7) + 256 * c7)))))) := by rw [hb, d2, e1]; clear hb hc d2 e1; omega
  have e3 : b / 4294967296 = (c4 + c5 + c6 + c7) + 256 * ((c5 + c6 + c7) + 256 * ((c6 + c7) + 256 * c7)) := by clear e1 d2 hb hc; omega
  refine ⟨?_, by clear e2 d2 hb hc e3; omega, by clear e1 d2 hb hc e3; omega, by clear e1 d2 hb; omega⟩
  rw [hc, e3, e2]
  clear e1 d2 hb hc e2 e3
  omega
def m0 : Nat := 6148914691236517205
def m1 : Nat := 3689348814741910323
def m2 : Nat := 1085102592571150095
theorem masks : maskv 85 8 = m0 ∧ maskv 51 8 = m1 ∧ maskv 15 8 = m2 := by decide
theorem eight (x : Nat) (hx : x < 18446744073709551616) : ∃ b0 b1 b2 b3 b4 b5 b6 b7 : Nat, x = val [b0, b1, b2, b3, b4, b5, b6, b7] ∧ (∀ b ∈ [b0, b1, b2, b3, b4, b5, b6, b7], b < 256) := by
  refine ⟨x % 256, x / 256 % 256, x / 65536 % 256, x / 16777216 % 256, x / 4294967296 % 256, x / 1099511627776 % 256, x / 281474976710656 % 256, x / 72057594037927936 % 256, ?_, ?_⟩
  · simp only [val]; omega
  · intro b hb; simp at hb; rcases hb with rfl | rfl | rfl | rfl | rfl | rfl | rfl | rfl <;> omega
/-- The sum, and that nothing runs over. -/
theorem pop64 (x : Nat) (hx : x < 18446744073709551616) (y1 y2 y3 y4 y5 y6 : Nat)
    (h1 : y1 = ((x / 2) &&& m0) + (x &&& m0)) (h2 : y2 = ((y1 / 4) &&& m1) + (y1 &&& m1)) (h3 : y3 = ((y2 / 16) + y2) &&& m2)
    (h4 : y4 = y3 + y3 / 256) (h5 : y5 = y4 + y4 / 65536) (h6 : y6 = y5 + y5 / 4294967296) :
    y6 % 128 = ones 64 x ∧ y1 < 18446744073709551616 ∧ y2 < 18446744073709551616 ∧ y2 / 16 + y2 < 18446744073709551616 ∧ y3 < 18446744073709551616 ∧ y4 < 18446744073709551616 ∧ y5 < 18446744073709551616 ∧ y6 < 18446744073709551616 := by
  obtain ⟨b0, b1, b2, b3, b4, b5, b6, b7, hv, hb⟩ := eight x hx
  obtain ⟨k0, k1, k2⟩ := masks
  have q (b : Nat) (h : b < 256) := pb_ones ⟨b, h⟩
  simp only [] at q
  have r0 := q b0 (hb _ (by simp)); have r1 := q b1 (hb _ (by simp)); have r2 := q b2 (hb _ (by simp)); have r3 := q b3 (hb _ (by simp))
  have r4 := q b4 (hb _ (by simp)); have r5 := q b5 (hb _ (by simp)); have r6 := q b6 (hb _ (by simp)); have r7 := q b7 (hb _ (by simp))
  have e1 := step1 [b0, b1, b2, b3, b4, b5, b6, b7] hb
  have hb' : ∀ b ∈ [b0, b1, b2, b3, b4, b5, b6, b7].map p1, b < 256 := by
    intro b hb'; simp only [List.map_cons, List.map_nil, List.mem_cons, List.not_mem_nil, or_false] at hb'; rcases hb' with rfl | rfl | rfl | rfl | rfl | rfl | rfl | rfl <;> omega
  have e2 := step2 _ hb'
  have hb2 : ∀ b ∈ ([b0, b1, b2, b3, b4, b5, b6, b7].map p1).map p2, b < 120 ∧ b % 16 < 8 := by
    intro b hb'; simp only [List.map_cons, List.map_nil, List.mem_cons, List.not_mem_nil, or_false] at hb'; rcases hb' with rfl | rfl | rfl | rfl | rfl | rfl | rfl | rfl <;> omega
  have e3 := step3 _ hb2
  have l8 : [b0, b1, b2, b3, b4, b5, b6, b7].length = 8 := rfl
  rw [List.length_map, List.length_map, l8, k2] at e3
  rw [List.length_map, l8, k1] at e2
  rw [l8, k0] at e1
  rw [← hv] at e1
  rw [← h1] at e1
  rw [← e1, ← h2] at e2
  rw [← e2, ← h3] at e3
  have hs := sum8 (pb b0) (pb b1) (pb b2) (pb b3) (pb b4) (pb b5) (pb b6) (pb b7) r0.2.2.2.2 r1.2.2.2.2 r2.2.2.2.2 r3.2.2.2.2 r4.2.2.2.2 r5.2.2.2.2 r6.2.2.2.2 r7.2.2.2.2 y3 y4 y5 y6 e3 h4 h5 h6
  have ho : ones 64 x = ones 8 b0 + ones 8 b1 + ones 8 b2 + ones 8 b3 + ones 8 b4 + ones 8 b5 + ones 8 b6 + ones 8 b7 := by
    rw [hv]
    simp only [val]
    rw [show (64 : Nat) = 56 + 8 from rfl, ones_split 56 b0 (hb _ (by simp)), show (56 : Nat) = 48 + 8 from rfl, ones_split 48 b1 (hb _ (by simp)), show (48 : Nat) = 40 + 8 from rfl, ones_split 40 b2 (hb _ (by simp)),
      show (40 : Nat) = 32 + 8 from rfl, ones_split 32 b3 (hb _ (by simp)), show (32 : Nat) = 24 + 8 from rfl, ones_split 24 b4 (hb _ (by simp)), show (24 : Nat) = 16 + 8 from rfl, ones_split 16 b5 (hb _ (by simp)),
      show (16 : Nat) = 8 + 8 from rfl, ones_split 8 b6 (hb _ (by simp))]
    simp only [Nat.mul_zero, Nat.add_zero, Nat.add_assoc]
  have y1l : y1 < 18446744073709551616 := by
    rw [e1]; simp only [val, List.map_cons, List.map_nil]; omega
  have y2l : y2 ≤ 8608480567731124087 := by
    rw [e2]; simp only [val, List.map_cons, List.map_nil]; omega
  refine ⟨?_, y1l, by omega, by omega, by rw [e3]; simp only [val, List.map_cons, List.map_nil]; unfold pb at *; omega, hs.2.1, hs.2.2.1, hs.2.2.2⟩
  rw [hs.1, ho]; omega
end Go.Proofs.YtgcjioncfldgcaaDoor.I
/- What an image is in memory. -/
namespace Go.Proofs.YtgcjioncfldgcaaDoor.I
open Go Go.RowKit
/-- Block b is an image: 65536 bytes f, 1024 words h. -/
def ImgAt (w : World) (b : Nat) (f h : Nat → Nat) : Prop :=
  ∃ cs : Array Value, w.heap[b]? = some (.cells cs 61 (0, 0)) ∧ cs.size = 66560 ∧ (∀ i, i < 65536 → cs[i]? = some (.int .u8 (f i))) ∧ (∀ j, j < 1024 → cs[65536 + j]? = some (.int .u64 (h j)))
theorem ImgAt.byte {w : World} {b : Nat} {f h : Nat → Nat} (H : ImgAt w b f h) {i : Nat} (hi : i < 65536) : w.cell? ⟨b, i, none⟩ = some (.int .u8 (f i)) := by
  obtain ⟨cs, hb, _, hf, _⟩ := H
  simp [World.cell?, hb, hf i hi]
theorem ImgAt.word {w : World} {b : Nat} {f h : Nat → Nat} (H : ImgAt w b f h) {j : Nat} (hj : j < 1024) : w.cell? ⟨b, 65536 + j, none⟩ = some (.int .u64 (h j)) := by
  obtain ⟨cs, hb, _, _, hh⟩ := H
  simp [World.cell?, hb, hh j hj]
theorem ImgAt.free {w : World} {b : Nat} {f h : Nat → Nat} (H : ImgAt w b f h) (o : Nat) : w.frozen? ⟨b, o, none⟩ = false := by
  obtain ⟨cs, hb, _⟩ := H
  simp [World.frozen?, hb]
theorem ImgAt.lt {w : World} {b : Nat} {f h : Nat → Nat} (H : ImgAt w b f h) : b < w.heap.size := by
  obtain ⟨cs, hb, _⟩ := H
  exact (Array.getElem?_eq_some_iff.1 hb).1
theorem ImgAt.of_heap {w w' : World} {b : Nat} {f h : Nat → Nat} (H : ImgAt w b f h) (e : w'.heap[b]? = w.heap[b]?) : ImgAt w' b f h := by
  obtain ⟨cs, hb, r⟩ := H
  exact ⟨cs, e.trans hb, r⟩
theorem ImgAt.below {w w' : World} {b B : Nat} {f h : Nat → Nat} (H : ImgAt w b f h) (hB : Below B w w') (hb : b < B) : ImgAt w' b f h :=
  H.of_heap (hB.block b hb)
/-- Is there a byte at an address? -/
def hasB (h : Nat → Nat) (a : Nat) : Bool := (h (a / 64)).testBit (a % 64)
theorem and_one_eq (x : Nat) (hx : x < 18446744073709551616) : bits BinOp.and IntKind.u64 (x : Int) 1 = ((x % 2 : Nat) : Int) := by
  have := u64_and_nat x 1 hx (by decide)
  rw [show ((1 : Nat) : Int) = 1 from rfl] at this
  rw [this, Nat.and_one_is_mod]
theorem hasB_eq (h : Nat → Nat) (a : Nat) (hw : ∀ j, h j < 18446744073709551616) :
    (bits BinOp.and IntKind.u64 ((h (a / 64) : Int) / 2 ^ (a % 64)) 1 == 0) = !hasB h a := by
  have e : ((h (a / 64) : Int) / 2 ^ (a % 64)) = ((h (a / 64) / 2 ^ (a % 64) : Nat) : Int) := by simp
  have hb : h (a / 64) / 2 ^ (a % 64) < 18446744073709551616 := Nat.lt_of_le_of_lt (Nat.div_le_self _ _) (hw _)
  rw [e, and_one_eq _ hb]
  have t : hasB h a = decide (h (a / 64) / 2 ^ (a % 64) % 2 = 1) := by
    unfold hasB; rw [Nat.testBit_eq_decide_div_mod_eq]
  rw [t]
  rcases Nat.mod_two_eq_zero_or_one (h (a / 64) / 2 ^ (a % 64)) with q | q <;> simp [q]
end Go.Proofs.YtgcjioncfldgcaaDoor.I
namespace Go.Proofs.YtgcjioncfldgcaaDoor.I
open Go Go.RowKit
def getV (f h : Nat → Nat) (a : Nat) : Int := if hasB h a then (f a : Int) else 0
set_option maxRecDepth 100000 in
theorem get_any (b at_ : Nat) (f h : Nat → Nat) (w : World) (H : ImgAt w b f h) (hat : at_ < 65536) (hh : ∀ j, h j < 18446744073709551616) :
    Calls Tryd.prog 11 #[.pointer (some ⟨b, 0, none⟩), .int .u16 at_] w fun e w' => e = .returned (.tuple #[.int .u8 (getV f h at_), .bool (hasB h at_)]) ∧ w = w' := by
  have hw := H.word (j := at_ / 64) (by omega)
  have hb := H.byte hat
  have he := hasB_eq h at_ hh
  clear H hh
  unfold getV
  cases hx : hasB h at_ <;> rw [hx] at he <;> simp only [Bool.not_true, Bool.not_false] at he <;> clear hx
  all_goals
    go_enter Tryd.func11, Tryd.ntmps11
    go_wp2
    go_ret2
    exact ⟨by simp, rfl⟩
set_option maxRecDepth 100000 in
theorem put_neg (b : Nat) (v : Value) (n : Int) (w : World) (hn : n < 0) (h0 : -9223372036854775808 ≤ n) :
    Calls Tryd.prog 18 #[.pointer (some ⟨b, 0, none⟩), .int .i64 n, v] w fun e w' => e = .returned (.int .i64 1) ∧ w = w' := by
  go_enter Tryd.func18, Tryd.ntmps18
  go_wp2
  go_ret
  exact ⟨rfl, rfl⟩
set_option maxRecDepth 100000 in
theorem put_over (b : Nat) (s : Option Addr) (n len cap : Nat) (w : World) (hl : len ≤ 9223372036854775807) (hn0 : n ≤ 9223372036854775807) (hn : 65536 < len ∨ (len ≤ 65536 ∧ 65536 < n + len)) :
    Calls Tryd.prog 18 #[.pointer (some ⟨b, 0, none⟩), .int .i64 n, .slice s len cap] w fun e w' => e = .returned (.int .i64 7) ∧ w = w' := by
  rcases hn with h | ⟨h, h2⟩
  · go_enter Tryd.func18, Tryd.ntmps18
    go_wp2
    go_ret
    exact ⟨rfl, rfl⟩
  · go_enter Tryd.func18, Tryd.ntmps18
    go_wp2
    go_ret
    exact ⟨rfl, rfl⟩
end Go.Proofs.YtgcjioncfldgcaaDoor.I
namespace Go.Proofs.YtgcjioncfldgcaaDoor.I
open Go Go.RowKit
theorem get_int (b : Nat) (x : Int) (f h : Nat → Nat) (w : World) (H : ImgAt w b f h) (hh : Hid (∀ j, h j < 18446744073709551616)) (h0 : 0 ≤ x) (h1 : x < 65536) (g : Bool) (hg : Hid (hasB h x.toNat = g)) :
    Calls Tryd.prog 11 #[.pointer (some ⟨b, 0, none⟩), .int .u16 x] w fun e w' => e = .returned (.tuple #[.int .u8 (getV f h x.toNat), .bool g]) ∧ w = w' := by
  obtain ⟨n, rfl⟩ : ∃ n : Nat, x = n := ⟨x.toNat, by omega⟩
  have := get_any b n f h w H (by omega) hh.out
  rw [← hg.out]
  exact this
def NoneIn (h : Nat → Nat) (n k : Nat) : Prop := ∀ j, j < k → hasB h (n + j) = false
theorem NoneIn.succ {h : Nat → Nat} {n k : Nat} (H : NoneIn h n k) (hk : hasB h (n + k) = false) : NoneIn h n (k + 1) := fun j hj => by
  rcases Nat.lt_or_ge j k with h' | h'
  · exact H j h'
  · obtain rfl : j = k := by omega
    exact hk
set_option maxRecDepth 100000 in
theorem put_lap (b : Nat) (s : Option Addr) (n len cap : Nat) (f h : Nat → Nat) (w : World) (H : ImgAt w b f h) (hh : Hid (∀ j, h j < 18446744073709551616)) (hl : len ≤ 65536) (hn : n + len ≤ 65536) (hlap : Hid (∃ i, i < len ∧ hasB h (n + i) = true)) :
    Calls Tryd.prog 18 #[.pointer (some ⟨b, 0, none⟩), .int .i64 n, .slice s len cap] w fun e w' => e = .returned (.int .i64 6) ∧ w = w' := by
  go_enter Tryd.func18, Tryd.ntmps18
  go_wp2
  go_loop [28] (fun i => ∃ k : Nat, k ≤ len ∧ i = .int .i64 k ∧ NoneIn h n k) (fun i => len - (intOf i).toNat)
  case atStart => exact ⟨0, Nat.zero_le _, rfl, fun j hj => absurd hj (Nat.not_lt_zero _)⟩
  case round =>
    obtain ⟨k, hk, rfl, hno⟩ := hrel
    by_cases hlt : k < len
    · cases hx : hasB h (n + k)
      · have hg : Hid (hasB h ((n : Int) + k).toNat = false) := Lib.hid (by rw [← hx]; congr 1)
        have hs := Lib.hid (hno.succ hx)
        clear hx
        go_wp2_with (go_at_call 11; (with_reducible refine (get_int _ _ f h _ H hh (by omega) (by omega) false hg).mono ?_); rintro e w' ⟨rfl, rfl⟩)
        go_round
        case rel => exact ⟨k + 1, by omega, by go_num, hs.out⟩
        case measure => simp [intOf]; omega
      · have hg : Hid (hasB h ((n : Int) + k).toNat = true) := Lib.hid (by rw [← hx]; congr 1)
        clear hx
        go_wp2_with (go_at_call 11; (with_reducible refine (get_int _ _ f h _ H hh (by omega) (by omega) true hg).mono ?_); rintro e w' ⟨rfl, rfl⟩)
        go_ret
        exact ⟨rfl, rfl⟩
    · exfalso
      obtain ⟨i, hi, hy⟩ := hlap.out
      have := hno i (by omega)
      rw [hy] at this; cases this
end Go.Proofs.YtgcjioncfldgcaaDoor.I

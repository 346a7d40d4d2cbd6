/- PROVED: the lowest bit of a word, and the rising addresses. No condition beyond each theorem's own. -/
import Derived.Test.YtgcjioncfldgcaaDoorJA
import Derived.Lib.TrailingZeros
import Derived.Laws.Bits64b
set_option linter.unusedVariables false
set_option linter.unusedSimpArgs false
namespace Go.Proofs.YtgcjioncfldgcaaDoor.I
open Go Go.RowKit
/-- The library's table lies as its text has it. -/
def Tabs (w : World) : Prop := ∀ j, j < 64 → w.cell? ⟨0, j, none⟩ = some (.int .u8 (Lib.deBruijn64tab.getD j 0))
set_option maxHeartbeats 1000000 in
theorem tz_core (x k idx : Nat) (w : World) (hx0 : ((x : Int) == 0) = false)
    (key : IntKind.u64.wrap (bits BinOp.and IntKind.u64 (x : Int) (IntKind.u64.wrap (-(x : Int))) * 285870213051353865) / 288230376151711744 = (idx : Int))
    (hi : idx < 64) (hk : k < 64) (hcell : w.cell? ⟨0, idx, none⟩ = some (.int .u8 k)) :
    Calls Tryd.prog 23 #[.int .u64 x] w fun e w' => e = .returned (.int .i64 k) ∧ w = w' := by
  go_enter Tryd.func23, Tryd.ntmps23
  go_wp2_with (simp only [key])
  go_ret
  exact ⟨rfl, rfl⟩
theorem tz_key (x a : Nat) (hx : x < 18446744073709551616) (hx0 : x ≠ 0) (hlow : x &&& (18446744073709551616 - x) = a) :
    IntKind.u64.wrap (bits BinOp.and IntKind.u64 (x : Int) (IntKind.u64.wrap (-(x : Int))) * 285870213051353865) / 288230376151711744 = ((a * 285870213051353865 % 18446744073709551616 / 288230376151711744 : Nat) : Int) := by
  have e1 : IntKind.u64.wrap (-(x : Int)) = ((18446744073709551616 - x : Nat) : Int) := by rw [IntKind.wrap_u64]; omega
  rw [e1, bits_and_u64_nat x _ hx (by omega), hlow, IntKind.wrap_u64]
  omega
theorem tz_any (x : Nat) (w : World) (hx : x < 18446744073709551616) (hx0 : x ≠ 0) (hT : Tabs w) :
    Calls Tryd.prog 23 #[.int .u64 x] w fun e w' => e = .returned (.int .i64 (Lib.ctz 64 x)) ∧ w = w' := by
  obtain ⟨hlow, hk⟩ := Lib.lowest_bit 64 x hx0 hx
  obtain ⟨hi, htab⟩ := Lib.deBruijn64_at _ hk
  have hc := hT _ hi
  rw [htab] at hc
  exact tz_core x (Lib.ctz 64 x) _ w (by simp; omega) (tz_key x _ hx hx0 hlow) hi hk hc
end Go.Proofs.YtgcjioncfldgcaaDoor.I
namespace Go.Proofs.YtgcjioncfldgcaaDoor.I
open Go Go.RowKit
/-- The addresses below n at which a byte stands, rising. -/
def addrsTo (h : Nat → Nat) (n : Nat) : List Nat := (List.range n).filter (hasB h)
theorem addrsTo_succ (h : Nat → Nat) (n : Nat) : addrsTo h (n + 1) = addrsTo h n ++ (if hasB h n then [n] else []) := by
  unfold addrsTo
  rw [List.range_succ, List.filter_append]
  congr 1
  cases e : hasB h n <;> simp [e]
theorem addrsTo_length (h : Nat → Nat) (n : Nat) : (addrsTo h n).length ≤ n := by
  have := List.length_filter_le (hasB h) (List.range n)
  simpa [addrsTo] using this
theorem addrsTo_gap (h : Nat → Nat) (m : Nat) : ∀ n, m ≤ n → (∀ i, m ≤ i → i < n → hasB h i = false) → addrsTo h n = addrsTo h m
  | 0, hm, _ => by obtain rfl : m = 0 := by omega
                   rfl
  | n + 1, hm, hg => by
    by_cases e : m = n + 1
    · rw [e]
    · rw [addrsTo_succ, hg n (by omega) (by omega), addrsTo_gap h m n (by omega) (fun i h1 h2 => hg i h1 (by omega))]
      simp
theorem low_spec (y : Nat) (h0 : y ≠ 0) (hy : y < 18446744073709551616) :
    y.testBit (Lib.ctz 64 y) = true ∧ (∀ i, i < Lib.ctz 64 y → y.testBit i = false) ∧ Lib.ctz 64 y < 64 ∧ (∀ i, (y &&& (y - 1)).testBit i = (y.testBit i && decide (i ≠ Lib.ctz 64 y))) := by
  have hc : Lib.ctz 64 y = Lib.ctzFrom 64 y := by unfold Lib.ctz; rw [if_neg h0]
  obtain ⟨m, hm, ht⟩ := Lib.ctzFrom_spec 64 y (by omega) (by simpa using hy)
  rw [hc]
  generalize Lib.ctzFrom 64 y = t at hm ht
  have hb : ∀ i, y.testBit i = (decide (i ≥ t) && (2 * m + 1).testBit (i - t)) := fun i => by rw [hm, Nat.testBit_two_pow_mul]
  have h1 : y - 1 = 2 ^ t * (2 * m) + (2 ^ t - 1) := by
    have : 0 < 2 ^ t := Nat.two_pow_pos t
    rw [hm, Nat.mul_add]
    omega
  have hp : 2 ^ t - 1 < 2 ^ t := by have : 0 < 2 ^ t := Nat.two_pow_pos t; omega
  refine ⟨by rw [hb]; simp, fun i hi => by rw [hb]; simp; omega, ht, fun i => ?_⟩
  rw [Nat.testBit_and, h1, Nat.testBit_two_pow_mul_add _ hp, hb]
  by_cases c1 : i < t
  · have : ¬ t ≤ i := by omega
    simp [c1, this]
  · by_cases c2 : i = t
    · subst c2; simp
    · obtain ⟨d, rfl⟩ : ∃ d, i = t + (d + 1) := ⟨i - t - 1, by omega⟩
      have e : t + (d + 1) - t = d + 1 := by omega
      have q1 : (2 * m + 1) / 2 = m := by omega
      have q2 : (2 * m) / 2 = m := by omega
      simp [e, Nat.testBit_succ, q1, q2]
      exact fun h => .inr h
/-- y is x without its p lowest bits. -/
def Left (x p y : Nat) : Prop := ∀ i, y.testBit i = (x.testBit i && decide (p ≤ i))
theorem Left.start (x : Nat) : Left x 0 x := fun i => by simp
theorem Left.next {x p y : Nat} (H : Left x p y) (h0 : y ≠ 0) (hy : y < 18446744073709551616) :
    p ≤ Lib.ctz 64 y ∧ Lib.ctz 64 y < 64 ∧ x.testBit (Lib.ctz 64 y) = true ∧ (∀ i, p ≤ i → i < Lib.ctz 64 y → x.testBit i = false) ∧ Left x (Lib.ctz 64 y + 1) (y &&& (y - 1)) := by
  obtain ⟨h1, h2, h3, h4⟩ := low_spec y h0 hy
  have e1 := H (Lib.ctz 64 y)
  rw [h1] at e1
  simp at e1
  refine ⟨e1.2, h3, e1.1, fun i a b => ?_, fun i => ?_⟩
  · have := H i
    rw [h2 i b] at this
    simpa [a] using this.symm
  · rw [h4, H i]
    by_cases c : i ≤ Lib.ctz 64 y
    · by_cases c2 : i = Lib.ctz 64 y
      · subst c2; simp
      · have h5 := H i
        rw [h2 i (by omega)] at h5
        rw [← h5]; simp; omega
    · have a1 : p ≤ i := by omega
      have a2 : i ≠ Lib.ctz 64 y := by omega
      have a3 : Lib.ctz 64 y + 1 ≤ i := by omega
      simp [a1, a2, a3]
theorem Left.zero {x p : Nat} (H : Left x p 0) (i : Nat) (hi : p ≤ i) : x.testBit i = false := by
  have := H i
  simpa [hi] using this.symm
/-- How the addresses go on by one word's bits. -/
theorem addrs_step {h : Nat → Nat} {k p y : Nat} (H : Left (h k) p y) (h0 : y ≠ 0) (hy : y < 18446744073709551616) :
    addrsTo h (64 * k + (Lib.ctz 64 y + 1)) = addrsTo h (64 * k + p) ++ [64 * k + Lib.ctz 64 y] := by
  obtain ⟨h1, h2, h3, h4, _⟩ := H.next h0 hy
  have hb : ∀ i, i < 64 → hasB h (64 * k + i) = (h k).testBit i := fun i hi => by
    unfold hasB; rw [show (64 * k + i) / 64 = k by omega, show (64 * k + i) % 64 = i by omega]
  rw [← Nat.add_assoc, addrsTo_succ, hb _ h2, h3, if_pos rfl, addrsTo_gap h (64 * k + p) _ (by omega)]
  intro i a b
  rw [show i = 64 * k + (i - 64 * k) by omega, hb _ (by omega)]
  exact h4 _ (by omega) (by omega)
theorem addrs_end {h : Nat → Nat} {k p : Nat} (H : Left (h k) p 0) (hp : p ≤ 64) : addrsTo h (64 * (k + 1)) = addrsTo h (64 * k + p) := by
  refine addrsTo_gap h _ _ (by omega) fun i a b => ?_
  unfold hasB
  rw [show i / 64 = k by omega]
  exact H.zero _ (by omega)
end Go.Proofs.YtgcjioncfldgcaaDoor.I

/- The pure law of ZilogApart: two names stay apart. -/
import Derived.Test.YtldmnenomcipcaaDoorG11
import Derived.Test.YtldmnenomcipcaaDoorQBase
import Derived.OpenShut
namespace Go.Proofs.YtldmnenomcipcaaDoor.Pure
open Go.RowKit Go.Proofs.YtldmnenomcipcaaDoor.G Go.Proofs.YtldmnenomcipcaaDoorW.PrintWords
theorem no_tail : ∀ w ∈ wAll ++ w1, w.data.toList.getLast? ≠ some 95 := by decide +kernel
theorem no_tail0 : ∀ w ∈ wAll ++ w0, w.data.toList.getLast? ≠ some 95 := by decide +kernel
theorem trimB_self {s : ByteArray} (h : s.data.toList.getLast? ≠ some 95) : trimB s 95 = s := by
  unfold trimB
  apply (toList_iff _ _).1
  rw [ByteArray.toList_eq, ByteArray.toList_eq]
  show Lib.trimRightB s.data.toList 95 = s.data.toList
  rcases List.eq_nil_or_concat s.data.toList with e | ⟨l, x, e⟩
  · rw [e]; rfl
  · rw [e] at h ⊢
    rw [List.concat_eq_append] at h ⊢
    rw [trim_snoc_other _ _ _ (fun hx => h (by rw [hx]; simp))]
theorem data_snoc (s : ByteArray) : (s ++ ⟨#[95]⟩ : ByteArray).data.toList = s.data.toList ++ [95] := by
  rw [ByteArray.data_append, Array.toList_append]
theorem trimB_snoc (s : ByteArray) : trimB (s ++ ⟨#[95]⟩) 95 = trimB s 95 := by
  unfold trimB
  rw [data_snoc, trim_snoc_same]
theorem snoc_inj {s t : ByteArray} (h : (s ++ ⟨#[95]⟩ : ByteArray) = t ++ ⟨#[95]⟩) : s = t := by
  have h2 := congrArg (fun x : ByteArray => x.data.toList) h
  simp only [data_snoc] at h2
  have h3 := List.append_cancel_right h2
  apply (toList_iff _ _).1
  rw [ByteArray.toList_eq, ByteArray.toList_eq, h3]
theorem res1_snoc (s : ByteArray) : resB 1 (s ++ ⟨#[95]⟩) = false := by
  unfold resB
  rw [if_neg (by omega), if_pos rfl]
  refine decide_eq_false fun h => no_tail _ h ?_
  rw [data_snoc]
  simp
/-- Does a name get another one? -/
def turns (s : ByteArray) : Prop := resB 1 (trimB s 95) = true ∧ resB 0 (trimB s 95) = false
instance (s : ByteArray) : Decidable (turns s) := by unfold turns; infer_instance
theorem renB_eq (s : ByteArray) : renB s = if turns s then (if (s.size : Int) ≥ 16 then (⟨#[]⟩, 11) else (s ++ ⟨#[95]⟩, 0)) else (s, 0) := rfl
theorem turns_snoc (s : ByteArray) : turns (s ++ ⟨#[95]⟩) ↔ turns s := by unfold turns; rw [trimB_snoc]
theorem apart_same (s t : ByteArray) (hs : (renB s).2 = 0) (ht : (renB t).2 = 0) : decide ((renB s).1 = (renB t).1) = decide (s = t) := by
  rw [decide_eq_decide]
  rw [renB_eq] at hs ht ⊢
  rw [renB_eq]
  by_cases a : turns s <;> by_cases b : turns t
  · rw [if_pos a] at hs ⊢; rw [if_pos b] at ht ⊢
    by_cases x : (s.size : Int) ≥ 16
    · rw [if_pos x] at hs; simp at hs
    · by_cases y : (t.size : Int) ≥ 16
      · rw [if_pos y] at ht; simp at ht
      · rw [if_neg x, if_neg y]
        exact ⟨fun h => snoc_inj h, fun h => by rw [h]⟩
  · rw [if_pos a] at hs ⊢; rw [if_neg b] at ht ⊢
    by_cases x : (s.size : Int) ≥ 16
    · rw [if_pos x] at hs; simp at hs
    · rw [if_neg x]
      exact ⟨fun h => absurd ((turns_snoc s).2 a) (by rw [show (s ++ ⟨#[95]⟩ : ByteArray) = t from h]; exact b), fun h => absurd a (by rw [h]; exact b)⟩
  · rw [if_neg a] at hs ⊢; rw [if_pos b] at ht ⊢
    by_cases y : (t.size : Int) ≥ 16
    · rw [if_pos y] at ht; simp at ht
    · rw [if_neg y]
      exact ⟨fun h => absurd ((turns_snoc t).2 b) (by rw [show (t ++ ⟨#[95]⟩ : ByteArray) = s from h.symm]; exact a), fun h => absurd b (by rw [← h]; exact a)⟩
  · rw [if_neg a] at hs ⊢; rw [if_neg b] at ht ⊢
theorem apart_free (s : ByteArray) (hs : (renB s).2 = 0) (h0 : resB 0 s = false) : resB 1 (renB s).1 = false := by
  rw [renB_eq] at hs ⊢
  by_cases a : turns s
  · rw [if_pos a] at hs ⊢
    by_cases x : (s.size : Int) ≥ 16
    · rw [if_pos x] at hs; simp at hs
    · rw [if_neg x]
      exact res1_snoc s
  · rw [if_neg a] at hs ⊢
    cases h1 : resB 1 s with
    | false => rfl
    | true =>
      exfalso
      have hm : s ∈ wAll ++ w1 := by
        unfold resB at h1
        rw [if_neg (by omega), if_pos rfl] at h1
        exact of_decide_eq_true h1
      have ht := trimB_self (no_tail s hm)
      exact a (by unfold turns; rw [ht]; exact ⟨h1, h0⟩)
theorem renB_kind (s : ByteArray) : (renB s).2 = 0 ∨ ((s.size : Int) ≥ 16 ∧ renB s = (⟨#[]⟩, 11)) := by
  rw [renB_eq]
  by_cases a : turns s
  · rw [if_pos a]
    by_cases x : (s.size : Int) ≥ 16
    · rw [if_pos x]; exact .inr ⟨x, rfl⟩
    · rw [if_neg x]; exact .inl rfl
  · rw [if_neg a]; exact .inl rfl
theorem apart_j1 (s : ByteArray) (k : Nat) (hk : 400 ≤ k) : pidginlaw07_ZilogApart.j1 (k + 1) s (renB s).1 (renB s).2 false = some true := by
  simp only [pidginlaw07_ZilogApart.j1, alive_at (show 200 ≤ k by omega), reserved_tells _ _ k (show 100 ≤ k by omega), Option.bind_some]
  rcases renB_kind s with h | ⟨h16, h⟩
  · rw [if_neg (by simp), if_pos h]
    cases h0 : resB 0 s with
    | true => simp
    | false => simp [apart_free s h h0]
  · rw [h]
    simp [h16]
theorem ZilogApart : pidginlaw07_ZilogApart.Pure := by
  intro s t hs ht
  refine ⟨1002, ?_⟩
  have hj : ∀ b, pidginlaw07_ZilogApart.j0 1002 s t b = some true := by
    intro b
    simp only [pidginlaw07_ZilogApart.j0, alive_at (show 200 ≤ 1001 by omega), rename_tells s hs 1000 (by omega), rename_tells t ht 1000 (by omega), Option.bind_some, toList_beq]
    cases b with
    | true => rfl
    | false =>
      rw [if_neg (by simp)]
      by_cases h1 : (renB s).2 = 0
      · rw [if_pos h1]
        by_cases h2 : (renB t).2 = 0
        · rw [if_pos h2, apart_same s t h1 h2]
          simp only [bne_self_eq_false]
          exact apart_j1 s 1000 (by omega)
        · rw [if_neg h2]
          exact apart_j1 s 1000 (by omega)
      · rw [if_neg h1]
        exact apart_j1 s 1000 (by omega)
  unfold pidginlaw07_ZilogApart.f
  split
  · exact hj _
  · exact hj _
end Go.Proofs.YtldmnenomcipcaaDoor.Pure

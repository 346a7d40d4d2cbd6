/- Which words are reserved, and what a name becomes, in plain lists. -/
import Derived.Test.YtldmnenomcipcaaDoorG7
import Derived.OpenShut
namespace Go.Proofs.YtldmnenomcipcaaDoor.Pure
open Go.RowKit Go.Proofs.YtldmnenomcipcaaDoor.G Go.Proofs.YtldmnenomcipcaaDoorW.PrintWords
theorem toList_iff (a b : ByteArray) : a.toList = b.toList ↔ a = b := by
  rw [ByteArray.toList_eq, ByteArray.toList_eq]
  refine ⟨fun h => ?_, fun h => by rw [h]⟩
  cases a; cases b
  simp only at h
  congr 1
  exact Array.toList_inj.1 h
theorem toList_beq (a b : ByteArray) : (a.toList == b.toList) = decide (a = b) := by
  rw [Bool.eq_iff_iff, beq_iff_eq, decide_eq_true_iff, toList_iff]
instance memDec (s : ByteArray) (L : List ByteArray) : Decidable (s ∈ L) := decidable_of_iff (L.any (fun x => decide (x = s)) = true) (by simp [List.any_eq_true])
theorem wrap_small {x : Int} (h : -9223372036854775808 ≤ x) (h2 : x ≤ 9223372036854775807) : wrap64 x = x := by
  unfold wrap64
  omega

theorem index_tells (L : List ByteArray) (s : ByteArray) (hL : L.length ≤ 4611686018427387904) (d : Nat) : ∀ (k i : Nat), i + d = L.length → d < k →
    ∃ r, zilog_list_string_58.l0 k L s (L.length : Int) (i : Int) = some r ∧ decide (r ≥ 0) = decide (s ∈ L.drop i) := by
  induction d with
  | zero =>
    intro k i hi hk
    obtain ⟨k, rfl⟩ : ∃ m, k = m + 1 := ⟨k - 1, by omega⟩
    refine ⟨-1, ?_, ?_⟩
    · simp only [zilog_list_string_58.l0]
      rw [if_neg (by omega)]
    · rw [List.drop_eq_nil_of_le (by omega)]
      simp
  | succ d ih =>
    intro k i hi hk
    obtain ⟨k, rfl⟩ : ∃ m, k = m + 1 := ⟨k - 1, by omega⟩
    have hlt : i < L.length := by omega
    have hd : L.drop i = L[i] :: L.drop (i + 1) := List.drop_eq_getElem_cons hlt
    have hr : rdOf ByteArray.empty L (i : Int) = L[i] := by simp [rdOf, List.getD_eq_getElem?_getD, List.getElem?_eq_getElem hlt]
    simp only [zilog_list_string_58.l0]
    rw [if_pos (by omega), if_pos (by omega), if_pos (by omega), hr]
    by_cases e : s = L[i]
    · rw [if_pos (by rw [toList_iff]; exact e)]
      refine ⟨_, rfl, ?_⟩
      rw [decide_eq_true (show (i : Int) ≥ 0 by omega), decide_eq_true (show s ∈ L.drop i by rw [hd]; exact List.mem_cons.2 (.inl e))]
    · rw [if_neg (by rw [toList_iff]; exact e), wrap_small (by omega) (by omega)]
      obtain ⟨r, h1, h2⟩ := ih k (i + 1) (by omega) (by omega)
      refine ⟨r, ?_, ?_⟩
      · rw [show ((i : Int) + 1) = ((i + 1 : Nat) : Int) by omega]
        exact h1
      · rw [h2, decide_eq_decide, hd]
        exact ⟨fun h => List.mem_cons_of_mem _ h, fun h => (List.mem_cons.1 h).resolve_left e⟩
theorem has_tells (L : List ByteArray) (s : ByteArray) (hL : L.length ≤ 4611686018427387904) (k : Nat) (hk : L.length < k) : zilog_list_has.f k L s = some (decide (s ∈ L)) := by
  obtain ⟨r, h1, h2⟩ := index_tells L s hL L.length k 0 (by omega) hk
  unfold zilog_list_has.f zilog_list_string_43.f zilog_list_string_58.f
  have h3 : zilog_list_string_58.l0 k L s (L.length : Int) 0 = some r := h1
  rw [h3]
  simp only [Option.bind_some]
  rw [h2, List.drop_zero]
def wAll : List ByteArray := [⟨#[79, 82]⟩, ⟨#[88, 79, 82]⟩, ⟨#[65, 78, 68]⟩, ⟨#[78, 79, 84]⟩, ⟨#[77, 79, 68]⟩, ⟨#[83, 72, 76]⟩, ⟨#[83, 72, 82]⟩]
def w0 : List ByteArray := [⟨#[65]⟩, ⟨#[66]⟩, ⟨#[67]⟩, ⟨#[68]⟩, ⟨#[69]⟩, ⟨#[72]⟩, ⟨#[76]⟩, ⟨#[77]⟩, ⟨#[83, 80]⟩, ⟨#[80, 83, 87]⟩]
def w1 : List ByteArray := [⟨#[65]⟩, ⟨#[66]⟩, ⟨#[67]⟩, ⟨#[68]⟩, ⟨#[69]⟩, ⟨#[72]⟩, ⟨#[76]⟩, ⟨#[65, 70]⟩, ⟨#[66, 67]⟩, ⟨#[68, 69]⟩, ⟨#[72, 76]⟩, ⟨#[83, 80]⟩, ⟨#[78, 90]⟩, ⟨#[90]⟩, ⟨#[78, 67]⟩, ⟨#[80, 79]⟩, ⟨#[80, 69]⟩, ⟨#[80]⟩, ⟨#[77]⟩]
def w2 : List ByteArray := [⟨#[65, 76]⟩, ⟨#[67, 76]⟩, ⟨#[68, 76]⟩, ⟨#[66, 76]⟩, ⟨#[65, 72]⟩, ⟨#[67, 72]⟩, ⟨#[68, 72]⟩, ⟨#[66, 72]⟩, ⟨#[65, 88]⟩, ⟨#[67, 88]⟩, ⟨#[68, 88]⟩, ⟨#[66, 88]⟩, ⟨#[83, 80]⟩, ⟨#[66, 80]⟩, ⟨#[83, 73]⟩, ⟨#[68, 73]⟩]
theorem of0 : zilog_of.f [⟨#[79, 82, 32, 88, 79, 82, 32, 65, 78, 68, 32, 78, 79, 84, 32, 77, 79, 68, 32, 83, 72, 76, 32, 83, 72, 82]⟩, ⟨#[65, 32, 66, 32, 67, 32, 68, 32, 69, 32, 72, 32, 76, 32, 77, 32, 83, 80, 32, 80, 83, 87]⟩] = some (wAll ++ w0) := by decide +kernel
theorem of1 : zilog_of.f [⟨#[79, 82, 32, 88, 79, 82, 32, 65, 78, 68, 32, 78, 79, 84, 32, 77, 79, 68, 32, 83, 72, 76, 32, 83, 72, 82]⟩, ⟨#[65, 32, 66, 32, 67, 32, 68, 32, 69, 32, 72, 32, 76, 32, 65, 70, 32, 66, 67, 32, 68, 69, 32, 72, 76, 32, 83, 80]⟩, ⟨#[78, 90, 32, 90, 32, 78, 67, 32, 80, 79, 32, 80, 69, 32, 80, 32, 77]⟩] = some (wAll ++ w1) := by decide +kernel
theorem of2 : zilog_of.f [⟨#[79, 82, 32, 88, 79, 82, 32, 65, 78, 68, 32, 78, 79, 84, 32, 77, 79, 68, 32, 83, 72, 76, 32, 83, 72, 82]⟩, ⟨#[65, 76, 32, 67, 76, 32, 68, 76, 32, 66, 76, 32, 65, 72, 32, 67, 72, 32, 68, 72, 32, 66, 72]⟩, ⟨#[65, 88, 32, 67, 88, 32, 68, 88, 32, 66, 88, 32, 83, 80, 32, 66, 80, 32, 83, 73, 32, 68, 73]⟩] = some (wAll ++ w2) := by decide +kernel
/-- Is a word reserved in a dialect? -/
def resB (d : Int) (s : ByteArray) : Bool := if d = 0 then decide (s ∈ wAll ++ w0) else if d = 1 then decide (s ∈ wAll ++ w1) else if d = 2 then decide (s ∈ wAll ++ w2) else false
theorem reserved_tells (d : Int) (s : ByteArray) (k : Nat) (hk : 100 ≤ k) : zilog_Reserved.f k d s = some (resB d s) := by
  unfold zilog_Reserved.f resB
  rw [of0, of1, of2]
  simp only [Option.bind_some]
  rw [has_tells (wAll ++ w0) s (by decide) k (Nat.lt_of_lt_of_le (by decide) hk), has_tells (wAll ++ w1) s (by decide) k (Nat.lt_of_lt_of_le (by decide) hk), has_tells (wAll ++ w2) s (by decide) k (Nat.lt_of_lt_of_le (by decide) hk)]
  simp only [Option.bind_some]
  repeat' split
  all_goals rfl
theorem trim_prefix (l : List UInt8) (c : UInt8) : ∃ n, n ≤ l.length ∧ Lib.trimRightB l c = l.take n := by
  unfold Lib.trimRightB
  refine ⟨(l.reverse.dropWhile (· == c)).length, ?_, ?_⟩
  · have := (List.dropWhile_suffix (fun x => x == c) (l := l.reverse)).length_le
    simpa using this
  · have hs := List.dropWhile_suffix (fun x => x == c) (l := l.reverse)
    have hp : (l.reverse.dropWhile (· == c)).reverse <+: l := by
      have := List.reverse_prefix.2 hs
      simpa using this
    have := List.prefix_iff_eq_take.1 hp
    simpa using this
theorem trim_len (l : List UInt8) (c : UInt8) : Lib.trimRightB l c = l.take (Lib.trimRightB l c).length := by
  obtain ⟨n, hn, h⟩ := trim_prefix l c
  rw [h, List.length_take, Nat.min_eq_left hn]
theorem trim_snoc_same (l : List UInt8) (c : UInt8) : Lib.trimRightB (l ++ [c]) c = Lib.trimRightB l c := by
  unfold Lib.trimRightB
  simp
theorem trim_snoc_other (l : List UInt8) (c x : UInt8) (h : x ≠ c) : Lib.trimRightB (l ++ [x]) c = l ++ [x] := by
  unfold Lib.trimRightB
  simp [h]
/-- What the other name is. -/
def renB (s : ByteArray) : ByteArray × Int :=
  if resB 1 (trimB s 95) = true ∧ resB 0 (trimB s 95) = false then (if (s.size : Int) ≥ 16 then (⟨#[]⟩, 11) else (s ++ ⟨#[95]⟩, 0)) else (s, 0)
theorem rename_tells (s : ByteArray) (hs : s.size ≤ 140737488351232) (k : Nat) (hk : 100 ≤ k) : zilog_Rename.f (k + 1) s = some (renB s) := by
  unfold zilog_Rename.f strings_TrimRight.f renB
  rw [if_pos ⟨rfl, by omega⟩]
  simp only [Option.bind_some, reserved_tells _ _ (k + 1) (by omega), zilog_Rename.j0]
  by_cases h1 : resB 1 (trimB s 95) = true
  · by_cases h0 : resB 0 (trimB s 95) = true
    · simp [h1, h0]
    · by_cases h16 : (s.size : Int) ≥ 16
      · simp [h1, h0, h16]
      · simp [h1, h0, h16]
        omega
  · simp [h1]
theorem alive_at {k : Nat} (hk : 200 ≤ k) : pidginlaw07_alive.f k = some true :=
  at_rounds (fun k => pidginlaw07_alive.mono k) hk (show pidginlaw07_alive.f 200 = some true by decide +kernel)
end Go.Proofs.YtldmnenomcipcaaDoor.Pure

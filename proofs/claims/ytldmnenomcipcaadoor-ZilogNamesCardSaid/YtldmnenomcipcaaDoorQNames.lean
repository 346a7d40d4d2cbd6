/- The pure law of ZilogNames: the document's answers are the same. -/
import Derived.Test.YtldmnenomcipcaaDoorG10
import Derived.Test.YtldmnenomcipcaaDoorQBase
import Derived.OpenShut
namespace Go.Proofs.YtldmnenomcipcaaDoor.Pure
open Go.RowKit Go.Proofs.YtldmnenomcipcaaDoor.G Go.Proofs.YtldmnenomcipcaaDoorW.PrintWords
theorem in_tells (W : List ByteArray) (s : ByteArray) (hL : W.length ≤ 4611686018427387904) (d : Nat) : ∀ (k i : Nat), i + d = W.length → d < k →
    pidginref07_in.l0 k s W (i : Int) = some (decide (s ∈ W.drop i)) := by
  induction d with
  | zero =>
    intro k i hi hk
    obtain ⟨k, rfl⟩ : ∃ m, k = m + 1 := ⟨k - 1, by omega⟩
    simp only [pidginref07_in.l0]
    rw [if_neg (by omega), List.drop_eq_nil_of_le (by omega)]
    simp
  | succ d ih =>
    intro k i hi hk
    obtain ⟨k, rfl⟩ : ∃ m, k = m + 1 := ⟨k - 1, by omega⟩
    have hlt : i < W.length := by omega
    have hd : W.drop i = W[i] :: W.drop (i + 1) := List.drop_eq_getElem_cons hlt
    have hr : rdOf ByteArray.empty W (i : Int) = W[i] := by simp [rdOf, List.getD_eq_getElem?_getD, List.getElem?_eq_getElem hlt]
    simp only [pidginref07_in.l0]
    rw [if_pos (by omega), if_pos (by omega), hr]
    by_cases e : W[i] = s
    · rw [if_pos (by rw [toList_iff]; exact e), hd, decide_eq_true (List.mem_cons.2 (.inl e.symm))]
    · rw [if_neg (by rw [toList_iff]; exact e), wrap_small (by omega) (by omega), show ((i : Int) + 1) = ((i + 1 : Nat) : Int) by omega, ih k (i + 1) (by omega) (by omega), hd]
      congr 1
      rw [decide_eq_decide]
      exact ⟨fun h => List.mem_cons_of_mem _ h, fun h => (List.mem_cons.1 h).resolve_left fun h => e h.symm⟩

theorem words_all : pidginref06_Words.f 200 ⟨#[79, 82, 32, 88, 79, 82, 32, 65, 78, 68, 32, 78, 79, 84, 32, 77, 79, 68, 32, 83, 72, 76, 32, 83, 72, 82]⟩ = some wAll := by decide +kernel
theorem words0 : pidginref06_Words.f 200 ⟨#[65, 32, 66, 32, 67, 32, 68, 32, 69, 32, 72, 32, 76, 32, 77, 32, 83, 80, 32, 80, 83, 87]⟩ = some w0 := by decide +kernel
theorem words1 : pidginref06_Words.f 200 ⟨#[65, 32, 66, 32, 67, 32, 68, 32, 69, 32, 72, 32, 76, 32, 65, 70, 32, 66, 67, 32, 68, 69, 32, 72, 76, 32, 83, 80, 32, 78, 90, 32, 90, 32, 78, 67, 32, 80, 79, 32, 80, 69, 32, 80, 32, 77]⟩ = some w1 := by decide +kernel
theorem words2 : pidginref06_Words.f 200 ⟨#[65, 76, 32, 67, 76, 32, 68, 76, 32, 66, 76, 32, 65, 72, 32, 67, 72, 32, 68, 72, 32, 66, 72, 32, 65, 88, 32, 67, 88, 32, 68, 88, 32, 66, 88, 32, 83, 80, 32, 66, 80, 32, 83, 73, 32, 68, 73]⟩ = some w2 := by decide +kernel
theorem words_at {k : Nat} (hk : 200 ≤ k) {s : ByteArray} {l : List ByteArray} (h : pidginref06_Words.f 200 s = some l) : pidginref06_Words.f k s = some l :=
  at_rounds (fun k => pidginref06_Words.mono s k) hk h
theorem in_at {k : Nat} (hk : 200 ≤ k) {s : ByteArray} {l : List ByteArray} (h : pidginref06_Words.f 200 s = some l) (hl : l.length < 200) (x : ByteArray) : pidginref07_in.f k s x = some (decide (x ∈ l)) := by
  unfold pidginref07_in.f
  rw [words_at hk h]
  simp only [Option.bind_some]
  have := in_tells l x (by omega) l.length k 0 (by omega) (by omega)
  simpa using this
theorem either (x : ByteArray) (a b : List ByteArray) : (if decide (x ∈ b) = true then some true else some (decide (x ∈ a))) = some (decide (x ∈ a ++ b)) := by
  by_cases h : x ∈ b
  · simp [h]
  · simp [h]
theorem ref_reserved_tells (d : Int) (s : ByteArray) (k : Nat) (hk : 200 ≤ k) : pidginref07_Reserved.f k d s = some (resB d s) := by
  unfold pidginref07_Reserved.f resB
  rw [in_at hk words_all (by decide), in_at hk words0 (by decide), in_at hk words1 (by decide), in_at hk words2 (by decide)]
  simp only [Option.bind_some, either]
  repeat' split
  all_goals rfl

theorem size_data (s : ByteArray) : s.size = s.data.toList.length := by rw [Array.length_toList]; rfl
theorem bt_nat (s : ByteArray) (i : Nat) (h : i < s.data.toList.length) : bt s (i : Int) = (s.data.toList[i].toNat : Int) := by
  unfold bt
  rw [dif_pos (by rw [size_data]; simpa using h)]
  simp only [Int.toNat_natCast]
  rfl
theorem ref_l0 (s : ByteArray) (hs : s.size ≤ 100) (m : Nat) : ∀ (k : Nat), m ≤ s.data.toList.length → Lib.trimRightB (s.data.toList.take m) 95 = Lib.trimRightB s.data.toList 95 → m < k →
    ∃ k', k - m ≤ k' + 1 ∧ pidginref07_Rename.l0 k s (m : Int) = pidginref07_Rename.j1 k' s ((Lib.trimRightB s.data.toList 95).length : Int) := by
  have hsz := size_data s
  induction m with
  | zero =>
    intro k _ ht hk
    obtain ⟨k, rfl⟩ : ∃ m, k = m + 1 := ⟨k - 1, by omega⟩
    refine ⟨k, by omega, ?_⟩
    rw [← ht]
    simp [pidginref07_Rename.l0, Lib.trimRightB]
  | succ m ih =>
    intro k hm ht hk
    obtain ⟨k, rfl⟩ : ∃ m, k = m + 1 := ⟨k - 1, by omega⟩
    have hlt : m < s.data.toList.length := by omega
    have htk : s.data.toList.take (m + 1) = s.data.toList.take m ++ [s.data.toList[m]] := by rw [List.take_succ_eq_append_getElem hlt]
    simp only [pidginref07_Rename.l0]
    rw [if_pos (by omega), show ((m + 1 : Nat) : Int) - 1 = (m : Int) by omega, wrap_small (by omega) (by omega), if_pos (by omega), if_pos (by omega), bt_nat s m hlt]
    by_cases e : s.data.toList[m] = 95
    · rw [if_pos (by rw [e]; rfl)]
      obtain ⟨k', h1, h2⟩ := ih k (by omega) (by rw [← ht, htk, e, trim_snoc_same]) (by omega)
      exact ⟨k', by omega, h2⟩
    · rw [if_neg (fun h => e (by
        have h' : s.data.toList[m].toNat = 95 := by omega
        exact UInt8.toNat_inj.1 h'))]
      refine ⟨k, by omega, ?_⟩
      rw [← ht, htk, trim_snoc_other _ _ _ e, ← htk, List.length_take, Nat.min_eq_left (by omega)]
theorem extract_trim (s : ByteArray) : s.extract 0 (Lib.trimRightB s.data.toList 95).length = trimB s 95 := by
  have h := trim_len s.data.toList 95
  unfold trimB
  apply (toList_iff _ _).1
  rw [ByteArray.toList_eq, ByteArray.toList_eq]
  rw [ByteArray.data_extract, Array.toList_extract]
  simp only [List.extract_eq_take_drop, Nat.sub_zero, List.drop_zero]
  exact h.symm
theorem ref_rename_tells (s : ByteArray) (hs : s.size ≤ 100) (k : Nat) (hk : 400 ≤ k) : pidginref07_Rename.f k s = some (renB s) := by
  have hsz := size_data s
  unfold pidginref07_Rename.f
  obtain ⟨k', h1, h2⟩ := ref_l0 s hs s.data.toList.length k (Nat.le_refl _) (by rw [List.take_length]) (by omega)
  rw [hsz, h2]
  obtain ⟨k', rfl⟩ : ∃ m, k' = m + 1 := ⟨k' - 1, by omega⟩
  obtain ⟨k', rfl⟩ : ∃ m, k' = m + 1 := ⟨k' - 1, by omega⟩
  have hn : (Lib.trimRightB s.data.toList 95).length ≤ s.data.toList.length := by
    obtain ⟨n, hn, h⟩ := trim_prefix s.data.toList 95
    rw [h, List.length_take]
    omega
  simp only [pidginref07_Rename.j1]
  rw [if_pos (by omega), if_pos (by omega), Int.toNat_natCast, extract_trim, ref_reserved_tells _ _ _ (by omega), ref_reserved_tells _ _ _ (by omega)]
  simp only [Option.bind_some, pidginref07_Rename.j2]
  unfold renB
  by_cases h1 : resB 1 (trimB s 95) = true
  · by_cases h0 : resB 0 (trimB s 95) = true
    · simp [h1, h0]
    · by_cases h16 : (s.size : Int) ≥ 16
      · simp [h1, h0, h16]
      · simp [h1, h0, h16]
        omega
  · simp [h1]
theorem ZilogNames : pidginlaw07_ZilogNames.Pure := by
  intro a0 a1 _ hs
  refine ⟨1001, ?_⟩
  unfold pidginlaw07_ZilogNames.f
  rw [alive_at (by omega)]
  by_cases h : (a1.size : Int) > 100
  · rw [if_pos h]; rfl
  · rw [if_neg h, rename_tells a1 hs 1000 (by omega), ref_rename_tells a1 (by omega) 1001 (by omega), reserved_tells a0 a1 1001 (by omega), ref_reserved_tells a0 a1 1001 (by omega)]
    simp

end Go.Proofs.YtldmnenomcipcaaDoor.Pure

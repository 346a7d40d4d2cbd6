/- The contracts of three library functions (strings.Fields on ASCII, strings.Join, strings.TrimRight at one byte) in the form of the printed texts. -/
import Derived.Test.YtldmnenomcipcaaDoorShelf
import Derived.Test.YtldmnenomcipcaaDoorWWords
import Derived.Test.YtldmnenomcipcaaDoorWLast
import Derived.Test.YtldmnenomcipcaaDoorWMore
import Derived.Laws.Cover3
namespace Go.Proofs.YtldmnenomcipcaaDoor.G
open Go.RowKit Go.Proofs.YtldmnenomcipcaaDoorW.PrintWords Go.Proofs.YtldmnenomcipcaaDoorW.PrintLast Go.Proofs.YtldmnenomcipcaaDoorW.PrintMore

/-- The tables of Go's library that this program's road reads, as their initialisers lay them. -/
structure Tabs (w : World) : Prop where
  sp : Lib.TabIs Tryd.prog w "strings.asciiSpace" .u8 Lib.asciiSpaceTab
noncomputable def spGlobal : Nat := ((Tryd.prog.globalNamed "strings.asciiSpace").getD 0)
theorem spGlobal_eq : Tryd.prog.globalNamed "strings.asciiSpace" = some spGlobal := by kernel_rfl
theorem tabIs_below {n : String} {g : Nat} {k : IntKind} {zs : List Int} {w w' : World} (hg : Tryd.prog.globalNamed n = some g) (h : Lib.TabIs Tryd.prog w n k zs) (hb : Below w.heap.size w w') : Lib.TabIs Tryd.prog w' n k zs := by
  unfold Lib.TabIs World.var? at h ⊢
  rw [hg] at h ⊢
  simp only [Option.bind_some] at h ⊢
  have hlt : g < w.heap.size := by
    rcases Nat.lt_or_ge g w.heap.size with h' | h'
    · exact h'
    · rw [Array.getElem?_eq_none h'] at h; cases h
  rw [hb.block g hlt]
  exact h
theorem tabs_below {w w' : World} (h : Tabs w) (hb : Below w.heap.size w w') : Tabs w' := ⟨tabIs_below spGlobal_eq h.sp hb⟩
theorem cntF_le : ∀ (l : List UInt8) (ws : Bool), Lib.cntF ws l ≤ l.length
  | [], _ => Nat.le_refl _
  | b :: t, ws => by
    have := cntF_le t (Lib.isSp b)
    simp only [Lib.cntF, List.length_cons]
    split <;> omega
theorem tabs_alloc {w : World} (h : Tabs w) (o : Obj) : Tabs (w.alloc o) := tabs_below h (below_alloc (Below.refl _ _) o)
theorem tabs_drew {w : World} (h : Tabs w) : Tabs w.drew := tabs_below h (below_drew (Below.refl _ _))
theorem tabs_drewN {w : World} (h : Tabs w) (n : Nat) : Tabs (w.drewN n) := tabs_below h (pw_below_drewN (Below.refl _ _) n)

theorem field43 (A : Option Addr) (n c : Nat) (w : World) : (Instr.field 43 (.agg #[.slice A n c]) 0).run Tryd.prog w = .ok (.slice A n c) w := by kernel_rfl
attribute [go_sem] field43
/-- The result of strings.Fields on ASCII bytes. -/
def fieldsB (s : ByteArray) : List ByteArray := (Lib.fields s.data.toList).map fun l => ⟨l.toArray⟩
def isAscii (s : ByteArray) : Bool := s.data.toList.all fun b => decide (b.toNat < 128)
def strings_Fields.f (a0 : ByteArray) : Option (List ByteArray) := if isAscii a0 = true ∧ a0.size < 4294967281 then some (fieldsB a0) else none
theorem strings_Fields.calls (a0 : ByteArray) (r : List ByteArray) (w : World) (h : strings_Fields.f a0 = some r) (hT : Tabs w) :
    Calls Tryd.prog 32 #[.string a0] w fun e w' => ∃ v0_ : Value, e = .returned (v0_) ∧ Kd.R Kd.string 9 w' w.heap.size (fun _ => True) v0_ r ∧ Below w.heap.size w w' := by
  unfold strings_Fields.f at h
  split at h
  · rename_i hc
    obtain rfl := Option.some.inj h
    refine (Tryd.strings_Fields a0 w hc.2 ?_ hT.sp).mono ?_
    · intro j b hj
      have := hc.1
      unfold isAscii at this
      rw [List.all_eq_true] at this
      exact of_decide_eq_true (this b (List.mem_of_getElem? hj))
    · rintro e w' ⟨rfl, rfl⟩
      have hm : (Lib.fields a0.data.toList).map (fun l => Value.string ⟨l.toArray⟩) = encs Value.string (fieldsB a0) := by
        unfold encs fieldsB
        rw [List.map_map]
        rfl
      have hl : (fieldsB a0).length = (Lib.fields a0.data.toList).length := by unfold fieldsB; rw [List.length_map]
      have hmax : (fieldsB a0).length ≤ 9223372036854775807 := by
        rw [hl]
        have := Lib.fields_length a0.data.toList
        have := cntF_le a0.data.toList true
        have hs : a0.data.toList.length = a0.size := by rw [Array.length_toList]; rfl
        omega
      have ho := own_lit_of (enc := Value.string) w w.heap.size 9 (fieldsB a0) (Nat.le_refl _) hmax
      refine ⟨_, rfl, ?_, (Below.refl _ _).alloc (Nat.le_refl _) _⟩
      rw [hm, ← hl]
      exact Kd.R_of_own ho (fun _ _ => trivial)
  · cases h

def joinB (l : List ByteArray) (s : ByteArray) : ByteArray := ⟨(Lib.join (l.map (·.data.toList)) s.data.toList).toArray⟩
def strings_Join.f (l0 : List ByteArray) (a1 : ByteArray) : Option (ByteArray) := if l0.length ≤ 140737488355328 ∧ (joinB l0 a1).size ≤ 140737488355328 then some (joinB l0 a1) else none
theorem strings_Join.calls (A0 : Option Addr) (c0 : Nat) (l0 : List ByteArray) (a1 : ByteArray) (r : ByteArray) (w : World) (hr0 : Kd.C Kd.string w A0 l0.length l0) (hc0 : l0.length ≤ c0) (h : strings_Join.f l0 a1 = some r) (_hT : Tabs w) :
    Calls Tryd.prog 44 #[.slice A0 l0.length c0, .string a1] w fun e w' => e = .returned (.string r) ∧ Below w.heap.size w w' := by
  unfold strings_Join.f at h
  split at h
  · rename_i hc
    obtain rfl := Option.some.inj h
    rcases Nat.eq_zero_or_pos l0.length with h0 | h0
    · obtain rfl := List.eq_nil_of_length_eq_zero h0
      refine (Tryd.strings_Join_none A0 c0 a1 w).mono ?_
      rintro e w' ⟨rfl, rfl⟩
      exact ⟨rfl, Below.refl _ _⟩
    · obtain ⟨ad, rfl, hx⟩ : ∃ ad, A0 = some ad ∧ ∀ j, j < l0.length → w.cell? (ad.add j) = some (.string (l0.getD j ByteArray.empty)) := by
        obtain ⟨ad, e, _⟩ := Kd.at_string hr0 0 (by omega) (by omega)
        refine ⟨ad, e, fun j hj => ?_⟩
        obtain ⟨ad', e', hx⟩ := Kd.at_string hr0 (j : Int) (by omega) (by omega)
        rw [e] at e'
        obtain rfl := Option.some.inj e'
        simpa [rdOf] using hx
      have hbk : ad.block < w.heap.size := by
        have := World.block_lt_of_cell? w _ (hx 0 h0)
        unfold Addr.add at this
        split at this <;> simpa using this
      obtain ⟨b, o, rest⟩ := ad
      have hrest : rest = none := by
        have hc0' := hx 0 h0
        have ha : (⟨b, o, rest⟩ : Addr).add 0 = ⟨b, o, rest⟩ := rfl
        rw [ha] at hc0'
        unfold World.cell? at hc0'
        cases rest with
        | none => rfl
        | some z => split at hc0' <;> simp at hc0'
      subst hrest
      refine (Tryd.strings_Join b o c0 l0 a1 w ?_ hbk hc.1 hc0 (by have := hc.2; simp only [joinB, ByteArray.size, List.size_toArray] at this; exact this)).mono ?_
      · intro j x hj
        obtain ⟨hj', e⟩ := List.getElem?_eq_some_iff.1 hj
        have := hx j hj'
        rw [List.getD_eq_getElem?_getD, hj] at this
        unfold Addr.add at this
        split at this
        · rename_i hj0
          subst hj0
          simpa using this
        · simpa using this
      · rintro e w' ⟨rfl, hb⟩
        exact ⟨rfl, hb⟩
  · cases h

def trimB (s : ByteArray) (c : UInt8) : ByteArray := ⟨(Lib.trimRightB s.data.toList c).toArray⟩
def strings_TrimRight.f (a0 : ByteArray) (a1 : ByteArray) : Option (ByteArray) := if a1 = ⟨#[95]⟩ ∧ a0.size ≤ 9223372036854775807 then some (trimB a0 95) else none
theorem strings_TrimRight.calls (a0 : ByteArray) (a1 : ByteArray) (r : ByteArray) (w : World) (h : strings_TrimRight.f a0 a1 = some r) (_hT : Tabs w) :
    Calls Tryd.prog 25 #[.string a0, .string a1] w fun e w' => e = .returned (.string r) ∧ Drawn0 w w' := by
  unfold strings_TrimRight.f at h
  split at h
  · rename_i hc
    obtain rfl := Option.some.inj h
    obtain ⟨rfl, hs⟩ := hc
    refine (Tryd.strings_TrimRight_one a0 95 (by decide) w hs).mono ?_
    rintro e w' ⟨rfl, rfl⟩
    exact ⟨rfl, Drawn0.refl _⟩
  · cases h
end Go.Proofs.YtldmnenomcipcaaDoor.G

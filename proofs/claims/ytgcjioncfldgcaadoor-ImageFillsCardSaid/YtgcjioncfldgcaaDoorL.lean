/- What the listed variable gives the walks: the table of math/bits; and a world in which it is laid. -/
import Derived.Test.YtgcjioncfldgcaaDoorRows
import Derived.Test.YtgcjioncfldgcaaDoorJL
import Derived.Lib.LaidU8
import Derived.Lay
import Derived.LaidOnce
import Derived.ProofKit
namespace Go.Proofs.YtgcjioncfldgcaaDoor.I
open Go Go.RowKit
noncomputable def laidL : List (String × DataW Unit) := Rows.imagePlaysRow.laid
theorem table_eq : (Rows.laid_math_bits_deBruijn64tab : DataW Unit) = Lib.tabData .u8 (Lib.deBruijn64tab.map fun n : Nat => (n : Int)) := by kernel_rfl
theorem tabs_of_laid {W : World} (h : laidMetH Tryd.prog laidL W) : Tabs W ∧ 0 < W.heap.size := by
  rw [MakeChecks.laidMetH_plain _ _ _ (by kernel_rfl)] at h
  have hr := Lib.laidMet.reads h (n := "math/bits.deBruijn64tab") (d := Rows.laid_math_bits_deBruijn64tab) (.head _)
  obtain ⟨g, t, cs, fuel, p, hg, ht, hv, hd⟩ := hr
  have hg0 : Tryd.prog.globalNamed "math/bits.deBruijn64tab" = some 0 := by kernel_rfl
  obtain rfl := Option.some.inj (hg0.symm.trans hg)
  obtain rfl := Option.some.inj ((show (Tryd.prog.globals[0]?).map (·.type) = some 70 by kernel_rfl).symm.trans ht)
  rw [table_eq] at hd
  have hcs := Lib.cells_of_tab Tryd.underlying70 Tryd.underlying5 (by kernel_rfl) (by kernel_rfl) hd
  unfold World.var? at hv
  rw [hg0] at hv
  simp only [Option.bind_some] at hv
  split at hv
  · rename_i cells ty fr heq
    cases hv
    refine ⟨fun j hj => ?_, (Array.getElem?_eq_some_iff.1 heq).1⟩
    simp only [World.cell?, heq]
    rw [← Array.getElem?_toList, hcs]
    have hl : Lib.deBruijn64tab.length = 64 := rfl
    simp [List.getD_eq_getElem?_getD, hl, hj]
  · cases hv
theorem laid_shaped (os : Os) (args : Array Value) : ((World.laidAll Tryd.prog os laidL).forCall (fun _ _ => 0) ⟨#[], args, []⟩).Shaped Tryd.prog :=
  World.shaped_of_ZipB (by kernel_rfl) (by kernel_rfl)
theorem laid_met (os : Os) (args : Array Value) : laidMetH Tryd.prog laidL ((World.laidAll Tryd.prog os laidL).forCall (fun _ _ => 0) ⟨#[], args, []⟩).memory := by
  rw [MakeChecks.laidMetH_plain _ _ _ (by kernel_rfl)]
  exact laidMet_laidAll _ (by kernel_rfl) (by kernel_rfl)
end Go.Proofs.YtgcjioncfldgcaaDoor.I

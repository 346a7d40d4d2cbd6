/- What the listed variables give the walks: the table of strings.Fields; and a world in which all listed variables are laid. -/
import Derived.Test.YtldmnenomcipcaaDoorRows
import Derived.Test.YtldmnenomcipcaaDoorV0
import Derived.Lib.LaidU8
import Derived.Lay
import Derived.LaidOnce
import Derived.ProofKit
namespace Go.Proofs.YtldmnenomcipcaaDoor.G
open Go Go.RowKit
noncomputable def laidL : List (String × DataW Unit) := Rows.zilogFormsRow.laid
theorem asciiSpace_eq : (Rows.laid_strings_asciiSpace : DataW Unit) = Lib.tabData .u8 Lib.asciiSpaceTab := by kernel_rfl
theorem tabs_of_laid {W : World} (h : laidMetH Tryd.prog laidL W) : Tabs W := by
  rw [MakeChecks.laidMetH_plain _ _ _ (by kernel_rfl)] at h
  have hr := Lib.laidMet.reads h (n := "strings.asciiSpace") (d := Rows.laid_strings_asciiSpace) (.tail _ (.tail _ (.head _)))
  obtain ⟨g, t, cs, fuel, p, hg, ht, hv, hd⟩ := hr
  obtain rfl := Option.some.inj ((show Tryd.prog.globalNamed "strings.asciiSpace" = some 0 by kernel_rfl).symm.trans hg)
  obtain rfl := Option.some.inj ((show (Tryd.prog.globals[0]?).map (·.type) = some 60 by kernel_rfl).symm.trans ht)
  refine ⟨?_⟩
  unfold Lib.TabIs
  rw [asciiSpace_eq] at hd
  rw [hv, ← Lib.cells_of_tab Tryd.underlying60 Tryd.underlying5 (by kernel_rfl) (by kernel_rfl) hd]
theorem laid_shaped (os : Os) (args : Array Value) : ((World.laidAll Tryd.prog os laidL).forCall (fun _ _ => 0) ⟨#[], args, []⟩).Shaped Tryd.prog :=
  World.shaped_of_ZipB (by kernel_rfl) (by kernel_rfl)
theorem laid_met (os : Os) (args : Array Value) : laidMetH Tryd.prog laidL ((World.laidAll Tryd.prog os laidL).forCall (fun _ _ => 0) ⟨#[], args, []⟩).memory := by
  rw [MakeChecks.laidMetH_plain _ _ _ (by kernel_rfl)]
  exact laidMet_laidAll _ (by kernel_rfl) (by kernel_rfl)
end Go.Proofs.YtldmnenomcipcaaDoor.G

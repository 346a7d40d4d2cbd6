/- The pure law of ZilogForms: at each of the 256 opcodes the printed law says true (by the kernel's own reckoning). -/
import Derived.Test.YtldmnenomcipcaaDoorG9
import Derived.OpenShut
namespace Go.Proofs.YtldmnenomcipcaaDoor.Pure
open Go.RowKit Go.Proofs.YtldmnenomcipcaaDoor.G Go.Proofs.YtldmnenomcipcaaDoorW.PrintWords
theorem opcode {a0 : Int} (h : (Lit.int .u8 a0).wf = true) : ∃ n : Fin 256, a0 = (n.val : Int) := by
  have hb := bounds_u8 h
  exact ⟨⟨a0.toNat, by omega⟩, by simp only []; omega⟩
set_option maxRecDepth 100000 in
theorem all_forms : ∀ n : Fin 256, pidginlaw07_ZilogForms.f 50 (n.val : Int) = some true := by decide +kernel
theorem ZilogForms : pidginlaw07_ZilogForms.Pure := by
  intro a0 h
  obtain ⟨n, rfl⟩ := opcode h
  exact ⟨50, all_forms n⟩
end Go.Proofs.YtldmnenomcipcaaDoor.Pure

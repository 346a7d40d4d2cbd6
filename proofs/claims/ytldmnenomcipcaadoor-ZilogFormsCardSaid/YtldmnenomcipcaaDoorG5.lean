/- Written by a program of ours (wip/tools/gprint.py) over the kit's print: contracts of the program's functions, each as a plain function. -/
import Derived.Test.YtldmnenomcipcaaDoorG0
namespace Go.Proofs.YtldmnenomcipcaaDoor.G
open Go.RowKit Go.Proofs.YtldmnenomcipcaaDoorW.PrintWords Go.Proofs.YtldmnenomcipcaaDoorW.PrintLast Go.Proofs.YtldmnenomcipcaaDoorW.PrintMore
attribute [local go_sem] max2_int min2_int max_two min_two max_three min_three max_four min_four   -- for this text's walks alone
set_option linter.unusedVariables false
set_option linter.unusedSimpArgs false

/-! ### zilog_pair: function 53 -/
def zilog_pair.f (a0 : ByteArray) : Option (ByteArray) := if a0.toList = ([66] : List UInt8) then (some (⟨#[66, 67]⟩ : ByteArray)) else (if a0.toList = ([68] : List UInt8) then (some (⟨#[68, 69]⟩ : ByteArray)) else (if a0.toList = ([72] : List UInt8) then (some (⟨#[72, 76]⟩ : ByteArray)) else (if a0.toList = ([80, 83, 87] : List UInt8) then (some (⟨#[65, 70]⟩ : ByteArray)) else (some a0))))
set_option maxHeartbeats 8000000 in
set_option maxRecDepth 100000 in
theorem zilog_pair.calls (a0 : ByteArray) (r : ByteArray) (w : World) (h : zilog_pair.f a0 = some r) (hT : Tabs w) :
    Calls Tryd.prog 53 #[.string a0] w fun e w' => e = .returned (.string r) ∧ Drawn0 w w' := by
  have H : (if a0.toList = ([66] : List UInt8) then (some (⟨#[66, 67]⟩ : ByteArray)) else (if a0.toList = ([68] : List UInt8) then (some (⟨#[68, 69]⟩ : ByteArray)) else (if a0.toList = ([72] : List UInt8) then (some (⟨#[72, 76]⟩ : ByteArray)) else (if a0.toList = ([80, 83, 87] : List UInt8) then (some (⟨#[65, 70]⟩ : ByteArray)) else (some a0))))) = some r := h
  clear h
  by_cases c2 : a0.toList = ([66] : List UInt8)
  · rw [if_pos c2] at H
    have c2b0 : (a0.toList == ([66] : List UInt8)) = true := beq_iff_eq.mpr c2
    have c2b1 : (a0.toList != ([66] : List UInt8)) = false := bne_eq_false_iff_eq.mpr c2
    clear c2
    obtain rfl := Option.some.inj H
    go_enter Tryd.func53, Tryd.ntmps53
    go_wp2
    go_ret
    exact ⟨by first | rfl | (simp; done) | (simp [*]; done), by repeat (first | exact Drawn0.refl _ | apply Drawn0.step)⟩
  · rw [if_neg c2] at H
    have c2b0 : (a0.toList == ([66] : List UInt8)) = false := beq_eq_false_iff_ne.mpr c2
    have c2b1 : (a0.toList != ([66] : List UInt8)) = true := bne_iff_ne.mpr c2
    by_cases c3 : a0.toList = ([68] : List UInt8)
    · rw [if_pos c3] at H
      have c3b0 : (a0.toList == ([68] : List UInt8)) = true := beq_iff_eq.mpr c3
      have c3b1 : (a0.toList != ([68] : List UInt8)) = false := bne_eq_false_iff_eq.mpr c3
      clear c3
      obtain rfl := Option.some.inj H
      go_enter Tryd.func53, Tryd.ntmps53
      go_wp2
      go_ret
      exact ⟨by first | rfl | (simp; done) | (simp [*]; done), by repeat (first | exact Drawn0.refl _ | apply Drawn0.step)⟩
    · rw [if_neg c3] at H
      have c3b0 : (a0.toList == ([68] : List UInt8)) = false := beq_eq_false_iff_ne.mpr c3
      have c3b1 : (a0.toList != ([68] : List UInt8)) = true := bne_iff_ne.mpr c3
      by_cases c4 : a0.toList = ([72] : List UInt8)
      · rw [if_pos c4] at H
        have c4b0 : (a0.toList == ([72] : List UInt8)) = true := beq_iff_eq.mpr c4
        have c4b1 : (a0.toList != ([72] : List UInt8)) = false := bne_eq_false_iff_eq.mpr c4
        clear c4
        obtain rfl := Option.some.inj H
        go_enter Tryd.func53, Tryd.ntmps53
        go_wp2
        go_ret
        exact ⟨by first | rfl | (simp; done) | (simp [*]; done), by repeat (first | exact Drawn0.refl _ | apply Drawn0.step)⟩
      · rw [if_neg c4] at H
        have c4b0 : (a0.toList == ([72] : List UInt8)) = false := beq_eq_false_iff_ne.mpr c4
        have c4b1 : (a0.toList != ([72] : List UInt8)) = true := bne_iff_ne.mpr c4
        by_cases c5 : a0.toList = ([80, 83, 87] : List UInt8)
        · rw [if_pos c5] at H
          have c5b0 : (a0.toList == ([80, 83, 87] : List UInt8)) = true := beq_iff_eq.mpr c5
          have c5b1 : (a0.toList != ([80, 83, 87] : List UInt8)) = false := bne_eq_false_iff_eq.mpr c5
          clear c5
          obtain rfl := Option.some.inj H
          go_enter Tryd.func53, Tryd.ntmps53
          go_wp2
          go_ret
          exact ⟨by first | rfl | (simp; done) | (simp [*]; done), by repeat (first | exact Drawn0.refl _ | apply Drawn0.step)⟩
        · rw [if_neg c5] at H
          have c5b0 : (a0.toList == ([80, 83, 87] : List UInt8)) = false := beq_eq_false_iff_ne.mpr c5
          have c5b1 : (a0.toList != ([80, 83, 87] : List UInt8)) = true := bne_iff_ne.mpr c5
          obtain rfl := Option.some.inj H
          go_enter Tryd.func53, Tryd.ntmps53
          go_wp2
          go_ret
          exact ⟨by first | rfl | (simp; done) | (simp [*]; done), by repeat (first | exact Drawn0.refl _ | apply Drawn0.step)⟩

end Go.Proofs.YtldmnenomcipcaaDoor.G

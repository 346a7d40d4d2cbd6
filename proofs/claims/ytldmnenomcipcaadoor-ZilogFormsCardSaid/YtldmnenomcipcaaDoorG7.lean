/- Written by a program of ours (wip/tools/gprint.py) over the kit's print: contracts of the program's functions, each as a plain function. -/
import Derived.Test.YtldmnenomcipcaaDoorG0
import Derived.Test.YtldmnenomcipcaaDoorG3
import Derived.Test.YtldmnenomcipcaaDoorG4
import Derived.Test.YtldmnenomcipcaaDoorG6
namespace Go.Proofs.YtldmnenomcipcaaDoor.G
open Go.RowKit Go.Proofs.YtldmnenomcipcaaDoorW.PrintWords Go.Proofs.YtldmnenomcipcaaDoorW.PrintLast Go.Proofs.YtldmnenomcipcaaDoorW.PrintMore
attribute [local go_sem] max2_int min2_int max_two min_two max_three min_three max_four min_four   -- for this text's walks alone
set_option linter.unusedVariables false
set_option linter.unusedSimpArgs false

/-! ### zilog_one: function 54 -/
def zilog_one.j0 : Nat → ByteArray → ByteArray → Bool → Option (ByteArray)
  | 0, _, _, _ => none
  | k + 1, x0, x3, x4 => if x4 = true then (if x0.size + 1 ≤ 9223372036854775807 then (some (x0 ++ (⟨#[65]⟩ : ByteArray))) else (none)) else (if x3.toList = ([82, 65, 76] : List UInt8) then (some (⟨#[82, 76, 65]⟩ : ByteArray)) else (if x3.toList = ([82, 65, 82] : List UInt8) then (some (⟨#[82, 82, 65]⟩ : ByteArray)) else (if x3.toList = ([67, 77, 65] : List UInt8) then (some (⟨#[67, 80, 76]⟩ : ByteArray)) else (if x3.toList = ([83, 84, 67] : List UInt8) then (some (⟨#[83, 67, 70]⟩ : ByteArray)) else (if x3.toList = ([67, 77, 67] : List UInt8) then (some (⟨#[67, 67, 70]⟩ : ByteArray)) else (if x3.toList = ([72, 76, 84] : List UInt8) then (some (⟨#[72, 65, 76, 84]⟩ : ByteArray)) else (some x0)))))))
def zilog_one.f (k : Nat) (a0 : ByteArray) : Option (ByteArray) := if a0.toList = ([82, 76, 67] : List UInt8) then (zilog_one.j0 k a0 a0 (a0.toList == ([82, 76, 67] : List UInt8))) else (zilog_one.j0 k a0 a0 (a0.toList == ([82, 82, 67] : List UInt8)))
theorem zilog_one.mono_l : ∀ k, (∀ y0 y1 y2, LeO (zilog_one.j0 k y0 y1 y2) (zilog_one.j0 (k + 1) y0 y1 y2))
  | 0 => fun _ _ _ r h => by simp [zilog_one.j0] at h
  | k + 1 => by
    have ih0 := zilog_one.mono_l k
    · intro y0 y1 y2
      unfold zilog_one.j0
      repeat' first
      | (with_reducible exact ih0 _ _ _)
      | (with_reducible exact LeO.refl _)
      | (with_reducible exact LeO.none _)
      | (with_reducible refine LeO.ite ?_ ?_)
      | (with_reducible refine LeO.bind ?_ (fun _ => ?_))
      | exact ih0 _ _ _
      | exact LeO.none _
      | refine LeO.ite ?_ ?_
      | refine LeO.bind ?_ (fun _ => ?_)
theorem zilog_one.mono : ∀ a0 k, LeO (zilog_one.f k a0) (zilog_one.f (k + 1) a0) := by
  intro a0 k
  have ih0 := zilog_one.mono_l k
  unfold zilog_one.f
  repeat' first
      | (with_reducible exact ih0 _ _ _)
      | (with_reducible exact LeO.refl _)
      | (with_reducible exact LeO.none _)
      | (with_reducible refine LeO.ite ?_ ?_)
      | (with_reducible refine LeO.bind ?_ (fun _ => ?_))
      | exact ih0 _ _ _
      | exact LeO.none _
      | refine LeO.ite ?_ ?_
      | refine LeO.bind ?_ (fun _ => ?_)
set_option maxHeartbeats 8000000 in
set_option maxRecDepth 100000 in
theorem zilog_one.calls (k : Nat) (a0 : ByteArray) (r : ByteArray) (w : World) (h : zilog_one.f k a0 = some r) (hT : Tabs w) :
    Calls Tryd.prog 54 #[.string a0] w fun e w' => e = .returned (.string r) ∧ Drawn0 w w' := by
  have H : (if a0.toList = ([82, 76, 67] : List UInt8) then (zilog_one.j0 k a0 a0 (a0.toList == ([82, 76, 67] : List UInt8))) else (zilog_one.j0 k a0 a0 (a0.toList == ([82, 82, 67] : List UInt8)))) = some r := h
  clear h
  have HC2 := Aside0.mk H
  clear H
  go_enter Tryd.func54, Tryd.ntmps54
  go_upto_if 4 with (fail)
  go_cut [4] (fun v4 wc => ∃ (kq : Nat) (x4_1 : Bool), v4 = .bool x4_1 ∧ Aside0 (zilog_one.j0 kq a0 a0 x4_1 = some r) ∧ Aside0 (kq ≤ k) ∧ Drawn0 w wc)
  case first =>
    have H := HC2.out
    clear HC2
    by_cases c3 : a0.toList = ([82, 76, 67] : List UInt8)
    · rw [if_pos c3] at H
      have c3b0 : (a0.toList == ([82, 76, 67] : List UInt8)) = true := beq_iff_eq.mpr c3
      have c3b1 : (a0.toList != ([82, 76, 67] : List UInt8)) = false := bne_eq_false_iff_eq.mpr c3
      clear c3
      (first | rw [c3b0] | (simp only [i64_w, i32_w]; rw [c3b0]) | skip)
      have H' := Aside0.mk H
      clear H
      go_wp2
      go_meet
      case rel => exact ⟨_, ((a0.toList == ([82, 76, 67] : List UInt8))), (by first | rfl | (simp; done) | (simp [*]; done)), H', ⟨by first | omega | exact Nat.le_refl _⟩, by repeat (first | exact Drawn0.refl _ | apply Drawn0.step)⟩
    · rw [if_neg c3] at H
      have c3b0 : (a0.toList == ([82, 76, 67] : List UInt8)) = false := beq_eq_false_iff_ne.mpr c3
      have c3b1 : (a0.toList != ([82, 76, 67] : List UInt8)) = true := bne_iff_ne.mpr c3
      (first | rw [c3b0] | (simp only [i64_w, i32_w]; rw [c3b0]) | skip)
      have H' := Aside0.mk H
      clear H
      go_wp2
      go_meet
      case rel => exact ⟨_, ((a0.toList == ([82, 82, 67] : List UInt8))), (by first | rfl | (simp; done) | (simp [*]; done)), H', ⟨by first | omega | exact Nat.le_refl _⟩, by repeat (first | exact Drawn0.refl _ | apply Drawn0.step)⟩
  case rest =>
    clear HC2
    try clear p2
    try clear c3
    try clear c3b0
    try clear c3b1
    obtain ⟨kq, x4_1, rfl, HA, HJ1, ⟨mc1, rfl⟩⟩ := hcut
    cases kq with
    | zero => exact absurd HA.out (by simp [zilog_one.j0])
    | succ kj1 =>
      have H := HA.out
      clear HA
      simp only [zilog_one.j0] at H
      by_cases c4 : x4_1 = true
      · subst c4
        have H1 : (if a0.size + 1 ≤ 9223372036854775807 then (some (a0 ++ (⟨#[65]⟩ : ByteArray))) else (none)) = some r := by rw [if_pos rfl] at H; exact H
        clear H
        have H := H1
        clear H1
        by_cases c5 : a0.size + 1 ≤ 9223372036854775807
        · rw [if_pos c5] at H
          have c5b0 := eq_true c5
          have c5b1 : decide (a0.size + 1 ≤ 9223372036854775807) = true := decide_eq_true c5
          try have c5b2 : (9223372036854775807 < a0.size + 1) = False := eq_false (Nat.not_lt.2 c5)
          obtain rfl := Option.some.inj H
          go_wp2
          go_ret
          exact ⟨by first | rfl | (simp; done) | (simp [*]; done), by repeat (first | exact Drawn0.refl _ | apply Drawn0.step)⟩
        · rw [if_neg c5] at H
          exact absurd H (by simp)
      · replace c4 := Bool.eq_false_iff.mpr c4
        subst c4
        have H1 : (if a0.toList = ([82, 65, 76] : List UInt8) then (some (⟨#[82, 76, 65]⟩ : ByteArray)) else (if a0.toList = ([82, 65, 82] : List UInt8) then (some (⟨#[82, 82, 65]⟩ : ByteArray)) else (if a0.toList = ([67, 77, 65] : List UInt8) then (some (⟨#[67, 80, 76]⟩ : ByteArray)) else (if a0.toList = ([83, 84, 67] : List UInt8) then (some (⟨#[83, 67, 70]⟩ : ByteArray)) else (if a0.toList = ([67, 77, 67] : List UInt8) then (some (⟨#[67, 67, 70]⟩ : ByteArray)) else (if a0.toList = ([72, 76, 84] : List UInt8) then (some (⟨#[72, 65, 76, 84]⟩ : ByteArray)) else (some a0))))))) = some r := by rw [if_neg (show ¬ (false = true) by decide)] at H; exact H
        clear H
        have H := H1
        clear H1
        by_cases c6 : a0.toList = ([82, 65, 76] : List UInt8)
        · rw [if_pos c6] at H
          have c6b0 : (a0.toList == ([82, 65, 76] : List UInt8)) = true := beq_iff_eq.mpr c6
          have c6b1 : (a0.toList != ([82, 65, 76] : List UInt8)) = false := bne_eq_false_iff_eq.mpr c6
          clear c6
          obtain rfl := Option.some.inj H
          go_wp2
          go_ret
          exact ⟨by first | rfl | (simp; done) | (simp [*]; done), by repeat (first | exact Drawn0.refl _ | apply Drawn0.step)⟩
        · rw [if_neg c6] at H
          have c6b0 : (a0.toList == ([82, 65, 76] : List UInt8)) = false := beq_eq_false_iff_ne.mpr c6
          have c6b1 : (a0.toList != ([82, 65, 76] : List UInt8)) = true := bne_iff_ne.mpr c6
          by_cases c7 : a0.toList = ([82, 65, 82] : List UInt8)
          · rw [if_pos c7] at H
            have c7b0 : (a0.toList == ([82, 65, 82] : List UInt8)) = true := beq_iff_eq.mpr c7
            have c7b1 : (a0.toList != ([82, 65, 82] : List UInt8)) = false := bne_eq_false_iff_eq.mpr c7
            clear c7
            obtain rfl := Option.some.inj H
            go_wp2
            go_ret
            exact ⟨by first | rfl | (simp; done) | (simp [*]; done), by repeat (first | exact Drawn0.refl _ | apply Drawn0.step)⟩
          · rw [if_neg c7] at H
            have c7b0 : (a0.toList == ([82, 65, 82] : List UInt8)) = false := beq_eq_false_iff_ne.mpr c7
            have c7b1 : (a0.toList != ([82, 65, 82] : List UInt8)) = true := bne_iff_ne.mpr c7
            by_cases c8 : a0.toList = ([67, 77, 65] : List UInt8)
            · rw [if_pos c8] at H
              have c8b0 : (a0.toList == ([67, 77, 65] : List UInt8)) = true := beq_iff_eq.mpr c8
              have c8b1 : (a0.toList != ([67, 77, 65] : List UInt8)) = false := bne_eq_false_iff_eq.mpr c8
              clear c8
              obtain rfl := Option.some.inj H
              go_wp2
              go_ret
              exact ⟨by first | rfl | (simp; done) | (simp [*]; done), by repeat (first | exact Drawn0.refl _ | apply Drawn0.step)⟩
            · rw [if_neg c8] at H
              have c8b0 : (a0.toList == ([67, 77, 65] : List UInt8)) = false := beq_eq_false_iff_ne.mpr c8
              have c8b1 : (a0.toList != ([67, 77, 65] : List UInt8)) = true := bne_iff_ne.mpr c8
              by_cases c9 : a0.toList = ([83, 84, 67] : List UInt8)
              · rw [if_pos c9] at H
                have c9b0 : (a0.toList == ([83, 84, 67] : List UInt8)) = true := beq_iff_eq.mpr c9
                have c9b1 : (a0.toList != ([83, 84, 67] : List UInt8)) = false := bne_eq_false_iff_eq.mpr c9
                clear c9
                obtain rfl := Option.some.inj H
                go_wp2
                go_ret
                exact ⟨by first | rfl | (simp; done) | (simp [*]; done), by repeat (first | exact Drawn0.refl _ | apply Drawn0.step)⟩
              · rw [if_neg c9] at H
                have c9b0 : (a0.toList == ([83, 84, 67] : List UInt8)) = false := beq_eq_false_iff_ne.mpr c9
                have c9b1 : (a0.toList != ([83, 84, 67] : List UInt8)) = true := bne_iff_ne.mpr c9
                by_cases c10 : a0.toList = ([67, 77, 67] : List UInt8)
                · rw [if_pos c10] at H
                  have c10b0 : (a0.toList == ([67, 77, 67] : List UInt8)) = true := beq_iff_eq.mpr c10
                  have c10b1 : (a0.toList != ([67, 77, 67] : List UInt8)) = false := bne_eq_false_iff_eq.mpr c10
                  clear c10
                  obtain rfl := Option.some.inj H
                  go_wp2
                  go_ret
                  exact ⟨by first | rfl | (simp; done) | (simp [*]; done), by repeat (first | exact Drawn0.refl _ | apply Drawn0.step)⟩
                · rw [if_neg c10] at H
                  have c10b0 : (a0.toList == ([67, 77, 67] : List UInt8)) = false := beq_eq_false_iff_ne.mpr c10
                  have c10b1 : (a0.toList != ([67, 77, 67] : List UInt8)) = true := bne_iff_ne.mpr c10
                  by_cases c11 : a0.toList = ([72, 76, 84] : List UInt8)
                  · rw [if_pos c11] at H
                    have c11b0 : (a0.toList == ([72, 76, 84] : List UInt8)) = true := beq_iff_eq.mpr c11
                    have c11b1 : (a0.toList != ([72, 76, 84] : List UInt8)) = false := bne_eq_false_iff_eq.mpr c11
                    clear c11
                    obtain rfl := Option.some.inj H
                    go_wp2
                    go_ret
                    exact ⟨by first | rfl | (simp; done) | (simp [*]; done), by repeat (first | exact Drawn0.refl _ | apply Drawn0.step)⟩
                  · rw [if_neg c11] at H
                    have c11b0 : (a0.toList == ([72, 76, 84] : List UInt8)) = false := beq_eq_false_iff_ne.mpr c11
                    have c11b1 : (a0.toList != ([72, 76, 84] : List UInt8)) = true := bne_iff_ne.mpr c11
                    obtain rfl := Option.some.inj H
                    go_wp2
                    go_ret
                    exact ⟨by first | rfl | (simp; done) | (simp [*]; done), by repeat (first | exact Drawn0.refl _ | apply Drawn0.step)⟩

/-! ### zilog_plain: function 38 -/
def zilog_plain.f (k : Nat) (a0 : ByteArray) : Option (List ByteArray) := if a0.toList = ([83, 72, 76, 68] : List UInt8) then ((zilog_words.f (([(⟨#[76, 68]⟩ : ByteArray), (⟨#[40, 110, 110, 41]⟩ : ByteArray), (⟨#[72, 76]⟩ : ByteArray)] : List ByteArray))).bind fun t480 => (some t480)) else (if a0.toList = ([76, 72, 76, 68] : List UInt8) then ((zilog_words.f (([(⟨#[76, 68]⟩ : ByteArray), (⟨#[72, 76]⟩ : ByteArray), (⟨#[40, 110, 110, 41]⟩ : ByteArray)] : List ByteArray))).bind fun t486 => (some t486)) else (if a0.toList = ([83, 84, 65] : List UInt8) then ((zilog_words.f (([(⟨#[76, 68]⟩ : ByteArray), (⟨#[40, 110, 110, 41]⟩ : ByteArray), (⟨#[65]⟩ : ByteArray)] : List ByteArray))).bind fun t492 => (some t492)) else (if a0.toList = ([76, 68, 65] : List UInt8) then ((zilog_words.f (([(⟨#[76, 68]⟩ : ByteArray), (⟨#[65]⟩ : ByteArray), (⟨#[40, 110, 110, 41]⟩ : ByteArray)] : List ByteArray))).bind fun t498 => (some t498)) else (if a0.toList = ([83, 80, 72, 76] : List UInt8) then ((zilog_words.f (([(⟨#[76, 68]⟩ : ByteArray), (⟨#[83, 80]⟩ : ByteArray), (⟨#[72, 76]⟩ : ByteArray)] : List ByteArray))).bind fun t504 => (some t504)) else (if a0.toList = ([80, 67, 72, 76] : List UInt8) then ((zilog_words.f (([(⟨#[74, 80]⟩ : ByteArray), (⟨#[40, 72, 76, 41]⟩ : ByteArray)] : List ByteArray))).bind fun t510 => (some t510)) else (if a0.toList = ([88, 84, 72, 76] : List UInt8) then ((zilog_words.f (([(⟨#[69, 88]⟩ : ByteArray), (⟨#[40, 83, 80, 41]⟩ : ByteArray), (⟨#[72, 76]⟩ : ByteArray)] : List ByteArray))).bind fun t516 => (some t516)) else (if a0.toList = ([88, 67, 72, 71] : List UInt8) then ((zilog_words.f (([(⟨#[69, 88]⟩ : ByteArray), (⟨#[68, 69]⟩ : ByteArray), (⟨#[72, 76]⟩ : ByteArray)] : List ByteArray))).bind fun t522 => (some t522)) else (if a0.toList = ([79, 85, 84] : List UInt8) then ((zilog_words.f (([(⟨#[79, 85, 84]⟩ : ByteArray), (⟨#[40, 110, 41]⟩ : ByteArray), (⟨#[65]⟩ : ByteArray)] : List ByteArray))).bind fun t528 => (some t528)) else (if a0.toList = ([73, 78] : List UInt8) then ((zilog_words.f (([(⟨#[73, 78]⟩ : ByteArray), (⟨#[65]⟩ : ByteArray), (⟨#[40, 110, 41]⟩ : ByteArray)] : List ByteArray))).bind fun t534 => (some t534)) else (if a0.toList = ([74, 77, 80] : List UInt8) then ((zilog_words.f (([(⟨#[74, 80]⟩ : ByteArray), (⟨#[110, 110]⟩ : ByteArray)] : List ByteArray))).bind fun t540 => (some t540)) else (if a0.toList = ([67, 65, 76, 76] : List UInt8) then ((zilog_words.f (([(⟨#[67, 65, 76, 76]⟩ : ByteArray), (⟨#[110, 110]⟩ : ByteArray)] : List ByteArray))).bind fun t546 => (some t546)) else ((zilog_one.f k a0).bind fun t549 => ((zilog_words.f (([t549] : List ByteArray))).bind fun t553 => (some t553))))))))))))))
theorem zilog_plain.mono : ∀ a0 k, LeO (zilog_plain.f k a0) (zilog_plain.f (k + 1) a0) := by
  intro a0 k
  unfold zilog_plain.f
  repeat' first
      | (with_reducible exact zilog_one.mono _ _)
      | (with_reducible exact LeO.refl _)
      | (with_reducible exact LeO.none _)
      | (with_reducible refine LeO.ite ?_ ?_)
      | (with_reducible refine LeO.bind ?_ (fun _ => ?_))
      | exact zilog_one.mono _ _
      | exact LeO.none _
      | refine LeO.ite ?_ ?_
      | refine LeO.bind ?_ (fun _ => ?_)
set_option maxHeartbeats 8000000 in
set_option maxRecDepth 100000 in
theorem zilog_plain.calls (k : Nat) (a0 : ByteArray) (r : List ByteArray) (w : World) (h : zilog_plain.f k a0 = some r) (hT : Tabs w) :
    Calls Tryd.prog 38 #[.string a0] w fun e w' => ∃ v0_ : Value, e = .returned (v0_) ∧ Kd.R Kd.string 9 w' w.heap.size (fun _ => True) v0_ r ∧ Below w.heap.size w w' := by
  have HB := Aside0.mk (Below.refl w.heap.size w)
  have H : (if a0.toList = ([83, 72, 76, 68] : List UInt8) then ((zilog_words.f (([(⟨#[76, 68]⟩ : ByteArray), (⟨#[40, 110, 110, 41]⟩ : ByteArray), (⟨#[72, 76]⟩ : ByteArray)] : List ByteArray))).bind fun t480 => (some t480)) else (if a0.toList = ([76, 72, 76, 68] : List UInt8) then ((zilog_words.f (([(⟨#[76, 68]⟩ : ByteArray), (⟨#[72, 76]⟩ : ByteArray), (⟨#[40, 110, 110, 41]⟩ : ByteArray)] : List ByteArray))).bind fun t486 => (some t486)) else (if a0.toList = ([83, 84, 65] : List UInt8) then ((zilog_words.f (([(⟨#[76, 68]⟩ : ByteArray), (⟨#[40, 110, 110, 41]⟩ : ByteArray), (⟨#[65]⟩ : ByteArray)] : List ByteArray))).bind fun t492 => (some t492)) else (if a0.toList = ([76, 68, 65] : List UInt8) then ((zilog_words.f (([(⟨#[76, 68]⟩ : ByteArray), (⟨#[65]⟩ : ByteArray), (⟨#[40, 110, 110, 41]⟩ : ByteArray)] : List ByteArray))).bind fun t498 => (some t498)) else (if a0.toList = ([83, 80, 72, 76] : List UInt8) then ((zilog_words.f (([(⟨#[76, 68]⟩ : ByteArray), (⟨#[83, 80]⟩ : ByteArray), (⟨#[72, 76]⟩ : ByteArray)] : List ByteArray))).bind fun t504 => (some t504)) else (if a0.toList = ([80, 67, 72, 76] : List UInt8) then ((zilog_words.f (([(⟨#[74, 80]⟩ : ByteArray), (⟨#[40, 72, 76, 41]⟩ : ByteArray)] : List ByteArray))).bind fun t510 => (some t510)) else (if a0.toList = ([88, 84, 72, 76] : List UInt8) then ((zilog_words.f (([(⟨#[69, 88]⟩ : ByteArray), (⟨#[40, 83, 80, 41]⟩ : ByteArray), (⟨#[72, 76]⟩ : ByteArray)] : List ByteArray))).bind fun t516 => (some t516)) else (if a0.toList = ([88, 67, 72, 71] : List UInt8) then ((zilog_words.f (([(⟨#[69, 88]⟩ : ByteArray), (⟨#[68, 69]⟩ : ByteArray), (⟨#[72, 76]⟩ : ByteArray)] : List ByteArray))).bind fun t522 => (some t522)) else (if a0.toList = ([79, 85, 84] : List UInt8) then ((zilog_words.f (([(⟨#[79, 85, 84]⟩ : ByteArray), (⟨#[40, 110, 41]⟩ : ByteArray), (⟨#[65]⟩ : ByteArray)] : List ByteArray))).bind fun t528 => (some t528)) else (if a0.toList = ([73, 78] : List UInt8) then ((zilog_words.f (([(⟨#[73, 78]⟩ : ByteArray), (⟨#[65]⟩ : ByteArray), (⟨#[40, 110, 41]⟩ : ByteArray)] : List ByteArray))).bind fun t534 => (some t534)) else (if a0.toList = ([74, 77, 80] : List UInt8) then ((zilog_words.f (([(⟨#[74, 80]⟩ : ByteArray), (⟨#[110, 110]⟩ : ByteArray)] : List ByteArray))).bind fun t540 => (some t540)) else (if a0.toList = ([67, 65, 76, 76] : List UInt8) then ((zilog_words.f (([(⟨#[67, 65, 76, 76]⟩ : ByteArray), (⟨#[110, 110]⟩ : ByteArray)] : List ByteArray))).bind fun t546 => (some t546)) else ((zilog_one.f k a0).bind fun t549 => ((zilog_words.f (([t549] : List ByteArray))).bind fun t553 => (some t553))))))))))))))) = some r := h
  clear h
  by_cases c2 : a0.toList = ([83, 72, 76, 68] : List UInt8)
  · rw [if_pos c2] at H
    have c2b0 : (a0.toList == ([83, 72, 76, 68] : List UInt8)) = true := beq_iff_eq.mpr c2
    have c2b1 : (a0.toList != ([83, 72, 76, 68] : List UInt8)) = false := bne_eq_false_iff_eq.mpr c2
    clear c2
    obtain ⟨y477, hy477⟩ : ∃ y_ : List ByteArray, y_ = (([(⟨#[76, 68]⟩ : ByteArray), (⟨#[40, 110, 110, 41]⟩ : ByteArray), (⟨#[72, 76]⟩ : ByteArray)] : List ByteArray)) := ⟨_, rfl⟩
    replace H : ((zilog_words.f y477).bind fun t480 => (some t480)) = some r := by first | (rw [hy477]; with_reducible exact H) | (have H2_ := (Option.bind_some _ _).symm.trans H; rw [hy477]; with_reducible exact H2_) | (have H2_ := (Option.bind_some _ _).symm.trans H; with_reducible exact H2_) | with_reducible exact H | (rw [hy477]; exact H) | exact H
    have Ny477 := Aside0.mk hy477
    clear hy477
    replace H := Option.bind_eq_some_iff.mp H
    obtain ⟨t480, A30, H⟩ := H
    replace H : (some t480) = some r := H
    have A3 := Aside0.mk A30
    clear A30
    obtain rfl := Option.some.inj H
    go_enter Tryd.func38, Tryd.ntmps38
    go_wp2_with (first | ((with_reducible refine gate_dst (N := 6) rfl ?_); refine Kd.R_lit Kd.string _ 9 ?hg (N := 6) ?hd (xs := ([(⟨#[76, 68]⟩ : ByteArray), (⟨#[40, 110, 110, 41]⟩ : ByteArray), (⟨#[72, 76]⟩ : ByteArray)] : List ByteArray)) (inner := [.string (⟨#[76, 68]⟩ : ByteArray), .string (⟨#[40, 110, 110, 41]⟩ : ByteArray), .string (⟨#[72, 76]⟩ : ByteArray)]) (ok := fun _ => True) (okp := fun _ => True) ?hr ?hp (fun _ hk => hk) trivial (Below.refl _ _) (Nat.le_refl _) (by simp) ?_; (case hd => rfl); (case hg => rfl); (case hr => first | (go_simp; done) | (go_simp; rfl)); (case hp => exact (Reps.one (show Kd.M Kd.string _ _ _ (⟨#[76, 68]⟩ : ByteArray) [.string (⟨#[76, 68]⟩ : ByteArray)] from rfl) (Reps.one (show Kd.M Kd.string _ _ _ (⟨#[40, 110, 110, 41]⟩ : ByteArray) [.string (⟨#[40, 110, 110, 41]⟩ : ByteArray)] from rfl) (Reps.one (show Kd.M Kd.string _ _ _ (⟨#[72, 76]⟩ : ByteArray) [.string (⟨#[72, 76]⟩ : ByteArray)] from rfl) (Reps.none _ _))))); intro v478 w4 ho5 hb hg_ hnew_; clear hg_ hnew_; (first | rw [← Ny477.out] at ho5 | (simp only [Int.reduceToNat] at ho5; rw [← Ny477.out] at ho5)); have n0_ := Aside0.mk (Kd.R_lower ho5 (below_size (by repeat (first | (with_reducible first | exact HB.out | apply below_alloc | apply pw_below_drewN | apply below_drew1) | exact HB.out)))); have n1_ := Aside0.mk (below_step (by repeat (first | (with_reducible first | exact HB.out | apply below_alloc | apply pw_below_drewN | apply below_drew1) | exact HB.out)) hb); clear HB; have HO479 := n0_; have HB := n1_; clear n0_ n1_; clear hb ho5; obtain ⟨Ao6, co6, eo6⟩ := Kd.R_slice HO479.out; subst eo6) | ((with_reducible refine gate_callee (f := 33) rfl ?_); refine goesL_ (some 7) rfl rfl Tryd.func33 (by kernel_rfl) rfl #[.slice Ao6 y477.length co6] rfl (by (try simp only [List.map_toArray, List.map_cons, List.map_nil]); first | done | rfl | (simp only [List.length_drop, List.length_take]; rfl)) ?_; (with_reducible refine (zilog_words.calls (fun k_ => some k_ = (.slice Ao6 y477.length co6 : Value).ownBlock) (.slice Ao6 y477.length co6) y477 t480 w _ ?side1 ?side2 A3.out (by first | exact hT | exact tabs_below hT (by repeat (first | (with_reducible first | exact HB.out | apply below_alloc | apply pw_below_drewN | apply below_drew1) | exact HB.out)) | (repeat (first | exact hT | apply tabs_alloc | apply tabs_drewN | apply tabs_drew)))).mono ?_); (case side1 => repeat (first | (with_reducible first | exact HB.out | apply below_alloc | apply pw_below_drewN | apply below_drew1) | exact HB.out)); (case side2 => exact Kd.R_tight rfl HO479.out); rintro e w7 ⟨v481, rfl, ho0, hb, hkp⟩; refine ⟨_, rfl, ?_⟩; have n0_ := Aside0.mk (Kd.R_mono (ok' := fun k_ => True) ho0 (fun k_ hk_ => trivial)); have n1_ := Aside0.mk (hb); clear HB; clear HO479; have HO482 := n0_; have HB := n1_; clear n0_ n1_; (try clear hb); (try clear hkp); (try clear ho0)))
    go_ret
    exact ⟨_, by first | rfl | (simp [errW_none, errW_some] <;> rfl) | (simp [*, errW_none, errW_some] <;> rfl), by (with_reducible repeat (first | apply Kd.R_alloc | apply Kd.R_drewN | apply Kd.R_drew)); exact HO482.out, by repeat (first | (with_reducible first | exact HB.out | apply below_alloc | apply pw_below_drewN | apply below_drew1) | exact HB.out)⟩
  · rw [if_neg c2] at H
    have c2b0 : (a0.toList == ([83, 72, 76, 68] : List UInt8)) = false := beq_eq_false_iff_ne.mpr c2
    have c2b1 : (a0.toList != ([83, 72, 76, 68] : List UInt8)) = true := bne_iff_ne.mpr c2
    by_cases c8 : a0.toList = ([76, 72, 76, 68] : List UInt8)
    · rw [if_pos c8] at H
      have c8b0 : (a0.toList == ([76, 72, 76, 68] : List UInt8)) = true := beq_iff_eq.mpr c8
      have c8b1 : (a0.toList != ([76, 72, 76, 68] : List UInt8)) = false := bne_eq_false_iff_eq.mpr c8
      clear c8
      obtain ⟨y483, hy483⟩ : ∃ y_ : List ByteArray, y_ = (([(⟨#[76, 68]⟩ : ByteArray), (⟨#[72, 76]⟩ : ByteArray), (⟨#[40, 110, 110, 41]⟩ : ByteArray)] : List ByteArray)) := ⟨_, rfl⟩
      replace H : ((zilog_words.f y483).bind fun t486 => (some t486)) = some r := by first | (rw [hy483]; with_reducible exact H) | (have H2_ := (Option.bind_some _ _).symm.trans H; rw [hy483]; with_reducible exact H2_) | (have H2_ := (Option.bind_some _ _).symm.trans H; with_reducible exact H2_) | with_reducible exact H | (rw [hy483]; exact H) | exact H
      have Ny483 := Aside0.mk hy483
      clear hy483
      replace H := Option.bind_eq_some_iff.mp H
      obtain ⟨t486, A90, H⟩ := H
      replace H : (some t486) = some r := H
      have A9 := Aside0.mk A90
      clear A90
      obtain rfl := Option.some.inj H
      go_enter Tryd.func38, Tryd.ntmps38
      go_wp2_with (first | ((with_reducible refine gate_dst (N := 10) rfl ?_); refine Kd.R_lit Kd.string _ 9 ?hg (N := 10) ?hd (xs := ([(⟨#[76, 68]⟩ : ByteArray), (⟨#[72, 76]⟩ : ByteArray), (⟨#[40, 110, 110, 41]⟩ : ByteArray)] : List ByteArray)) (inner := [.string (⟨#[76, 68]⟩ : ByteArray), .string (⟨#[72, 76]⟩ : ByteArray), .string (⟨#[40, 110, 110, 41]⟩ : ByteArray)]) (ok := fun _ => True) (okp := fun _ => True) ?hr ?hp (fun _ hk => hk) trivial (Below.refl _ _) (Nat.le_refl _) (by simp) ?_; (case hd => rfl); (case hg => rfl); (case hr => first | (go_simp; done) | (go_simp; rfl)); (case hp => exact (Reps.one (show Kd.M Kd.string _ _ _ (⟨#[76, 68]⟩ : ByteArray) [.string (⟨#[76, 68]⟩ : ByteArray)] from rfl) (Reps.one (show Kd.M Kd.string _ _ _ (⟨#[72, 76]⟩ : ByteArray) [.string (⟨#[72, 76]⟩ : ByteArray)] from rfl) (Reps.one (show Kd.M Kd.string _ _ _ (⟨#[40, 110, 110, 41]⟩ : ByteArray) [.string (⟨#[40, 110, 110, 41]⟩ : ByteArray)] from rfl) (Reps.none _ _))))); intro v484 w10 ho11 hb hg_ hnew_; clear hg_ hnew_; (first | rw [← Ny483.out] at ho11 | (simp only [Int.reduceToNat] at ho11; rw [← Ny483.out] at ho11)); have n0_ := Aside0.mk (Kd.R_lower ho11 (below_size (by repeat (first | (with_reducible first | exact HB.out | apply below_alloc | apply pw_below_drewN | apply below_drew1) | exact HB.out)))); have n1_ := Aside0.mk (below_step (by repeat (first | (with_reducible first | exact HB.out | apply below_alloc | apply pw_below_drewN | apply below_drew1) | exact HB.out)) hb); clear HB; have HO485 := n0_; have HB := n1_; clear n0_ n1_; clear hb ho11; obtain ⟨Ao12, co12, eo12⟩ := Kd.R_slice HO485.out; subst eo12) | ((with_reducible refine gate_callee (f := 33) rfl ?_); refine goesL_ (some 11) rfl rfl Tryd.func33 (by kernel_rfl) rfl #[.slice Ao12 y483.length co12] rfl (by (try simp only [List.map_toArray, List.map_cons, List.map_nil]); first | done | rfl | (simp only [List.length_drop, List.length_take]; rfl)) ?_; (with_reducible refine (zilog_words.calls (fun k_ => some k_ = (.slice Ao12 y483.length co12 : Value).ownBlock) (.slice Ao12 y483.length co12) y483 t486 w _ ?side1 ?side2 A9.out (by first | exact hT | exact tabs_below hT (by repeat (first | (with_reducible first | exact HB.out | apply below_alloc | apply pw_below_drewN | apply below_drew1) | exact HB.out)) | (repeat (first | exact hT | apply tabs_alloc | apply tabs_drewN | apply tabs_drew)))).mono ?_); (case side1 => repeat (first | (with_reducible first | exact HB.out | apply below_alloc | apply pw_below_drewN | apply below_drew1) | exact HB.out)); (case side2 => exact Kd.R_tight rfl HO485.out); rintro e w13 ⟨v487, rfl, ho0, hb, hkp⟩; refine ⟨_, rfl, ?_⟩; have n0_ := Aside0.mk (Kd.R_mono (ok' := fun k_ => True) ho0 (fun k_ hk_ => trivial)); have n1_ := Aside0.mk (hb); clear HB; clear HO485; have HO488 := n0_; have HB := n1_; clear n0_ n1_; (try clear hb); (try clear hkp); (try clear ho0)))
      go_ret
      exact ⟨_, by first | rfl | (simp [errW_none, errW_some] <;> rfl) | (simp [*, errW_none, errW_some] <;> rfl), by (with_reducible repeat (first | apply Kd.R_alloc | apply Kd.R_drewN | apply Kd.R_drew)); exact HO488.out, by repeat (first | (with_reducible first | exact HB.out | apply below_alloc | apply pw_below_drewN | apply below_drew1) | exact HB.out)⟩
    · rw [if_neg c8] at H
      have c8b0 : (a0.toList == ([76, 72, 76, 68] : List UInt8)) = false := beq_eq_false_iff_ne.mpr c8
      have c8b1 : (a0.toList != ([76, 72, 76, 68] : List UInt8)) = true := bne_iff_ne.mpr c8
      by_cases c14 : a0.toList = ([83, 84, 65] : List UInt8)
      · rw [if_pos c14] at H
        have c14b0 : (a0.toList == ([83, 84, 65] : List UInt8)) = true := beq_iff_eq.mpr c14
        have c14b1 : (a0.toList != ([83, 84, 65] : List UInt8)) = false := bne_eq_false_iff_eq.mpr c14
        clear c14
        obtain ⟨y489, hy489⟩ : ∃ y_ : List ByteArray, y_ = (([(⟨#[76, 68]⟩ : ByteArray), (⟨#[40, 110, 110, 41]⟩ : ByteArray), (⟨#[65]⟩ : ByteArray)] : List ByteArray)) := ⟨_, rfl⟩
        replace H : ((zilog_words.f y489).bind fun t492 => (some t492)) = some r := by first | (rw [hy489]; with_reducible exact H) | (have H2_ := (Option.bind_some _ _).symm.trans H; rw [hy489]; with_reducible exact H2_) | (have H2_ := (Option.bind_some _ _).symm.trans H; with_reducible exact H2_) | with_reducible exact H | (rw [hy489]; exact H) | exact H
        have Ny489 := Aside0.mk hy489
        clear hy489
        replace H := Option.bind_eq_some_iff.mp H
        obtain ⟨t492, A150, H⟩ := H
        replace H : (some t492) = some r := H
        have A15 := Aside0.mk A150
        clear A150
        obtain rfl := Option.some.inj H
        go_enter Tryd.func38, Tryd.ntmps38
        go_wp2_with (first | ((with_reducible refine gate_dst (N := 14) rfl ?_); refine Kd.R_lit Kd.string _ 9 ?hg (N := 14) ?hd (xs := ([(⟨#[76, 68]⟩ : ByteArray), (⟨#[40, 110, 110, 41]⟩ : ByteArray), (⟨#[65]⟩ : ByteArray)] : List ByteArray)) (inner := [.string (⟨#[76, 68]⟩ : ByteArray), .string (⟨#[40, 110, 110, 41]⟩ : ByteArray), .string (⟨#[65]⟩ : ByteArray)]) (ok := fun _ => True) (okp := fun _ => True) ?hr ?hp (fun _ hk => hk) trivial (Below.refl _ _) (Nat.le_refl _) (by simp) ?_; (case hd => rfl); (case hg => rfl); (case hr => first | (go_simp; done) | (go_simp; rfl)); (case hp => exact (Reps.one (show Kd.M Kd.string _ _ _ (⟨#[76, 68]⟩ : ByteArray) [.string (⟨#[76, 68]⟩ : ByteArray)] from rfl) (Reps.one (show Kd.M Kd.string _ _ _ (⟨#[40, 110, 110, 41]⟩ : ByteArray) [.string (⟨#[40, 110, 110, 41]⟩ : ByteArray)] from rfl) (Reps.one (show Kd.M Kd.string _ _ _ (⟨#[65]⟩ : ByteArray) [.string (⟨#[65]⟩ : ByteArray)] from rfl) (Reps.none _ _))))); intro v490 w16 ho17 hb hg_ hnew_; clear hg_ hnew_; (first | rw [← Ny489.out] at ho17 | (simp only [Int.reduceToNat] at ho17; rw [← Ny489.out] at ho17)); have n0_ := Aside0.mk (Kd.R_lower ho17 (below_size (by repeat (first | (with_reducible first | exact HB.out | apply below_alloc | apply pw_below_drewN | apply below_drew1) | exact HB.out)))); have n1_ := Aside0.mk (below_step (by repeat (first | (with_reducible first | exact HB.out | apply below_alloc | apply pw_below_drewN | apply below_drew1) | exact HB.out)) hb); clear HB; have HO491 := n0_; have HB := n1_; clear n0_ n1_; clear hb ho17; obtain ⟨Ao18, co18, eo18⟩ := Kd.R_slice HO491.out; subst eo18) | ((with_reducible refine gate_callee (f := 33) rfl ?_); refine goesL_ (some 15) rfl rfl Tryd.func33 (by kernel_rfl) rfl #[.slice Ao18 y489.length co18] rfl (by (try simp only [List.map_toArray, List.map_cons, List.map_nil]); first | done | rfl | (simp only [List.length_drop, List.length_take]; rfl)) ?_; (with_reducible refine (zilog_words.calls (fun k_ => some k_ = (.slice Ao18 y489.length co18 : Value).ownBlock) (.slice Ao18 y489.length co18) y489 t492 w _ ?side1 ?side2 A15.out (by first | exact hT | exact tabs_below hT (by repeat (first | (with_reducible first | exact HB.out | apply below_alloc | apply pw_below_drewN | apply below_drew1) | exact HB.out)) | (repeat (first | exact hT | apply tabs_alloc | apply tabs_drewN | apply tabs_drew)))).mono ?_); (case side1 => repeat (first | (with_reducible first | exact HB.out | apply below_alloc | apply pw_below_drewN | apply below_drew1) | exact HB.out)); (case side2 => exact Kd.R_tight rfl HO491.out); rintro e w19 ⟨v493, rfl, ho0, hb, hkp⟩; refine ⟨_, rfl, ?_⟩; have n0_ := Aside0.mk (Kd.R_mono (ok' := fun k_ => True) ho0 (fun k_ hk_ => trivial)); have n1_ := Aside0.mk (hb); clear HB; clear HO491; have HO494 := n0_; have HB := n1_; clear n0_ n1_; (try clear hb); (try clear hkp); (try clear ho0)))
        go_ret
        exact ⟨_, by first | rfl | (simp [errW_none, errW_some] <;> rfl) | (simp [*, errW_none, errW_some] <;> rfl), by (with_reducible repeat (first | apply Kd.R_alloc | apply Kd.R_drewN | apply Kd.R_drew)); exact HO494.out, by repeat (first | (with_reducible first | exact HB.out | apply below_alloc | apply pw_below_drewN | apply below_drew1) | exact HB.out)⟩
      · rw [if_neg c14] at H
        have c14b0 : (a0.toList == ([83, 84, 65] : List UInt8)) = false := beq_eq_false_iff_ne.mpr c14
        have c14b1 : (a0.toList != ([83, 84, 65] : List UInt8)) = true := bne_iff_ne.mpr c14
        by_cases c20 : a0.toList = ([76, 68, 65] : List UInt8)
        · rw [if_pos c20] at H
          have c20b0 : (a0.toList == ([76, 68, 65] : List UInt8)) = true := beq_iff_eq.mpr c20
          have c20b1 : (a0.toList != ([76, 68, 65] : List UInt8)) = false := bne_eq_false_iff_eq.mpr c20
          clear c20
          obtain ⟨y495, hy495⟩ : ∃ y_ : List ByteArray, y_ = (([(⟨#[76, 68]⟩ : ByteArray), (⟨#[65]⟩ : ByteArray), (⟨#[40, 110, 110, 41]⟩ : ByteArray)] : List ByteArray)) := ⟨_, rfl⟩
          replace H : ((zilog_words.f y495).bind fun t498 => (some t498)) = some r := by first | (rw [hy495]; with_reducible exact H) | (have H2_ := (Option.bind_some _ _).symm.trans H; rw [hy495]; with_reducible exact H2_) | (have H2_ := (Option.bind_some _ _).symm.trans H; with_reducible exact H2_) | with_reducible exact H | (rw [hy495]; exact H) | exact H
          have Ny495 := Aside0.mk hy495
          clear hy495
          replace H := Option.bind_eq_some_iff.mp H
          obtain ⟨t498, A210, H⟩ := H
          replace H : (some t498) = some r := H
          have A21 := Aside0.mk A210
          clear A210
          obtain rfl := Option.some.inj H
          go_enter Tryd.func38, Tryd.ntmps38
          go_wp2_with (first | ((with_reducible refine gate_dst (N := 18) rfl ?_); refine Kd.R_lit Kd.string _ 9 ?hg (N := 18) ?hd (xs := ([(⟨#[76, 68]⟩ : ByteArray), (⟨#[65]⟩ : ByteArray), (⟨#[40, 110, 110, 41]⟩ : ByteArray)] : List ByteArray)) (inner := [.string (⟨#[76, 68]⟩ : ByteArray), .string (⟨#[65]⟩ : ByteArray), .string (⟨#[40, 110, 110, 41]⟩ : ByteArray)]) (ok := fun _ => True) (okp := fun _ => True) ?hr ?hp (fun _ hk => hk) trivial (Below.refl _ _) (Nat.le_refl _) (by simp) ?_; (case hd => rfl); (case hg => rfl); (case hr => first | (go_simp; done) | (go_simp; rfl)); (case hp => exact (Reps.one (show Kd.M Kd.string _ _ _ (⟨#[76, 68]⟩ : ByteArray) [.string (⟨#[76, 68]⟩ : ByteArray)] from rfl) (Reps.one (show Kd.M Kd.string _ _ _ (⟨#[65]⟩ : ByteArray) [.string (⟨#[65]⟩ : ByteArray)] from rfl) (Reps.one (show Kd.M Kd.string _ _ _ (⟨#[40, 110, 110, 41]⟩ : ByteArray) [.string (⟨#[40, 110, 110, 41]⟩ : ByteArray)] from rfl) (Reps.none _ _))))); intro v496 w22 ho23 hb hg_ hnew_; clear hg_ hnew_; (first | rw [← Ny495.out] at ho23 | (simp only [Int.reduceToNat] at ho23; rw [← Ny495.out] at ho23)); have n0_ := Aside0.mk (Kd.R_lower ho23 (below_size (by repeat (first | (with_reducible first | exact HB.out | apply below_alloc | apply pw_below_drewN | apply below_drew1) | exact HB.out)))); have n1_ := Aside0.mk (below_step (by repeat (first | (with_reducible first | exact HB.out | apply below_alloc | apply pw_below_drewN | apply below_drew1) | exact HB.out)) hb); clear HB; have HO497 := n0_; have HB := n1_; clear n0_ n1_; clear hb ho23; obtain ⟨Ao24, co24, eo24⟩ := Kd.R_slice HO497.out; subst eo24) | ((with_reducible refine gate_callee (f := 33) rfl ?_); refine goesL_ (some 19) rfl rfl Tryd.func33 (by kernel_rfl) rfl #[.slice Ao24 y495.length co24] rfl (by (try simp only [List.map_toArray, List.map_cons, List.map_nil]); first | done | rfl | (simp only [List.length_drop, List.length_take]; rfl)) ?_; (with_reducible refine (zilog_words.calls (fun k_ => some k_ = (.slice Ao24 y495.length co24 : Value).ownBlock) (.slice Ao24 y495.length co24) y495 t498 w _ ?side1 ?side2 A21.out (by first | exact hT | exact tabs_below hT (by repeat (first | (with_reducible first | exact HB.out | apply below_alloc | apply pw_below_drewN | apply below_drew1) | exact HB.out)) | (repeat (first | exact hT | apply tabs_alloc | apply tabs_drewN | apply tabs_drew)))).mono ?_); (case side1 => repeat (first | (with_reducible first | exact HB.out | apply below_alloc | apply pw_below_drewN | apply below_drew1) | exact HB.out)); (case side2 => exact Kd.R_tight rfl HO497.out); rintro e w25 ⟨v499, rfl, ho0, hb, hkp⟩; refine ⟨_, rfl, ?_⟩; have n0_ := Aside0.mk (Kd.R_mono (ok' := fun k_ => True) ho0 (fun k_ hk_ => trivial)); have n1_ := Aside0.mk (hb); clear HB; clear HO497; have HO500 := n0_; have HB := n1_; clear n0_ n1_; (try clear hb); (try clear hkp); (try clear ho0)))
          go_ret
          exact ⟨_, by first | rfl | (simp [errW_none, errW_some] <;> rfl) | (simp [*, errW_none, errW_some] <;> rfl), by (with_reducible repeat (first | apply Kd.R_alloc | apply Kd.R_drewN | apply Kd.R_drew)); exact HO500.out, by repeat (first | (with_reducible first | exact HB.out | apply below_alloc | apply pw_below_drewN | apply below_drew1) | exact HB.out)⟩
        · rw [if_neg c20] at H
          have c20b0 : (a0.toList == ([76, 68, 65] : List UInt8)) = false := beq_eq_false_iff_ne.mpr c20
          have c20b1 : (a0.toList != ([76, 68, 65] : List UInt8)) = true := bne_iff_ne.mpr c20
          by_cases c26 : a0.toList = ([83, 80, 72, 76] : List UInt8)
          · rw [if_pos c26] at H
            have c26b0 : (a0.toList == ([83, 80, 72, 76] : List UInt8)) = true := beq_iff_eq.mpr c26
            have c26b1 : (a0.toList != ([83, 80, 72, 76] : List UInt8)) = false := bne_eq_false_iff_eq.mpr c26
            clear c26
            obtain ⟨y501, hy501⟩ : ∃ y_ : List ByteArray, y_ = (([(⟨#[76, 68]⟩ : ByteArray), (⟨#[83, 80]⟩ : ByteArray), (⟨#[72, 76]⟩ : ByteArray)] : List ByteArray)) := ⟨_, rfl⟩
            replace H : ((zilog_words.f y501).bind fun t504 => (some t504)) = some r := by first | (rw [hy501]; with_reducible exact H) | (have H2_ := (Option.bind_some _ _).symm.trans H; rw [hy501]; with_reducible exact H2_) | (have H2_ := (Option.bind_some _ _).symm.trans H; with_reducible exact H2_) | with_reducible exact H | (rw [hy501]; exact H) | exact H
            have Ny501 := Aside0.mk hy501
            clear hy501
            replace H := Option.bind_eq_some_iff.mp H
            obtain ⟨t504, A270, H⟩ := H
            replace H : (some t504) = some r := H
            have A27 := Aside0.mk A270
            clear A270
            obtain rfl := Option.some.inj H
            go_enter Tryd.func38, Tryd.ntmps38
            go_wp2_with (first | ((with_reducible refine gate_dst (N := 22) rfl ?_); refine Kd.R_lit Kd.string _ 9 ?hg (N := 22) ?hd (xs := ([(⟨#[76, 68]⟩ : ByteArray), (⟨#[83, 80]⟩ : ByteArray), (⟨#[72, 76]⟩ : ByteArray)] : List ByteArray)) (inner := [.string (⟨#[76, 68]⟩ : ByteArray), .string (⟨#[83, 80]⟩ : ByteArray), .string (⟨#[72, 76]⟩ : ByteArray)]) (ok := fun _ => True) (okp := fun _ => True) ?hr ?hp (fun _ hk => hk) trivial (Below.refl _ _) (Nat.le_refl _) (by simp) ?_; (case hd => rfl); (case hg => rfl); (case hr => first | (go_simp; done) | (go_simp; rfl)); (case hp => exact (Reps.one (show Kd.M Kd.string _ _ _ (⟨#[76, 68]⟩ : ByteArray) [.string (⟨#[76, 68]⟩ : ByteArray)] from rfl) (Reps.one (show Kd.M Kd.string _ _ _ (⟨#[83, 80]⟩ : ByteArray) [.string (⟨#[83, 80]⟩ : ByteArray)] from rfl) (Reps.one (show Kd.M Kd.string _ _ _ (⟨#[72, 76]⟩ : ByteArray) [.string (⟨#[72, 76]⟩ : ByteArray)] from rfl) (Reps.none _ _))))); intro v502 w28 ho29 hb hg_ hnew_; clear hg_ hnew_; (first | rw [← Ny501.out] at ho29 | (simp only [Int.reduceToNat] at ho29; rw [← Ny501.out] at ho29)); have n0_ := Aside0.mk (Kd.R_lower ho29 (below_size (by repeat (first | (with_reducible first | exact HB.out | apply below_alloc | apply pw_below_drewN | apply below_drew1) | exact HB.out)))); have n1_ := Aside0.mk (below_step (by repeat (first | (with_reducible first | exact HB.out | apply below_alloc | apply pw_below_drewN | apply below_drew1) | exact HB.out)) hb); clear HB; have HO503 := n0_; have HB := n1_; clear n0_ n1_; clear hb ho29; obtain ⟨Ao30, co30, eo30⟩ := Kd.R_slice HO503.out; subst eo30) | ((with_reducible refine gate_callee (f := 33) rfl ?_); refine goesL_ (some 23) rfl rfl Tryd.func33 (by kernel_rfl) rfl #[.slice Ao30 y501.length co30] rfl (by (try simp only [List.map_toArray, List.map_cons, List.map_nil]); first | done | rfl | (simp only [List.length_drop, List.length_take]; rfl)) ?_; (with_reducible refine (zilog_words.calls (fun k_ => some k_ = (.slice Ao30 y501.length co30 : Value).ownBlock) (.slice Ao30 y501.length co30) y501 t504 w _ ?side1 ?side2 A27.out (by first | exact hT | exact tabs_below hT (by repeat (first | (with_reducible first | exact HB.out | apply below_alloc | apply pw_below_drewN | apply below_drew1) | exact HB.out)) | (repeat (first | exact hT | apply tabs_alloc | apply tabs_drewN | apply tabs_drew)))).mono ?_); (case side1 => repeat (first | (with_reducible first | exact HB.out | apply below_alloc | apply pw_below_drewN | apply below_drew1) | exact HB.out)); (case side2 => exact Kd.R_tight rfl HO503.out); rintro e w31 ⟨v505, rfl, ho0, hb, hkp⟩; refine ⟨_, rfl, ?_⟩; have n0_ := Aside0.mk (Kd.R_mono (ok' := fun k_ => True) ho0 (fun k_ hk_ => trivial)); have n1_ := Aside0.mk (hb); clear HB; clear HO503; have HO506 := n0_; have HB := n1_; clear n0_ n1_; (try clear hb); (try clear hkp); (try clear ho0)))
            go_ret
            exact ⟨_, by first | rfl | (simp [errW_none, errW_some] <;> rfl) | (simp [*, errW_none, errW_some] <;> rfl), by (with_reducible repeat (first | apply Kd.R_alloc | apply Kd.R_drewN | apply Kd.R_drew)); exact HO506.out, by repeat (first | (with_reducible first | exact HB.out | apply below_alloc | apply pw_below_drewN | apply below_drew1) | exact HB.out)⟩
          · rw [if_neg c26] at H
            have c26b0 : (a0.toList == ([83, 80, 72, 76] : List UInt8)) = false := beq_eq_false_iff_ne.mpr c26
            have c26b1 : (a0.toList != ([83, 80, 72, 76] : List UInt8)) = true := bne_iff_ne.mpr c26
            by_cases c32 : a0.toList = ([80, 67, 72, 76] : List UInt8)
            · rw [if_pos c32] at H
              have c32b0 : (a0.toList == ([80, 67, 72, 76] : List UInt8)) = true := beq_iff_eq.mpr c32
              have c32b1 : (a0.toList != ([80, 67, 72, 76] : List UInt8)) = false := bne_eq_false_iff_eq.mpr c32
              clear c32
              obtain ⟨y507, hy507⟩ : ∃ y_ : List ByteArray, y_ = (([(⟨#[74, 80]⟩ : ByteArray), (⟨#[40, 72, 76, 41]⟩ : ByteArray)] : List ByteArray)) := ⟨_, rfl⟩
              replace H : ((zilog_words.f y507).bind fun t510 => (some t510)) = some r := by first | (rw [hy507]; with_reducible exact H) | (have H2_ := (Option.bind_some _ _).symm.trans H; rw [hy507]; with_reducible exact H2_) | (have H2_ := (Option.bind_some _ _).symm.trans H; with_reducible exact H2_) | with_reducible exact H | (rw [hy507]; exact H) | exact H
              have Ny507 := Aside0.mk hy507
              clear hy507
              replace H := Option.bind_eq_some_iff.mp H
              obtain ⟨t510, A330, H⟩ := H
              replace H : (some t510) = some r := H
              have A33 := Aside0.mk A330
              clear A330
              obtain rfl := Option.some.inj H
              go_enter Tryd.func38, Tryd.ntmps38
              go_wp2_with (first | ((with_reducible refine gate_dst (N := 26) rfl ?_); refine Kd.R_lit Kd.string _ 9 ?hg (N := 26) ?hd (xs := ([(⟨#[74, 80]⟩ : ByteArray), (⟨#[40, 72, 76, 41]⟩ : ByteArray)] : List ByteArray)) (inner := [.string (⟨#[74, 80]⟩ : ByteArray), .string (⟨#[40, 72, 76, 41]⟩ : ByteArray)]) (ok := fun _ => True) (okp := fun _ => True) ?hr ?hp (fun _ hk => hk) trivial (Below.refl _ _) (Nat.le_refl _) (by simp) ?_; (case hd => rfl); (case hg => rfl); (case hr => first | (go_simp; done) | (go_simp; rfl)); (case hp => exact (Reps.one (show Kd.M Kd.string _ _ _ (⟨#[74, 80]⟩ : ByteArray) [.string (⟨#[74, 80]⟩ : ByteArray)] from rfl) (Reps.one (show Kd.M Kd.string _ _ _ (⟨#[40, 72, 76, 41]⟩ : ByteArray) [.string (⟨#[40, 72, 76, 41]⟩ : ByteArray)] from rfl) (Reps.none _ _)))); intro v508 w34 ho35 hb hg_ hnew_; clear hg_ hnew_; (first | rw [← Ny507.out] at ho35 | (simp only [Int.reduceToNat] at ho35; rw [← Ny507.out] at ho35)); have n0_ := Aside0.mk (Kd.R_lower ho35 (below_size (by repeat (first | (with_reducible first | exact HB.out | apply below_alloc | apply pw_below_drewN | apply below_drew1) | exact HB.out)))); have n1_ := Aside0.mk (below_step (by repeat (first | (with_reducible first | exact HB.out | apply below_alloc | apply pw_below_drewN | apply below_drew1) | exact HB.out)) hb); clear HB; have HO509 := n0_; have HB := n1_; clear n0_ n1_; clear hb ho35; obtain ⟨Ao36, co36, eo36⟩ := Kd.R_slice HO509.out; subst eo36) | ((with_reducible refine gate_callee (f := 33) rfl ?_); refine goesL_ (some 27) rfl rfl Tryd.func33 (by kernel_rfl) rfl #[.slice Ao36 y507.length co36] rfl (by (try simp only [List.map_toArray, List.map_cons, List.map_nil]); first | done | rfl | (simp only [List.length_drop, List.length_take]; rfl)) ?_; (with_reducible refine (zilog_words.calls (fun k_ => some k_ = (.slice Ao36 y507.length co36 : Value).ownBlock) (.slice Ao36 y507.length co36) y507 t510 w _ ?side1 ?side2 A33.out (by first | exact hT | exact tabs_below hT (by repeat (first | (with_reducible first | exact HB.out | apply below_alloc | apply pw_below_drewN | apply below_drew1) | exact HB.out)) | (repeat (first | exact hT | apply tabs_alloc | apply tabs_drewN | apply tabs_drew)))).mono ?_); (case side1 => repeat (first | (with_reducible first | exact HB.out | apply below_alloc | apply pw_below_drewN | apply below_drew1) | exact HB.out)); (case side2 => exact Kd.R_tight rfl HO509.out); rintro e w37 ⟨v511, rfl, ho0, hb, hkp⟩; refine ⟨_, rfl, ?_⟩; have n0_ := Aside0.mk (Kd.R_mono (ok' := fun k_ => True) ho0 (fun k_ hk_ => trivial)); have n1_ := Aside0.mk (hb); clear HB; clear HO509; have HO512 := n0_; have HB := n1_; clear n0_ n1_; (try clear hb); (try clear hkp); (try clear ho0)))
              go_ret
              exact ⟨_, by first | rfl | (simp [errW_none, errW_some] <;> rfl) | (simp [*, errW_none, errW_some] <;> rfl), by (with_reducible repeat (first | apply Kd.R_alloc | apply Kd.R_drewN | apply Kd.R_drew)); exact HO512.out, by repeat (first | (with_reducible first | exact HB.out | apply below_alloc | apply pw_below_drewN | apply below_drew1) | exact HB.out)⟩
            · rw [if_neg c32] at H
              have c32b0 : (a0.toList == ([80, 67, 72, 76] : List UInt8)) = false := beq_eq_false_iff_ne.mpr c32
              have c32b1 : (a0.toList != ([80, 67, 72, 76] : List UInt8)) = true := bne_iff_ne.mpr c32
              by_cases c38 : a0.toList = ([88, 84, 72, 76] : List UInt8)
              · rw [if_pos c38] at H
                have c38b0 : (a0.toList == ([88, 84, 72, 76] : List UInt8)) = true := beq_iff_eq.mpr c38
                have c38b1 : (a0.toList != ([88, 84, 72, 76] : List UInt8)) = false := bne_eq_false_iff_eq.mpr c38
                clear c38
                obtain ⟨y513, hy513⟩ : ∃ y_ : List ByteArray, y_ = (([(⟨#[69, 88]⟩ : ByteArray), (⟨#[40, 83, 80, 41]⟩ : ByteArray), (⟨#[72, 76]⟩ : ByteArray)] : List ByteArray)) := ⟨_, rfl⟩
                replace H : ((zilog_words.f y513).bind fun t516 => (some t516)) = some r := by first | (rw [hy513]; with_reducible exact H) | (have H2_ := (Option.bind_some _ _).symm.trans H; rw [hy513]; with_reducible exact H2_) | (have H2_ := (Option.bind_some _ _).symm.trans H; with_reducible exact H2_) | with_reducible exact H | (rw [hy513]; exact H) | exact H
                have Ny513 := Aside0.mk hy513
                clear hy513
                replace H := Option.bind_eq_some_iff.mp H
                obtain ⟨t516, A390, H⟩ := H
                replace H : (some t516) = some r := H
                have A39 := Aside0.mk A390
                clear A390
                obtain rfl := Option.some.inj H
                go_enter Tryd.func38, Tryd.ntmps38
                go_wp2_with (first | ((with_reducible refine gate_dst (N := 30) rfl ?_); refine Kd.R_lit Kd.string _ 9 ?hg (N := 30) ?hd (xs := ([(⟨#[69, 88]⟩ : ByteArray), (⟨#[40, 83, 80, 41]⟩ : ByteArray), (⟨#[72, 76]⟩ : ByteArray)] : List ByteArray)) (inner := [.string (⟨#[69, 88]⟩ : ByteArray), .string (⟨#[40, 83, 80, 41]⟩ : ByteArray), .string (⟨#[72, 76]⟩ : ByteArray)]) (ok := fun _ => True) (okp := fun _ => True) ?hr ?hp (fun _ hk => hk) trivial (Below.refl _ _) (Nat.le_refl _) (by simp) ?_; (case hd => rfl); (case hg => rfl); (case hr => first | (go_simp; done) | (go_simp; rfl)); (case hp => exact (Reps.one (show Kd.M Kd.string _ _ _ (⟨#[69, 88]⟩ : ByteArray) [.string (⟨#[69, 88]⟩ : ByteArray)] from rfl) (Reps.one (show Kd.M Kd.string _ _ _ (⟨#[40, 83, 80, 41]⟩ : ByteArray) [.string (⟨#[40, 83, 80, 41]⟩ : ByteArray)] from rfl) (Reps.one (show Kd.M Kd.string _ _ _ (⟨#[72, 76]⟩ : ByteArray) [.string (⟨#[72, 76]⟩ : ByteArray)] from rfl) (Reps.none _ _))))); intro v514 w40 ho41 hb hg_ hnew_; clear hg_ hnew_; (first | rw [← Ny513.out] at ho41 | (simp only [Int.reduceToNat] at ho41; rw [← Ny513.out] at ho41)); have n0_ := Aside0.mk (Kd.R_lower ho41 (below_size (by repeat (first | (with_reducible first | exact HB.out | apply below_alloc | apply pw_below_drewN | apply below_drew1) | exact HB.out)))); have n1_ := Aside0.mk (below_step (by repeat (first | (with_reducible first | exact HB.out | apply below_alloc | apply pw_below_drewN | apply below_drew1) | exact HB.out)) hb); clear HB; have HO515 := n0_; have HB := n1_; clear n0_ n1_; clear hb ho41; obtain ⟨Ao42, co42, eo42⟩ := Kd.R_slice HO515.out; subst eo42) | ((with_reducible refine gate_callee (f := 33) rfl ?_); refine goesL_ (some 31) rfl rfl Tryd.func33 (by kernel_rfl) rfl #[.slice Ao42 y513.length co42] rfl (by (try simp only [List.map_toArray, List.map_cons, List.map_nil]); first | done | rfl | (simp only [List.length_drop, List.length_take]; rfl)) ?_; (with_reducible refine (zilog_words.calls (fun k_ => some k_ = (.slice Ao42 y513.length co42 : Value).ownBlock) (.slice Ao42 y513.length co42) y513 t516 w _ ?side1 ?side2 A39.out (by first | exact hT | exact tabs_below hT (by repeat (first | (with_reducible first | exact HB.out | apply below_alloc | apply pw_below_drewN | apply below_drew1) | exact HB.out)) | (repeat (first | exact hT | apply tabs_alloc | apply tabs_drewN | apply tabs_drew)))).mono ?_); (case side1 => repeat (first | (with_reducible first | exact HB.out | apply below_alloc | apply pw_below_drewN | apply below_drew1) | exact HB.out)); (case side2 => exact Kd.R_tight rfl HO515.out); rintro e w43 ⟨v517, rfl, ho0, hb, hkp⟩; refine ⟨_, rfl, ?_⟩; have n0_ := Aside0.mk (Kd.R_mono (ok' := fun k_ => True) ho0 (fun k_ hk_ => trivial)); have n1_ := Aside0.mk (hb); clear HB; clear HO515; have HO518 := n0_; have HB := n1_; clear n0_ n1_; (try clear hb); (try clear hkp); (try clear ho0)))
                go_ret
                exact ⟨_, by first | rfl | (simp [errW_none, errW_some] <;> rfl) | (simp [*, errW_none, errW_some] <;> rfl), by (with_reducible repeat (first | apply Kd.R_alloc | apply Kd.R_drewN | apply Kd.R_drew)); exact HO518.out, by repeat (first | (with_reducible first | exact HB.out | apply below_alloc | apply pw_below_drewN | apply below_drew1) | exact HB.out)⟩
              · rw [if_neg c38] at H
                have c38b0 : (a0.toList == ([88, 84, 72, 76] : List UInt8)) = false := beq_eq_false_iff_ne.mpr c38
                have c38b1 : (a0.toList != ([88, 84, 72, 76] : List UInt8)) = true := bne_iff_ne.mpr c38
                by_cases c44 : a0.toList = ([88, 67, 72, 71] : List UInt8)
                · rw [if_pos c44] at H
                  have c44b0 : (a0.toList == ([88, 67, 72, 71] : List UInt8)) = true := beq_iff_eq.mpr c44
                  have c44b1 : (a0.toList != ([88, 67, 72, 71] : List UInt8)) = false := bne_eq_false_iff_eq.mpr c44
                  clear c44
                  obtain ⟨y519, hy519⟩ : ∃ y_ : List ByteArray, y_ = (([(⟨#[69, 88]⟩ : ByteArray), (⟨#[68, 69]⟩ : ByteArray), (⟨#[72, 76]⟩ : ByteArray)] : List ByteArray)) := ⟨_, rfl⟩
                  replace H : ((zilog_words.f y519).bind fun t522 => (some t522)) = some r := by first | (rw [hy519]; with_reducible exact H) | (have H2_ := (Option.bind_some _ _).symm.trans H; rw [hy519]; with_reducible exact H2_) | (have H2_ := (Option.bind_some _ _).symm.trans H; with_reducible exact H2_) | with_reducible exact H | (rw [hy519]; exact H) | exact H
                  have Ny519 := Aside0.mk hy519
                  clear hy519
                  replace H := Option.bind_eq_some_iff.mp H
                  obtain ⟨t522, A450, H⟩ := H
                  replace H : (some t522) = some r := H
                  have A45 := Aside0.mk A450
                  clear A450
                  obtain rfl := Option.some.inj H
                  go_enter Tryd.func38, Tryd.ntmps38
                  go_wp2_with (first | ((with_reducible refine gate_dst (N := 34) rfl ?_); refine Kd.R_lit Kd.string _ 9 ?hg (N := 34) ?hd (xs := ([(⟨#[69, 88]⟩ : ByteArray), (⟨#[68, 69]⟩ : ByteArray), (⟨#[72, 76]⟩ : ByteArray)] : List ByteArray)) (inner := [.string (⟨#[69, 88]⟩ : ByteArray), .string (⟨#[68, 69]⟩ : ByteArray), .string (⟨#[72, 76]⟩ : ByteArray)]) (ok := fun _ => True) (okp := fun _ => True) ?hr ?hp (fun _ hk => hk) trivial (Below.refl _ _) (Nat.le_refl _) (by simp) ?_; (case hd => rfl); (case hg => rfl); (case hr => first | (go_simp; done) | (go_simp; rfl)); (case hp => exact (Reps.one (show Kd.M Kd.string _ _ _ (⟨#[69, 88]⟩ : ByteArray) [.string (⟨#[69, 88]⟩ : ByteArray)] from rfl) (Reps.one (show Kd.M Kd.string _ _ _ (⟨#[68, 69]⟩ : ByteArray) [.string (⟨#[68, 69]⟩ : ByteArray)] from rfl) (Reps.one (show Kd.M Kd.string _ _ _ (⟨#[72, 76]⟩ : ByteArray) [.string (⟨#[72, 76]⟩ : ByteArray)] from rfl) (Reps.none _ _))))); intro v520 w46 ho47 hb hg_ hnew_; clear hg_ hnew_; (first | rw [← Ny519.out] at ho47 | (simp only [Int.reduceToNat] at ho47; rw [← Ny519.out] at ho47)); have n0_ := Aside0.mk (Kd.R_lower ho47 (below_size (by repeat (first | (with_reducible first | exact HB.out | apply below_alloc | apply pw_below_drewN | apply below_drew1) | exact HB.out)))); have n1_ := Aside0.mk (below_step (by repeat (first | (with_reducible first | exact HB.out | apply below_alloc | apply pw_below_drewN | apply below_drew1) | exact HB.out)) hb); clear HB; have HO521 := n0_; have HB := n1_; clear n0_ n1_; clear hb ho47; obtain ⟨Ao48, co48, eo48⟩ := Kd.R_slice HO521.out; subst eo48) | ((with_reducible refine gate_callee (f := 33) rfl ?_); refine goesL_ (some 35) rfl rfl Tryd.func33 (by kernel_rfl) rfl #[.slice Ao48 y519.length co48] rfl (by (try simp only [List.map_toArray, List.map_cons, List.map_nil]); first | done | rfl | (simp only [List.length_drop, List.length_take]; rfl)) ?_; (with_reducible refine (zilog_words.calls (fun k_ => some k_ = (.slice Ao48 y519.length co48 : Value).ownBlock) (.slice Ao48 y519.length co48) y519 t522 w _ ?side1 ?side2 A45.out (by first | exact hT | exact tabs_below hT (by repeat (first | (with_reducible first | exact HB.out | apply below_alloc | apply pw_below_drewN | apply below_drew1) | exact HB.out)) | (repeat (first | exact hT | apply tabs_alloc | apply tabs_drewN | apply tabs_drew)))).mono ?_); (case side1 => repeat (first | (with_reducible first | exact HB.out | apply below_alloc | apply pw_below_drewN | apply below_drew1) | exact HB.out)); (case side2 => exact Kd.R_tight rfl HO521.out); rintro e w49 ⟨v523, rfl, ho0, hb, hkp⟩; refine ⟨_, rfl, ?_⟩; have n0_ := Aside0.mk (Kd.R_mono (ok' := fun k_ => True) ho0 (fun k_ hk_ => trivial)); have n1_ := Aside0.mk (hb); clear HB; clear HO521; have HO524 := n0_; have HB := n1_; clear n0_ n1_; (try clear hb); (try clear hkp); (try clear ho0)))
                  go_ret
                  exact ⟨_, by first | rfl | (simp [errW_none, errW_some] <;> rfl) | (simp [*, errW_none, errW_some] <;> rfl), by (with_reducible repeat (first | apply Kd.R_alloc | apply Kd.R_drewN | apply Kd.R_drew)); exact HO524.out, by repeat (first | (with_reducible first | exact HB.out | apply below_alloc | apply pw_below_drewN | apply below_drew1) | exact HB.out)⟩
                · rw [if_neg c44] at H
                  have c44b0 : (a0.toList == ([88, 67, 72, 71] : List UInt8)) = false := beq_eq_false_iff_ne.mpr c44
                  have c44b1 : (a0.toList != ([88, 67, 72, 71] : List UInt8)) = true := bne_iff_ne.mpr c44
                  by_cases c50 : a0.toList = ([79, 85, 84] : List UInt8)
                  · rw [if_pos c50] at H
                    have c50b0 : (a0.toList == ([79, 85, 84] : List UInt8)) = true := beq_iff_eq.mpr c50
                    have c50b1 : (a0.toList != ([79, 85, 84] : List UInt8)) = false := bne_eq_false_iff_eq.mpr c50
                    clear c50
                    obtain ⟨y525, hy525⟩ : ∃ y_ : List ByteArray, y_ = (([(⟨#[79, 85, 84]⟩ : ByteArray), (⟨#[40, 110, 41]⟩ : ByteArray), (⟨#[65]⟩ : ByteArray)] : List ByteArray)) := ⟨_, rfl⟩
                    replace H : ((zilog_words.f y525).bind fun t528 => (some t528)) = some r := by first | (rw [hy525]; with_reducible exact H) | (have H2_ := (Option.bind_some _ _).symm.trans H; rw [hy525]; with_reducible exact H2_) | (have H2_ := (Option.bind_some _ _).symm.trans H; with_reducible exact H2_) | with_reducible exact H | (rw [hy525]; exact H) | exact H
                    have Ny525 := Aside0.mk hy525
                    clear hy525
                    replace H := Option.bind_eq_some_iff.mp H
                    obtain ⟨t528, A510, H⟩ := H
                    replace H : (some t528) = some r := H
                    have A51 := Aside0.mk A510
                    clear A510
                    obtain rfl := Option.some.inj H
                    go_enter Tryd.func38, Tryd.ntmps38
                    go_wp2_with (first | ((with_reducible refine gate_dst (N := 38) rfl ?_); refine Kd.R_lit Kd.string _ 9 ?hg (N := 38) ?hd (xs := ([(⟨#[79, 85, 84]⟩ : ByteArray), (⟨#[40, 110, 41]⟩ : ByteArray), (⟨#[65]⟩ : ByteArray)] : List ByteArray)) (inner := [.string (⟨#[79, 85, 84]⟩ : ByteArray), .string (⟨#[40, 110, 41]⟩ : ByteArray), .string (⟨#[65]⟩ : ByteArray)]) (ok := fun _ => True) (okp := fun _ => True) ?hr ?hp (fun _ hk => hk) trivial (Below.refl _ _) (Nat.le_refl _) (by simp) ?_; (case hd => rfl); (case hg => rfl); (case hr => first | (go_simp; done) | (go_simp; rfl)); (case hp => exact (Reps.one (show Kd.M Kd.string _ _ _ (⟨#[79, 85, 84]⟩ : ByteArray) [.string (⟨#[79, 85, 84]⟩ : ByteArray)] from rfl) (Reps.one (show Kd.M Kd.string _ _ _ (⟨#[40, 110, 41]⟩ : ByteArray) [.string (⟨#[40, 110, 41]⟩ : ByteArray)] from rfl) (Reps.one (show Kd.M Kd.string _ _ _ (⟨#[65]⟩ : ByteArray) [.string (⟨#[65]⟩ : ByteArray)] from rfl) (Reps.none _ _))))); intro v526 w52 ho53 hb hg_ hnew_; clear hg_ hnew_; (first | rw [← Ny525.out] at ho53 | (simp only [Int.reduceToNat] at ho53; rw [← Ny525.out] at ho53)); have n0_ := Aside0.mk (Kd.R_lower ho53 (below_size (by repeat (first | (with_reducible first | exact HB.out | apply below_alloc | apply pw_below_drewN | apply below_drew1) | exact HB.out)))); have n1_ := Aside0.mk (below_step (by repeat (first | (with_reducible first | exact HB.out | apply below_alloc | apply pw_below_drewN | apply below_drew1) | exact HB.out)) hb); clear HB; have HO527 := n0_; have HB := n1_; clear n0_ n1_; clear hb ho53; obtain ⟨Ao54, co54, eo54⟩ := Kd.R_slice HO527.out; subst eo54) | ((with_reducible refine gate_callee (f := 33) rfl ?_); refine goesL_ (some 39) rfl rfl Tryd.func33 (by kernel_rfl) rfl #[.slice Ao54 y525.length co54] rfl (by (try simp only [List.map_toArray, List.map_cons, List.map_nil]); first | done | rfl | (simp only [List.length_drop, List.length_take]; rfl)) ?_; (with_reducible refine (zilog_words.calls (fun k_ => some k_ = (.slice Ao54 y525.length co54 : Value).ownBlock) (.slice Ao54 y525.length co54) y525 t528 w _ ?side1 ?side2 A51.out (by first | exact hT | exact tabs_below hT (by repeat (first | (with_reducible first | exact HB.out | apply below_alloc | apply pw_below_drewN | apply below_drew1) | exact HB.out)) | (repeat (first | exact hT | apply tabs_alloc | apply tabs_drewN | apply tabs_drew)))).mono ?_); (case side1 => repeat (first | (with_reducible first | exact HB.out | apply below_alloc | apply pw_below_drewN | apply below_drew1) | exact HB.out)); (case side2 => exact Kd.R_tight rfl HO527.out); rintro e w55 ⟨v529, rfl, ho0, hb, hkp⟩; refine ⟨_, rfl, ?_⟩; have n0_ := Aside0.mk (Kd.R_mono (ok' := fun k_ => True) ho0 (fun k_ hk_ => trivial)); have n1_ := Aside0.mk (hb); clear HB; clear HO527; have HO530 := n0_; have HB := n1_; clear n0_ n1_; (try clear hb); (try clear hkp); (try clear ho0)))
                    go_ret
                    exact ⟨_, by first | rfl | (simp [errW_none, errW_some] <;> rfl) | (simp [*, errW_none, errW_some] <;> rfl), by (with_reducible repeat (first | apply Kd.R_alloc | apply Kd.R_drewN | apply Kd.R_drew)); exact HO530.out, by repeat (first | (with_reducible first | exact HB.out | apply below_alloc | apply pw_below_drewN | apply below_drew1) | exact HB.out)⟩
                  · rw [if_neg c50] at H
                    have c50b0 : (a0.toList == ([79, 85, 84] : List UInt8)) = false := beq_eq_false_iff_ne.mpr c50
                    have c50b1 : (a0.toList != ([79, 85, 84] : List UInt8)) = true := bne_iff_ne.mpr c50
                    by_cases c56 : a0.toList = ([73, 78] : List UInt8)
                    · rw [if_pos c56] at H
                      have c56b0 : (a0.toList == ([73, 78] : List UInt8)) = true := beq_iff_eq.mpr c56
                      have c56b1 : (a0.toList != ([73, 78] : List UInt8)) = false := bne_eq_false_iff_eq.mpr c56
                      clear c56
                      obtain ⟨y531, hy531⟩ : ∃ y_ : List ByteArray, y_ = (([(⟨#[73, 78]⟩ : ByteArray), (⟨#[65]⟩ : ByteArray), (⟨#[40, 110, 41]⟩ : ByteArray)] : List ByteArray)) := ⟨_, rfl⟩
                      replace H : ((zilog_words.f y531).bind fun t534 => (some t534)) = some r := by first | (rw [hy531]; with_reducible exact H) | (have H2_ := (Option.bind_some _ _).symm.trans H; rw [hy531]; with_reducible exact H2_) | (have H2_ := (Option.bind_some _ _).symm.trans H; with_reducible exact H2_) | with_reducible exact H | (rw [hy531]; exact H) | exact H
                      have Ny531 := Aside0.mk hy531
                      clear hy531
                      replace H := Option.bind_eq_some_iff.mp H
                      obtain ⟨t534, A570, H⟩ := H
                      replace H : (some t534) = some r := H
                      have A57 := Aside0.mk A570
                      clear A570
                      obtain rfl := Option.some.inj H
                      go_enter Tryd.func38, Tryd.ntmps38
                      go_wp2_with (first | ((with_reducible refine gate_dst (N := 42) rfl ?_); refine Kd.R_lit Kd.string _ 9 ?hg (N := 42) ?hd (xs := ([(⟨#[73, 78]⟩ : ByteArray), (⟨#[65]⟩ : ByteArray), (⟨#[40, 110, 41]⟩ : ByteArray)] : List ByteArray)) (inner := [.string (⟨#[73, 78]⟩ : ByteArray), .string (⟨#[65]⟩ : ByteArray), .string (⟨#[40, 110, 41]⟩ : ByteArray)]) (ok := fun _ => True) (okp := fun _ => True) ?hr ?hp (fun _ hk => hk) trivial (Below.refl _ _) (Nat.le_refl _) (by simp) ?_; (case hd => rfl); (case hg => rfl); (case hr => first | (go_simp; done) | (go_simp; rfl)); (case hp => exact (Reps.one (show Kd.M Kd.string _ _ _ (⟨#[73, 78]⟩ : ByteArray) [.string (⟨#[73, 78]⟩ : ByteArray)] from rfl) (Reps.one (show Kd.M Kd.string _ _ _ (⟨#[65]⟩ : ByteArray) [.string (⟨#[65]⟩ : ByteArray)] from rfl) (Reps.one (show Kd.M Kd.string _ _ _ (⟨#[40, 110, 41]⟩ : ByteArray) [.string (⟨#[40, 110, 41]⟩ : ByteArray)] from rfl) (Reps.none _ _))))); intro v532 w58 ho59 hb hg_ hnew_; clear hg_ hnew_; (first | rw [← Ny531.out] at ho59 | (simp only [Int.reduceToNat] at ho59; rw [← Ny531.out] at ho59)); have n0_ := Aside0.mk (Kd.R_lower ho59 (below_size (by repeat (first | (with_reducible first | exact HB.out | apply below_alloc | apply pw_below_drewN | apply below_drew1) | exact HB.out)))); have n1_ := Aside0.mk (below_step (by repeat (first | (with_reducible first | exact HB.out | apply below_alloc | apply pw_below_drewN | apply below_drew1) | exact HB.out)) hb); clear HB; have HO533 := n0_; have HB := n1_; clear n0_ n1_; clear hb ho59; obtain ⟨Ao60, co60, eo60⟩ := Kd.R_slice HO533.out; subst eo60) | ((with_reducible refine gate_callee (f := 33) rfl ?_); refine goesL_ (some 43) rfl rfl Tryd.func33 (by kernel_rfl) rfl #[.slice Ao60 y531.length co60] rfl (by (try simp only [List.map_toArray, List.map_cons, List.map_nil]); first | done | rfl | (simp only [List.length_drop, List.length_take]; rfl)) ?_; (with_reducible refine (zilog_words.calls (fun k_ => some k_ = (.slice Ao60 y531.length co60 : Value).ownBlock) (.slice Ao60 y531.length co60) y531 t534 w _ ?side1 ?side2 A57.out (by first | exact hT | exact tabs_below hT (by repeat (first | (with_reducible first | exact HB.out | apply below_alloc | apply pw_below_drewN | apply below_drew1) | exact HB.out)) | (repeat (first | exact hT | apply tabs_alloc | apply tabs_drewN | apply tabs_drew)))).mono ?_); (case side1 => repeat (first | (with_reducible first | exact HB.out | apply below_alloc | apply pw_below_drewN | apply below_drew1) | exact HB.out)); (case side2 => exact Kd.R_tight rfl HO533.out); rintro e w61 ⟨v535, rfl, ho0, hb, hkp⟩; refine ⟨_, rfl, ?_⟩; have n0_ := Aside0.mk (Kd.R_mono (ok' := fun k_ => True) ho0 (fun k_ hk_ => trivial)); have n1_ := Aside0.mk (hb); clear HB; clear HO533; have HO536 := n0_; have HB := n1_; clear n0_ n1_; (try clear hb); (try clear hkp); (try clear ho0)))
                      go_ret
                      exact ⟨_, by first | rfl | (simp [errW_none, errW_some] <;> rfl) | (simp [*, errW_none, errW_some] <;> rfl), by (with_reducible repeat (first | apply Kd.R_alloc | apply Kd.R_drewN | apply Kd.R_drew)); exact HO536.out, by repeat (first | (with_reducible first | exact HB.out | apply below_alloc | apply pw_below_drewN | apply below_drew1) | exact HB.out)⟩
                    · rw [if_neg c56] at H
                      have c56b0 : (a0.toList == ([73, 78] : List UInt8)) = false := beq_eq_false_iff_ne.mpr c56
                      have c56b1 : (a0.toList != ([73, 78] : List UInt8)) = true := bne_iff_ne.mpr c56
                      by_cases c62 : a0.toList = ([74, 77, 80] : List UInt8)
                      · rw [if_pos c62] at H
                        have c62b0 : (a0.toList == ([74, 77, 80] : List UInt8)) = true := beq_iff_eq.mpr c62
                        have c62b1 : (a0.toList != ([74, 77, 80] : List UInt8)) = false := bne_eq_false_iff_eq.mpr c62
                        clear c62
                        obtain ⟨y537, hy537⟩ : ∃ y_ : List ByteArray, y_ = (([(⟨#[74, 80]⟩ : ByteArray), (⟨#[110, 110]⟩ : ByteArray)] : List ByteArray)) := ⟨_, rfl⟩
                        replace H : ((zilog_words.f y537).bind fun t540 => (some t540)) = some r := by first | (rw [hy537]; with_reducible exact H) | (have H2_ := (Option.bind_some _ _).symm.trans H; rw [hy537]; with_reducible exact H2_) | (have H2_ := (Option.bind_some _ _).symm.trans H; with_reducible exact H2_) | with_reducible exact H | (rw [hy537]; exact H) | exact H
                        have Ny537 := Aside0.mk hy537
                        clear hy537
                        replace H := Option.bind_eq_some_iff.mp H
                        obtain ⟨t540, A630, H⟩ := H
                        replace H : (some t540) = some r := H
                        have A63 := Aside0.mk A630
                        clear A630
                        obtain rfl := Option.some.inj H
                        go_enter Tryd.func38, Tryd.ntmps38
                        go_wp2_with (first | ((with_reducible refine gate_dst (N := 46) rfl ?_); refine Kd.R_lit Kd.string _ 9 ?hg (N := 46) ?hd (xs := ([(⟨#[74, 80]⟩ : ByteArray), (⟨#[110, 110]⟩ : ByteArray)] : List ByteArray)) (inner := [.string (⟨#[74, 80]⟩ : ByteArray), .string (⟨#[110, 110]⟩ : ByteArray)]) (ok := fun _ => True) (okp := fun _ => True) ?hr ?hp (fun _ hk => hk) trivial (Below.refl _ _) (Nat.le_refl _) (by simp) ?_; (case hd => rfl); (case hg => rfl); (case hr => first | (go_simp; done) | (go_simp; rfl)); (case hp => exact (Reps.one (show Kd.M Kd.string _ _ _ (⟨#[74, 80]⟩ : ByteArray) [.string (⟨#[74, 80]⟩ : ByteArray)] from rfl) (Reps.one (show Kd.M Kd.string _ _ _ (⟨#[110, 110]⟩ : ByteArray) [.string (⟨#[110, 110]⟩ : ByteArray)] from rfl) (Reps.none _ _)))); intro v538 w64 ho65 hb hg_ hnew_; clear hg_ hnew_; (first | rw [← Ny537.out] at ho65 | (simp only [Int.reduceToNat] at ho65; rw [← Ny537.out] at ho65)); have n0_ := Aside0.mk (Kd.R_lower ho65 (below_size (by repeat (first | (with_reducible first | exact HB.out | apply below_alloc | apply pw_below_drewN | apply below_drew1) | exact HB.out)))); have n1_ := Aside0.mk (below_step (by repeat (first | (with_reducible first | exact HB.out | apply below_alloc | apply pw_below_drewN | apply below_drew1) | exact HB.out)) hb); clear HB; have HO539 := n0_; have HB := n1_; clear n0_ n1_; clear hb ho65; obtain ⟨Ao66, co66, eo66⟩ := Kd.R_slice HO539.out; subst eo66) | ((with_reducible refine gate_callee (f := 33) rfl ?_); refine goesL_ (some 47) rfl rfl Tryd.func33 (by kernel_rfl) rfl #[.slice Ao66 y537.length co66] rfl (by (try simp only [List.map_toArray, List.map_cons, List.map_nil]); first | done | rfl | (simp only [List.length_drop, List.length_take]; rfl)) ?_; (with_reducible refine (zilog_words.calls (fun k_ => some k_ = (.slice Ao66 y537.length co66 : Value).ownBlock) (.slice Ao66 y537.length co66) y537 t540 w _ ?side1 ?side2 A63.out (by first | exact hT | exact tabs_below hT (by repeat (first | (with_reducible first | exact HB.out | apply below_alloc | apply pw_below_drewN | apply below_drew1) | exact HB.out)) | (repeat (first | exact hT | apply tabs_alloc | apply tabs_drewN | apply tabs_drew)))).mono ?_); (case side1 => repeat (first | (with_reducible first | exact HB.out | apply below_alloc | apply pw_below_drewN | apply below_drew1) | exact HB.out)); (case side2 => exact Kd.R_tight rfl HO539.out); rintro e w67 ⟨v541, rfl, ho0, hb, hkp⟩; refine ⟨_, rfl, ?_⟩; have n0_ := Aside0.mk (Kd.R_mono (ok' := fun k_ => True) ho0 (fun k_ hk_ => trivial)); have n1_ := Aside0.mk (hb); clear HB; clear HO539; have HO542 := n0_; have HB := n1_; clear n0_ n1_; (try clear hb); (try clear hkp); (try clear ho0)))
                        go_ret
                        exact ⟨_, by first | rfl | (simp [errW_none, errW_some] <;> rfl) | (simp [*, errW_none, errW_some] <;> rfl), by (with_reducible repeat (first | apply Kd.R_alloc | apply Kd.R_drewN | apply Kd.R_drew)); exact HO542.out, by repeat (first | (with_reducible first | exact HB.out | apply below_alloc | apply pw_below_drewN | apply below_drew1) | exact HB.out)⟩
                      · rw [if_neg c62] at H
                        have c62b0 : (a0.toList == ([74, 77, 80] : List UInt8)) = false := beq_eq_false_iff_ne.mpr c62
                        have c62b1 : (a0.toList != ([74, 77, 80] : List UInt8)) = true := bne_iff_ne.mpr c62
                        by_cases c68 : a0.toList = ([67, 65, 76, 76] : List UInt8)
                        · rw [if_pos c68] at H
                          have c68b0 : (a0.toList == ([67, 65, 76, 76] : List UInt8)) = true := beq_iff_eq.mpr c68
                          have c68b1 : (a0.toList != ([67, 65, 76, 76] : List UInt8)) = false := bne_eq_false_iff_eq.mpr c68
                          clear c68
                          obtain ⟨y543, hy543⟩ : ∃ y_ : List ByteArray, y_ = (([(⟨#[67, 65, 76, 76]⟩ : ByteArray), (⟨#[110, 110]⟩ : ByteArray)] : List ByteArray)) := ⟨_, rfl⟩
                          replace H : ((zilog_words.f y543).bind fun t546 => (some t546)) = some r := by first | (rw [hy543]; with_reducible exact H) | (have H2_ := (Option.bind_some _ _).symm.trans H; rw [hy543]; with_reducible exact H2_) | (have H2_ := (Option.bind_some _ _).symm.trans H; with_reducible exact H2_) | with_reducible exact H | (rw [hy543]; exact H) | exact H
                          have Ny543 := Aside0.mk hy543
                          clear hy543
                          replace H := Option.bind_eq_some_iff.mp H
                          obtain ⟨t546, A690, H⟩ := H
                          replace H : (some t546) = some r := H
                          have A69 := Aside0.mk A690
                          clear A690
                          obtain rfl := Option.some.inj H
                          go_enter Tryd.func38, Tryd.ntmps38
                          go_wp2_with (first | ((with_reducible refine gate_dst (N := 50) rfl ?_); refine Kd.R_lit Kd.string _ 9 ?hg (N := 50) ?hd (xs := ([(⟨#[67, 65, 76, 76]⟩ : ByteArray), (⟨#[110, 110]⟩ : ByteArray)] : List ByteArray)) (inner := [.string (⟨#[67, 65, 76, 76]⟩ : ByteArray), .string (⟨#[110, 110]⟩ : ByteArray)]) (ok := fun _ => True) (okp := fun _ => True) ?hr ?hp (fun _ hk => hk) trivial (Below.refl _ _) (Nat.le_refl _) (by simp) ?_; (case hd => rfl); (case hg => rfl); (case hr => first | (go_simp; done) | (go_simp; rfl)); (case hp => exact (Reps.one (show Kd.M Kd.string _ _ _ (⟨#[67, 65, 76, 76]⟩ : ByteArray) [.string (⟨#[67, 65, 76, 76]⟩ : ByteArray)] from rfl) (Reps.one (show Kd.M Kd.string _ _ _ (⟨#[110, 110]⟩ : ByteArray) [.string (⟨#[110, 110]⟩ : ByteArray)] from rfl) (Reps.none _ _)))); intro v544 w70 ho71 hb hg_ hnew_; clear hg_ hnew_; (first | rw [← Ny543.out] at ho71 | (simp only [Int.reduceToNat] at ho71; rw [← Ny543.out] at ho71)); have n0_ := Aside0.mk (Kd.R_lower ho71 (below_size (by repeat (first | (with_reducible first | exact HB.out | apply below_alloc | apply pw_below_drewN | apply below_drew1) | exact HB.out)))); have n1_ := Aside0.mk (below_step (by repeat (first | (with_reducible first | exact HB.out | apply below_alloc | apply pw_below_drewN | apply below_drew1) | exact HB.out)) hb); clear HB; have HO545 := n0_; have HB := n1_; clear n0_ n1_; clear hb ho71; obtain ⟨Ao72, co72, eo72⟩ := Kd.R_slice HO545.out; subst eo72) | ((with_reducible refine gate_callee (f := 33) rfl ?_); refine goesL_ (some 51) rfl rfl Tryd.func33 (by kernel_rfl) rfl #[.slice Ao72 y543.length co72] rfl (by (try simp only [List.map_toArray, List.map_cons, List.map_nil]); first | done | rfl | (simp only [List.length_drop, List.length_take]; rfl)) ?_; (with_reducible refine (zilog_words.calls (fun k_ => some k_ = (.slice Ao72 y543.length co72 : Value).ownBlock) (.slice Ao72 y543.length co72) y543 t546 w _ ?side1 ?side2 A69.out (by first | exact hT | exact tabs_below hT (by repeat (first | (with_reducible first | exact HB.out | apply below_alloc | apply pw_below_drewN | apply below_drew1) | exact HB.out)) | (repeat (first | exact hT | apply tabs_alloc | apply tabs_drewN | apply tabs_drew)))).mono ?_); (case side1 => repeat (first | (with_reducible first | exact HB.out | apply below_alloc | apply pw_below_drewN | apply below_drew1) | exact HB.out)); (case side2 => exact Kd.R_tight rfl HO545.out); rintro e w73 ⟨v547, rfl, ho0, hb, hkp⟩; refine ⟨_, rfl, ?_⟩; have n0_ := Aside0.mk (Kd.R_mono (ok' := fun k_ => True) ho0 (fun k_ hk_ => trivial)); have n1_ := Aside0.mk (hb); clear HB; clear HO545; have HO548 := n0_; have HB := n1_; clear n0_ n1_; (try clear hb); (try clear hkp); (try clear ho0)))
                          go_ret
                          exact ⟨_, by first | rfl | (simp [errW_none, errW_some] <;> rfl) | (simp [*, errW_none, errW_some] <;> rfl), by (with_reducible repeat (first | apply Kd.R_alloc | apply Kd.R_drewN | apply Kd.R_drew)); exact HO548.out, by repeat (first | (with_reducible first | exact HB.out | apply below_alloc | apply pw_below_drewN | apply below_drew1) | exact HB.out)⟩
                        · rw [if_neg c68] at H
                          have c68b0 : (a0.toList == ([67, 65, 76, 76] : List UInt8)) = false := beq_eq_false_iff_ne.mpr c68
                          have c68b1 : (a0.toList != ([67, 65, 76, 76] : List UInt8)) = true := bne_iff_ne.mpr c68
                          replace H := Option.bind_eq_some_iff.mp H
                          obtain ⟨t549, A740, H⟩ := H
                          replace H : ((zilog_words.f (([t549] : List ByteArray))).bind fun t553 => (some t553)) = some r := H
                          have A74 := Aside0.mk A740
                          clear A740
                          obtain ⟨y550, hy550⟩ : ∃ y_ : List ByteArray, y_ = (([t549] : List ByteArray)) := ⟨_, rfl⟩
                          replace H : ((zilog_words.f y550).bind fun t553 => (some t553)) = some r := by first | (rw [hy550]; with_reducible exact H) | (have H2_ := (Option.bind_some _ _).symm.trans H; rw [hy550]; with_reducible exact H2_) | (have H2_ := (Option.bind_some _ _).symm.trans H; with_reducible exact H2_) | with_reducible exact H | (rw [hy550]; exact H) | exact H
                          have Ny550 := Aside0.mk hy550
                          clear hy550
                          replace H := Option.bind_eq_some_iff.mp H
                          obtain ⟨t553, A750, H⟩ := H
                          replace H : (some t553) = some r := H
                          have A75 := Aside0.mk A750
                          clear A750
                          obtain rfl := Option.some.inj H
                          go_enter Tryd.func38, Tryd.ntmps38
                          go_wp2_with (first | ((with_reducible refine gate_callee (f := 54) rfl ?_); refine goesL_ (some 53) rfl rfl Tryd.func54 (by kernel_rfl) rfl #[.string a0] rfl (by (try simp only [List.map_toArray, List.map_cons, List.map_nil]); first | done | rfl | (simp only [List.length_drop, List.length_take]; rfl)) ?_; (with_reducible refine (zilog_one.calls k a0 t549 _ A74.out (by first | exact hT | exact tabs_below hT (by repeat (first | (with_reducible first | exact HB.out | apply below_alloc | apply pw_below_drewN | apply below_drew1) | exact HB.out)) | (repeat (first | exact hT | apply tabs_alloc | apply tabs_drewN | apply tabs_drew)))).mono ?_); rintro e w' ⟨rfl, ⟨nd, rfl⟩⟩; refine ⟨_, rfl, ?_⟩) | ((with_reducible refine gate_dst (N := 54) rfl ?_); refine Kd.R_lit Kd.string _ 9 ?hg (N := 54) ?hd (xs := ([t549] : List ByteArray)) (inner := [.string t549]) (ok := fun _ => True) (okp := fun _ => True) ?hr ?hp (fun _ hk => hk) trivial (Below.refl _ _) (Nat.le_refl _) (by simp) ?_; (case hd => rfl); (case hg => rfl); (case hr => first | (go_simp; done) | (go_simp; rfl)); (case hp => exact (Reps.one (show Kd.M Kd.string _ _ _ t549 [.string t549] from rfl) (Reps.none _ _))); intro v551 w76 ho77 hb hg_ hnew_; clear hg_ hnew_; (first | rw [← Ny550.out] at ho77 | (simp only [Int.reduceToNat] at ho77; rw [← Ny550.out] at ho77)); have n0_ := Aside0.mk (Kd.R_lower ho77 (below_size (by repeat (first | (with_reducible first | exact HB.out | apply below_alloc | apply pw_below_drewN | apply below_drew1) | exact HB.out)))); have n1_ := Aside0.mk (below_step (by repeat (first | (with_reducible first | exact HB.out | apply below_alloc | apply pw_below_drewN | apply below_drew1) | exact HB.out)) hb); clear HB; have HO552 := n0_; have HB := n1_; clear n0_ n1_; clear hb ho77; obtain ⟨Ao78, co78, eo78⟩ := Kd.R_slice HO552.out; subst eo78) | ((with_reducible refine gate_callee (f := 33) rfl ?_); refine goesL_ (some 55) rfl rfl Tryd.func33 (by kernel_rfl) rfl #[.slice Ao78 y550.length co78] rfl (by (try simp only [List.map_toArray, List.map_cons, List.map_nil]); first | done | rfl | (simp only [List.length_drop, List.length_take]; rfl)) ?_; (with_reducible refine (zilog_words.calls (fun k_ => some k_ = (.slice Ao78 y550.length co78 : Value).ownBlock) (.slice Ao78 y550.length co78) y550 t553 w _ ?side1 ?side2 A75.out (by first | exact hT | exact tabs_below hT (by repeat (first | (with_reducible first | exact HB.out | apply below_alloc | apply pw_below_drewN | apply below_drew1) | exact HB.out)) | (repeat (first | exact hT | apply tabs_alloc | apply tabs_drewN | apply tabs_drew)))).mono ?_); (case side1 => repeat (first | (with_reducible first | exact HB.out | apply below_alloc | apply pw_below_drewN | apply below_drew1) | exact HB.out)); (case side2 => exact Kd.R_tight rfl HO552.out); rintro e w79 ⟨v554, rfl, ho0, hb, hkp⟩; refine ⟨_, rfl, ?_⟩; have n0_ := Aside0.mk (Kd.R_mono (ok' := fun k_ => True) ho0 (fun k_ hk_ => trivial)); have n1_ := Aside0.mk (hb); clear HB; clear HO552; have HO555 := n0_; have HB := n1_; clear n0_ n1_; (try clear hb); (try clear hkp); (try clear ho0)))
                          go_ret
                          exact ⟨_, by first | rfl | (simp [errW_none, errW_some] <;> rfl) | (simp [*, errW_none, errW_some] <;> rfl), by (with_reducible repeat (first | apply Kd.R_alloc | apply Kd.R_drewN | apply Kd.R_drew)); exact HO555.out, by repeat (first | (with_reducible first | exact HB.out | apply below_alloc | apply pw_below_drewN | apply below_drew1) | exact HB.out)⟩

/-! ### zilog_form: function 22 -/
def zilog_form.j0 : Nat → ByteArray → List ByteArray → Bool → Option (List ByteArray)
  | 0, _, _, _ => none
  | k + 1, x3, x4, x59 => if x59 = true then (if 0 < (x4.length : Int) then ((zilog_arg.f (rdOf ByteArray.empty x4 0)).bind fun t594 => ((zilog_sums.f k x3 t594).bind fun t595 => (some t595))) else (none)) else ((zilog_loads.f k x3 x4).bind fun t598 => (if (t598.length : Int) = 0 then ((zilog_plain.f k x3).bind fun t601 => (some t601)) else (some t598)))
def zilog_form.f (k : Nat) (a0 : Int) : Option (List ByteArray) := (isa80_Name.f k a0).bind fun t556 => ((isa80_Args.f k a0).bind fun t557 => ((isa80_Cond.f a0).bind fun t560 => (if t556.toList = ([] : List UInt8) then (some ([] : List ByteArray)) else (if t560 ≥ 0 then ((strings_Fields.f (⟨#[78, 90, 32, 90, 32, 78, 67, 32, 67, 32, 80, 79, 32, 80, 69, 32, 80, 32, 77]⟩ : ByteArray)).bind fun t561 => (if 0 ≤ t560 then (if t560 < (t561.length : Int) then (if 0 < (t556.size : Int) then (if (bt t556 0) = 82 then ((zilog_words.f (([(⟨#[82, 69, 84]⟩ : ByteArray), rdOf ByteArray.empty t561 t560] : List ByteArray))).bind fun t568 => (some t568)) else (if (bt t556 0) = 74 then ((zilog_words.f (([(⟨#[74, 80]⟩ : ByteArray), rdOf ByteArray.empty t561 t560, (⟨#[110, 110]⟩ : ByteArray)] : List ByteArray))).bind fun t574 => (some t574)) else ((zilog_words.f (([(⟨#[67, 65, 76, 76]⟩ : ByteArray), rdOf ByteArray.empty t561 t560, (⟨#[110, 110]⟩ : ByteArray)] : List ByteArray))).bind fun t580 => (some t580)))) else (none)) else (none)) else (none))) else (if (Go.bits .and .u8 a0 199) = 199 then ((strings_TrimPrefix.f (strOfNums (([(48 + ((Int.tdiv (Go.bits .and .u8 a0 56) 10) % 256)) % 256, (48 + (Int.tmod (Go.bits .and .u8 a0 56) 10)) % 256] : List Int))) (⟨#[48]⟩ : ByteArray)).bind fun t586 => ((zilog_words.f (([(⟨#[82, 83, 84]⟩ : ByteArray), t586] : List ByteArray))).bind fun t590 => (some t590))) else (if (a0 / 64) = 2 then (zilog_form.j0 k t556 t557 ((a0 / 64) == 2)) else (zilog_form.j0 k t556 t557 ((Go.bits .and .u8 a0 199) == 198))))))))
theorem zilog_form.mono_l : ∀ k, (∀ y0 y1 y2, LeO (zilog_form.j0 k y0 y1 y2) (zilog_form.j0 (k + 1) y0 y1 y2))
  | 0 => fun _ _ _ r h => by simp [zilog_form.j0] at h
  | k + 1 => by
    have ih0 := zilog_form.mono_l k
    · intro y0 y1 y2
      unfold zilog_form.j0
      repeat' first
      | (with_reducible exact ih0 _ _ _)
      | (with_reducible exact isa80_Args.mono _ _)
      | (with_reducible exact isa80_Name.mono _ _)
      | (with_reducible exact zilog_loads.mono _ _ _)
      | (with_reducible exact zilog_plain.mono _ _)
      | (with_reducible exact zilog_sums.mono _ _ _)
      | (with_reducible exact LeO.refl _)
      | (with_reducible exact LeO.none _)
      | (with_reducible refine LeO.ite ?_ ?_)
      | (with_reducible refine LeO.bind ?_ (fun _ => ?_))
      | exact ih0 _ _ _
      | exact isa80_Args.mono _ _
      | exact isa80_Name.mono _ _
      | exact zilog_loads.mono _ _ _
      | exact zilog_plain.mono _ _
      | exact zilog_sums.mono _ _ _
      | exact LeO.none _
      | refine LeO.ite ?_ ?_
      | refine LeO.bind ?_ (fun _ => ?_)
theorem zilog_form.mono : ∀ a0 k, LeO (zilog_form.f k a0) (zilog_form.f (k + 1) a0) := by
  intro a0 k
  have ih0 := zilog_form.mono_l k
  unfold zilog_form.f
  repeat' first
      | (with_reducible exact ih0 _ _ _)
      | (with_reducible exact isa80_Args.mono _ _)
      | (with_reducible exact isa80_Name.mono _ _)
      | (with_reducible exact zilog_loads.mono _ _ _)
      | (with_reducible exact zilog_plain.mono _ _)
      | (with_reducible exact zilog_sums.mono _ _ _)
      | (with_reducible exact LeO.refl _)
      | (with_reducible exact LeO.none _)
      | (with_reducible refine LeO.ite ?_ ?_)
      | (with_reducible refine LeO.bind ?_ (fun _ => ?_))
      | exact ih0 _ _ _
      | exact isa80_Args.mono _ _
      | exact isa80_Name.mono _ _
      | exact zilog_loads.mono _ _ _
      | exact zilog_plain.mono _ _
      | exact zilog_sums.mono _ _ _
      | exact LeO.none _
      | refine LeO.ite ?_ ?_
      | refine LeO.bind ?_ (fun _ => ?_)
set_option maxHeartbeats 8000000 in
set_option maxRecDepth 100000 in
theorem zilog_form.calls (k : Nat) (a0 : Int) (r : List ByteArray) (w : World) (h : zilog_form.f k a0 = some r) (hT : Tabs w) :
    Calls Tryd.prog 22 #[.int .u8 a0] w fun e w' => ∃ v0_ : Value, e = .returned (v0_) ∧ Kd.R Kd.string 9 w' w.heap.size (fun _ => True) v0_ r ∧ Below w.heap.size w w' := by
  have HB := Aside0.mk (Below.refl w.heap.size w)
  have H : ((isa80_Name.f k a0).bind fun t556 => ((isa80_Args.f k a0).bind fun t557 => ((isa80_Cond.f a0).bind fun t560 => (if t556.toList = ([] : List UInt8) then (some ([] : List ByteArray)) else (if t560 ≥ 0 then ((strings_Fields.f (⟨#[78, 90, 32, 90, 32, 78, 67, 32, 67, 32, 80, 79, 32, 80, 69, 32, 80, 32, 77]⟩ : ByteArray)).bind fun t561 => (if 0 ≤ t560 then (if t560 < (t561.length : Int) then (if 0 < (t556.size : Int) then (if (bt t556 0) = 82 then ((zilog_words.f (([(⟨#[82, 69, 84]⟩ : ByteArray), rdOf ByteArray.empty t561 t560] : List ByteArray))).bind fun t568 => (some t568)) else (if (bt t556 0) = 74 then ((zilog_words.f (([(⟨#[74, 80]⟩ : ByteArray), rdOf ByteArray.empty t561 t560, (⟨#[110, 110]⟩ : ByteArray)] : List ByteArray))).bind fun t574 => (some t574)) else ((zilog_words.f (([(⟨#[67, 65, 76, 76]⟩ : ByteArray), rdOf ByteArray.empty t561 t560, (⟨#[110, 110]⟩ : ByteArray)] : List ByteArray))).bind fun t580 => (some t580)))) else (none)) else (none)) else (none))) else (if (Go.bits .and .u8 a0 199) = 199 then ((strings_TrimPrefix.f (strOfNums (([(48 + ((Int.tdiv (Go.bits .and .u8 a0 56) 10) % 256)) % 256, (48 + (Int.tmod (Go.bits .and .u8 a0 56) 10)) % 256] : List Int))) (⟨#[48]⟩ : ByteArray)).bind fun t586 => ((zilog_words.f (([(⟨#[82, 83, 84]⟩ : ByteArray), t586] : List ByteArray))).bind fun t590 => (some t590))) else (if (a0 / 64) = 2 then (zilog_form.j0 k t556 t557 ((a0 / 64) == 2)) else (zilog_form.j0 k t556 t557 ((Go.bits .and .u8 a0 199) == 198))))))))) = some r := h
  clear h
  replace H := Option.bind_eq_some_iff.mp H
  obtain ⟨t556, A20, H⟩ := H
  replace H : ((isa80_Args.f k a0).bind fun t557 => ((isa80_Cond.f a0).bind fun t560 => (if t556.toList = ([] : List UInt8) then (some ([] : List ByteArray)) else (if t560 ≥ 0 then ((strings_Fields.f (⟨#[78, 90, 32, 90, 32, 78, 67, 32, 67, 32, 80, 79, 32, 80, 69, 32, 80, 32, 77]⟩ : ByteArray)).bind fun t561 => (if 0 ≤ t560 then (if t560 < (t561.length : Int) then (if 0 < (t556.size : Int) then (if (bt t556 0) = 82 then ((zilog_words.f (([(⟨#[82, 69, 84]⟩ : ByteArray), rdOf ByteArray.empty t561 t560] : List ByteArray))).bind fun t568 => (some t568)) else (if (bt t556 0) = 74 then ((zilog_words.f (([(⟨#[74, 80]⟩ : ByteArray), rdOf ByteArray.empty t561 t560, (⟨#[110, 110]⟩ : ByteArray)] : List ByteArray))).bind fun t574 => (some t574)) else ((zilog_words.f (([(⟨#[67, 65, 76, 76]⟩ : ByteArray), rdOf ByteArray.empty t561 t560, (⟨#[110, 110]⟩ : ByteArray)] : List ByteArray))).bind fun t580 => (some t580)))) else (none)) else (none)) else (none))) else (if (Go.bits .and .u8 a0 199) = 199 then ((strings_TrimPrefix.f (strOfNums (([(48 + ((Int.tdiv (Go.bits .and .u8 a0 56) 10) % 256)) % 256, (48 + (Int.tmod (Go.bits .and .u8 a0 56) 10)) % 256] : List Int))) (⟨#[48]⟩ : ByteArray)).bind fun t586 => ((zilog_words.f (([(⟨#[82, 83, 84]⟩ : ByteArray), t586] : List ByteArray))).bind fun t590 => (some t590))) else (if (a0 / 64) = 2 then (zilog_form.j0 k t556 t557 ((a0 / 64) == 2)) else (zilog_form.j0 k t556 t557 ((Go.bits .and .u8 a0 199) == 198)))))))) = some r := H
  have A2 := Aside0.mk A20
  clear A20
  replace H := Option.bind_eq_some_iff.mp H
  obtain ⟨t557, A30, H⟩ := H
  replace H : ((isa80_Cond.f a0).bind fun t560 => (if t556.toList = ([] : List UInt8) then (some ([] : List ByteArray)) else (if t560 ≥ 0 then ((strings_Fields.f (⟨#[78, 90, 32, 90, 32, 78, 67, 32, 67, 32, 80, 79, 32, 80, 69, 32, 80, 32, 77]⟩ : ByteArray)).bind fun t561 => (if 0 ≤ t560 then (if t560 < (t561.length : Int) then (if 0 < (t556.size : Int) then (if (bt t556 0) = 82 then ((zilog_words.f (([(⟨#[82, 69, 84]⟩ : ByteArray), rdOf ByteArray.empty t561 t560] : List ByteArray))).bind fun t568 => (some t568)) else (if (bt t556 0) = 74 then ((zilog_words.f (([(⟨#[74, 80]⟩ : ByteArray), rdOf ByteArray.empty t561 t560, (⟨#[110, 110]⟩ : ByteArray)] : List ByteArray))).bind fun t574 => (some t574)) else ((zilog_words.f (([(⟨#[67, 65, 76, 76]⟩ : ByteArray), rdOf ByteArray.empty t561 t560, (⟨#[110, 110]⟩ : ByteArray)] : List ByteArray))).bind fun t580 => (some t580)))) else (none)) else (none)) else (none))) else (if (Go.bits .and .u8 a0 199) = 199 then ((strings_TrimPrefix.f (strOfNums (([(48 + ((Int.tdiv (Go.bits .and .u8 a0 56) 10) % 256)) % 256, (48 + (Int.tmod (Go.bits .and .u8 a0 56) 10)) % 256] : List Int))) (⟨#[48]⟩ : ByteArray)).bind fun t586 => ((zilog_words.f (([(⟨#[82, 83, 84]⟩ : ByteArray), t586] : List ByteArray))).bind fun t590 => (some t590))) else (if (a0 / 64) = 2 then (zilog_form.j0 k t556 t557 ((a0 / 64) == 2)) else (zilog_form.j0 k t556 t557 ((Go.bits .and .u8 a0 199) == 198))))))) = some r := H
  have A3 := Aside0.mk A30
  clear A30
  replace H := Option.bind_eq_some_iff.mp H
  obtain ⟨t560, A40, H⟩ := H
  replace H : (if t556.toList = ([] : List UInt8) then (some ([] : List ByteArray)) else (if t560 ≥ 0 then ((strings_Fields.f (⟨#[78, 90, 32, 90, 32, 78, 67, 32, 67, 32, 80, 79, 32, 80, 69, 32, 80, 32, 77]⟩ : ByteArray)).bind fun t561 => (if 0 ≤ t560 then (if t560 < (t561.length : Int) then (if 0 < (t556.size : Int) then (if (bt t556 0) = 82 then ((zilog_words.f (([(⟨#[82, 69, 84]⟩ : ByteArray), rdOf ByteArray.empty t561 t560] : List ByteArray))).bind fun t568 => (some t568)) else (if (bt t556 0) = 74 then ((zilog_words.f (([(⟨#[74, 80]⟩ : ByteArray), rdOf ByteArray.empty t561 t560, (⟨#[110, 110]⟩ : ByteArray)] : List ByteArray))).bind fun t574 => (some t574)) else ((zilog_words.f (([(⟨#[67, 65, 76, 76]⟩ : ByteArray), rdOf ByteArray.empty t561 t560, (⟨#[110, 110]⟩ : ByteArray)] : List ByteArray))).bind fun t580 => (some t580)))) else (none)) else (none)) else (none))) else (if (Go.bits .and .u8 a0 199) = 199 then ((strings_TrimPrefix.f (strOfNums (([(48 + ((Int.tdiv (Go.bits .and .u8 a0 56) 10) % 256)) % 256, (48 + (Int.tmod (Go.bits .and .u8 a0 56) 10)) % 256] : List Int))) (⟨#[48]⟩ : ByteArray)).bind fun t586 => ((zilog_words.f (([(⟨#[82, 83, 84]⟩ : ByteArray), t586] : List ByteArray))).bind fun t590 => (some t590))) else (if (a0 / 64) = 2 then (zilog_form.j0 k t556 t557 ((a0 / 64) == 2)) else (zilog_form.j0 k t556 t557 ((Go.bits .and .u8 a0 199) == 198)))))) = some r := H
  have A4 := Aside0.mk A40
  clear A40
  by_cases c5 : t556.toList = ([] : List UInt8)
  · rw [if_pos c5] at H
    have c5b0 : (t556.toList == ([] : List UInt8)) = true := beq_iff_eq.mpr c5
    have c5b1 : (t556.toList != ([] : List UInt8)) = false := bne_eq_false_iff_eq.mpr c5
    clear c5
    obtain rfl := Option.some.inj H
    go_enter Tryd.func22, Tryd.ntmps22
    go_wp2_with (first | ((with_reducible refine gate_callee (f := 18) rfl ?_); refine goesL_ (some 11) rfl rfl Tryd.func18 (by kernel_rfl) rfl #[.int .u8 a0] rfl (by (try simp only [List.map_toArray, List.map_cons, List.map_nil]); first | done | rfl | (simp only [List.length_drop, List.length_take]; rfl)) ?_; (with_reducible refine (isa80_Name.calls k a0 t556 _ A2.out (by first | exact hT | exact tabs_below hT (by repeat (first | (with_reducible first | exact HB.out | apply below_alloc | apply pw_below_drewN | apply below_drew1) | exact HB.out)) | (repeat (first | exact hT | apply tabs_alloc | apply tabs_drewN | apply tabs_drew)))).mono ?_); rintro e w6 ⟨rfl, hb⟩; refine ⟨_, rfl, ?_⟩; have n0_ := Aside0.mk (below_step (by repeat (first | (with_reducible first | exact HB.out | apply below_alloc | apply pw_below_drewN | apply below_drew1) | exact HB.out)) hb); clear HB; have HB := n0_; clear n0_; (try clear hb); (try clear hb2); (try clear hk); (try clear hi)) | ((with_reducible refine gate_callee (f := 31) rfl ?_); refine goesL_ (some 13) rfl rfl Tryd.func31 (by kernel_rfl) rfl #[.int .u8 a0] rfl (by (try simp only [List.map_toArray, List.map_cons, List.map_nil]); first | done | rfl | (simp only [List.length_drop, List.length_take]; rfl)) ?_; (with_reducible refine (isa80_Args.calls k a0 t557 _ A3.out (by first | exact hT | exact tabs_below hT (by repeat (first | (with_reducible first | exact HB.out | apply below_alloc | apply pw_below_drewN | apply below_drew1) | exact HB.out)) | (repeat (first | exact hT | apply tabs_alloc | apply tabs_drewN | apply tabs_drew)))).mono ?_); rintro e w7 ⟨v558, rfl, ho0, hb⟩; refine ⟨_, rfl, ?_⟩; have n0_ := Aside0.mk (Kd.Q_lower ho0 (below_size (by repeat (first | (with_reducible first | exact HB.out | apply below_alloc | apply pw_below_drewN | apply below_drew1) | exact HB.out)))); have n1_ := Aside0.mk (below_step (by repeat (first | (with_reducible first | exact HB.out | apply below_alloc | apply pw_below_drewN | apply below_drew1) | exact HB.out)) hb); clear HB; have HO559 := n0_; have HB := n1_; clear n0_ n1_; (try clear hb); (try clear hb2); (try clear hk); (try clear hi); (try clear ho0)) | ((with_reducible refine gate_callee (f := 19) rfl ?_); refine goesL_ (some 15) rfl rfl Tryd.func19 (by kernel_rfl) rfl #[.int .u8 a0] rfl (by (try simp only [List.map_toArray, List.map_cons, List.map_nil]); first | done | rfl | (simp only [List.length_drop, List.length_take]; rfl)) ?_; (with_reducible refine (isa80_Cond.calls a0 t560 _ A4.out (by first | exact hT | exact tabs_below hT (by repeat (first | (with_reducible first | exact HB.out | apply below_alloc | apply pw_below_drewN | apply below_drew1) | exact HB.out)) | (repeat (first | exact hT | apply tabs_alloc | apply tabs_drewN | apply tabs_drew)))).mono ?_); rintro e w' ⟨rfl, ⟨nd, rfl⟩⟩; refine ⟨_, rfl, ?_⟩))
    go_ret
    exact ⟨_, by first | rfl | (simp [errW_none, errW_some] <;> rfl) | (simp [*, errW_none, errW_some] <;> rfl), by first | exact Kd.R_nil _ _ _ _ _ | exact Kd.N_nil _ _ _ _ _ | exact Kd.V_nil _ _ _ _ _ | exact Kd.Q_nil _ _ _ _ _ | exact Kd.S_nil _ _ _ _ _, by repeat (first | (with_reducible first | exact HB.out | apply below_alloc | apply pw_below_drewN | apply below_drew1) | exact HB.out)⟩
  · rw [if_neg c5] at H
    have c5b0 : (t556.toList == ([] : List UInt8)) = false := beq_eq_false_iff_ne.mpr c5
    have c5b1 : (t556.toList != ([] : List UInt8)) = true := bne_iff_ne.mpr c5
    by_cases c8 : t560 ≥ 0
    · rw [if_pos c8] at H
      have c8b0 : decide (0 ≤ t560) = true := decide_eq_true c8
      clear c8
      replace H := Option.bind_eq_some_iff.mp H
      obtain ⟨t561, A90, H⟩ := H
      replace H : (if 0 ≤ t560 then (if t560 < (t561.length : Int) then (if 0 < (t556.size : Int) then (if (bt t556 0) = 82 then ((zilog_words.f (([(⟨#[82, 69, 84]⟩ : ByteArray), rdOf ByteArray.empty t561 t560] : List ByteArray))).bind fun t568 => (some t568)) else (if (bt t556 0) = 74 then ((zilog_words.f (([(⟨#[74, 80]⟩ : ByteArray), rdOf ByteArray.empty t561 t560, (⟨#[110, 110]⟩ : ByteArray)] : List ByteArray))).bind fun t574 => (some t574)) else ((zilog_words.f (([(⟨#[67, 65, 76, 76]⟩ : ByteArray), rdOf ByteArray.empty t561 t560, (⟨#[110, 110]⟩ : ByteArray)] : List ByteArray))).bind fun t580 => (some t580)))) else (none)) else (none)) else (none)) = some r := H
      have A9 := Aside0.mk A90
      clear A90
      by_cases c10 : 0 ≤ t560
      · rw [if_pos c10] at H
        have c10b0 : decide (0 ≤ t560) = true := decide_eq_true c10
        clear c10
        by_cases c11 : t560 < (t561.length : Int)
        · rw [if_pos c11] at H
          have c11b0 : decide (t560 < (t561.length : Int)) = true := decide_eq_true c11
          clear c11
          by_cases c12 : 0 < (t556.size : Int)
          · rw [if_pos c12] at H
            have c12b0 : decide (0 < (t556.size : Int)) = true := decide_eq_true c12
            have c12b1 : decide (0 < t556.size) = true := decide_eq_true (by omega)
            clear c12
            by_cases c14 : (bt t556 0) = 82
            · rw [if_pos c14] at H
              have c14b0 : ((bt t556 0) == 82) = true := beq_iff_eq.mpr c14
              have c14b1 : ((bt t556 0) != 82) = false := bne_eq_false_iff_eq.mpr c14
              clear c14
              obtain ⟨y565, hy565⟩ : ∃ y_ : List ByteArray, y_ = (([(⟨#[82, 69, 84]⟩ : ByteArray), rdOf ByteArray.empty t561 t560] : List ByteArray)) := ⟨_, rfl⟩
              replace H : ((zilog_words.f y565).bind fun t568 => (some t568)) = some r := by first | (rw [hy565]; with_reducible exact H) | (have H2_ := (Option.bind_some _ _).symm.trans H; rw [hy565]; with_reducible exact H2_) | (have H2_ := (Option.bind_some _ _).symm.trans H; with_reducible exact H2_) | with_reducible exact H | (rw [hy565]; exact H) | exact H
              have Ny565 := Aside0.mk hy565
              clear hy565
              replace H := Option.bind_eq_some_iff.mp H
              obtain ⟨t568, A150, H⟩ := H
              replace H : (some t568) = some r := H
              have A15 := Aside0.mk A150
              clear A150
              obtain rfl := Option.some.inj H
              go_enter Tryd.func22, Tryd.ntmps22
              go_wp2_with (first | ((with_reducible refine gate_callee (f := 18) rfl ?_); refine goesL_ (some 11) rfl rfl Tryd.func18 (by kernel_rfl) rfl #[.int .u8 a0] rfl (by (try simp only [List.map_toArray, List.map_cons, List.map_nil]); first | done | rfl | (simp only [List.length_drop, List.length_take]; rfl)) ?_; (with_reducible refine (isa80_Name.calls k a0 t556 _ A2.out (by first | exact hT | exact tabs_below hT (by repeat (first | (with_reducible first | exact HB.out | apply below_alloc | apply pw_below_drewN | apply below_drew1) | exact HB.out)) | (repeat (first | exact hT | apply tabs_alloc | apply tabs_drewN | apply tabs_drew)))).mono ?_); rintro e w16 ⟨rfl, hb⟩; refine ⟨_, rfl, ?_⟩; have n0_ := Aside0.mk (below_step (by repeat (first | (with_reducible first | exact HB.out | apply below_alloc | apply pw_below_drewN | apply below_drew1) | exact HB.out)) hb); clear HB; have HB := n0_; clear n0_; (try clear hb); (try clear hb2); (try clear hk); (try clear hi)) | ((with_reducible refine gate_callee (f := 31) rfl ?_); refine goesL_ (some 13) rfl rfl Tryd.func31 (by kernel_rfl) rfl #[.int .u8 a0] rfl (by (try simp only [List.map_toArray, List.map_cons, List.map_nil]); first | done | rfl | (simp only [List.length_drop, List.length_take]; rfl)) ?_; (with_reducible refine (isa80_Args.calls k a0 t557 _ A3.out (by first | exact hT | exact tabs_below hT (by repeat (first | (with_reducible first | exact HB.out | apply below_alloc | apply pw_below_drewN | apply below_drew1) | exact HB.out)) | (repeat (first | exact hT | apply tabs_alloc | apply tabs_drewN | apply tabs_drew)))).mono ?_); rintro e w17 ⟨v558, rfl, ho0, hb⟩; refine ⟨_, rfl, ?_⟩; have n0_ := Aside0.mk (Kd.Q_lower ho0 (below_size (by repeat (first | (with_reducible first | exact HB.out | apply below_alloc | apply pw_below_drewN | apply below_drew1) | exact HB.out)))); have n1_ := Aside0.mk (below_step (by repeat (first | (with_reducible first | exact HB.out | apply below_alloc | apply pw_below_drewN | apply below_drew1) | exact HB.out)) hb); clear HB; have HO559 := n0_; have HB := n1_; clear n0_ n1_; (try clear hb); (try clear hb2); (try clear hk); (try clear hi); (try clear ho0)) | ((with_reducible refine gate_callee (f := 19) rfl ?_); refine goesL_ (some 15) rfl rfl Tryd.func19 (by kernel_rfl) rfl #[.int .u8 a0] rfl (by (try simp only [List.map_toArray, List.map_cons, List.map_nil]); first | done | rfl | (simp only [List.length_drop, List.length_take]; rfl)) ?_; (with_reducible refine (isa80_Cond.calls a0 t560 _ A4.out (by first | exact hT | exact tabs_below hT (by repeat (first | (with_reducible first | exact HB.out | apply below_alloc | apply pw_below_drewN | apply below_drew1) | exact HB.out)) | (repeat (first | exact hT | apply tabs_alloc | apply tabs_drewN | apply tabs_drew)))).mono ?_); rintro e w' ⟨rfl, ⟨nd, rfl⟩⟩; refine ⟨_, rfl, ?_⟩) | ((with_reducible refine gate_callee (f := 32) rfl ?_); refine goesL_ (some 22) rfl rfl Tryd.func32 (by kernel_rfl) rfl #[.string (⟨#[78, 90, 32, 90, 32, 78, 67, 32, 67, 32, 80, 79, 32, 80, 69, 32, 80, 32, 77]⟩ : ByteArray)] rfl (by (try simp only [List.map_toArray, List.map_cons, List.map_nil]); first | done | rfl | (simp only [List.length_drop, List.length_take]; rfl)) ?_; (with_reducible refine (strings_Fields.calls (⟨#[78, 90, 32, 90, 32, 78, 67, 32, 67, 32, 80, 79, 32, 80, 69, 32, 80, 32, 77]⟩ : ByteArray) t561 _ A9.out (by first | exact hT | exact tabs_below hT (by repeat (first | (with_reducible first | exact HB.out | apply below_alloc | apply pw_below_drewN | apply below_drew1) | exact HB.out)) | (repeat (first | exact hT | apply tabs_alloc | apply tabs_drewN | apply tabs_drew)))).mono ?_); rintro e w18 ⟨v562, rfl, ho0, hb⟩; refine ⟨_, rfl, ?_⟩; have n0_ := Aside0.mk (Kd.Q_elder' (by (with_reducible repeat (first | apply Kd.Q_alloc | apply Kd.Q_drewN | apply Kd.Q_drew)); exact HO559.out) (Kd.R_base ho0) hb); have n1_ := Aside0.mk (Kd.R_lower (Kd.R_new' ho0 (Kd.Q_lt (by (with_reducible repeat (first | apply Kd.Q_alloc | apply Kd.Q_drewN | apply Kd.Q_drew)); exact HO559.out))) (below_size (by repeat (first | (with_reducible first | exact HB.out | apply below_alloc | apply pw_below_drewN | apply below_drew1) | exact HB.out)))); have n2_ := Aside0.mk (below_step (by repeat (first | (with_reducible first | exact HB.out | apply below_alloc | apply pw_below_drewN | apply below_drew1) | exact HB.out)) hb); clear HO559; clear HB; have HO559 := n0_; have HO563 := n1_; have HB := n2_; clear n0_ n1_ n2_; (try clear hb); (try clear hb2); (try clear hk); (try clear hi); (try clear ho0); obtain ⟨Ao19, co19, eo19⟩ := Kd.R_slice HO563.out; subst eo19; have p564 : 0 ≤ (t560 : Int) := of_decide_eq_true (by first | (with_reducible assumption) | assumption); have q564 : t560 < (t561.length : Int) := of_decide_eq_true (by first | (with_reducible assumption) | assumption); obtain ⟨ad564, e564, hx564_0⟩ := Kd.at_string (Kd.R_reads' HO563.out).2.2 t560 p564 q564; cases e564; replace p564 := eq_true p564; replace q564 := eq_true q564; have p13 : 0 ≤ (0 : Int) := (by omega); have q13 : 0 < t556.size := (by have : (0 : Int) < (t556.size : Int) := of_decide_eq_true (by first | (with_reducible assumption) | assumption); omega); have hx13 : ∀ h : 0 < t556.size, ((t556[0]'h).toNat : Int) = bt t556 0 := bt_at t556 0; clear p13; have qi13 : (0 < (t556.size : Int)) = True := eq_true (of_decide_eq_true (by first | (with_reducible assumption) | assumption)); replace q13 := eq_true q13) | ((with_reducible refine gate_dst (N := 31) rfl ?_); refine Kd.R_lit Kd.string _ 9 ?hg (N := 31) ?hd (xs := ([(⟨#[82, 69, 84]⟩ : ByteArray), rdOf ByteArray.empty t561 t560] : List ByteArray)) (inner := [.string (⟨#[82, 69, 84]⟩ : ByteArray), .string (rdOf ByteArray.empty t561 t560)]) (ok := fun _ => True) (okp := fun _ => True) ?hr ?hp (fun _ hk => hk) trivial (Below.refl _ _) (Nat.le_refl _) (by simp) ?_; (case hd => rfl); (case hg => rfl); (case hr => first | (go_simp; done) | (go_simp; rfl)); (case hp => exact (Reps.one (show Kd.M Kd.string _ _ _ (⟨#[82, 69, 84]⟩ : ByteArray) [.string (⟨#[82, 69, 84]⟩ : ByteArray)] from rfl) (Reps.one (show Kd.M Kd.string _ _ _ (rdOf ByteArray.empty t561 t560) [.string (rdOf ByteArray.empty t561 t560)] from rfl) (Reps.none _ _)))); intro v566 w20 ho21 hb hg_ hnew_; clear hg_ hnew_; (first | rw [← Ny565.out] at ho21 | (simp only [Int.reduceToNat] at ho21; rw [← Ny565.out] at ho21)); have n0_ := Aside0.mk (Kd.Q_elder' (by (with_reducible repeat (first | apply Kd.Q_alloc | apply Kd.Q_drewN | apply Kd.Q_drew)); exact HO559.out) (Kd.R_base ho21) hb); have n1_ := Aside0.mk (Kd.R_elder' (by (with_reducible repeat (first | apply Kd.R_alloc | apply Kd.R_drewN | apply Kd.R_drew)); exact HO563.out) (Kd.R_base ho21) hb); have n2_ := Aside0.mk (Kd.R_lower (Kd.R_new' (Kd.R_new' ho21 (Kd.Q_lt (by (with_reducible repeat (first | apply Kd.Q_alloc | apply Kd.Q_drewN | apply Kd.Q_drew)); exact HO559.out))) (Kd.R_lt (by (with_reducible repeat (first | apply Kd.R_alloc | apply Kd.R_drewN | apply Kd.R_drew)); exact HO563.out))) (below_size (by repeat (first | (with_reducible first | exact HB.out | apply below_alloc | apply pw_below_drewN | apply below_drew1) | exact HB.out)))); have n3_ := Aside0.mk (below_step (by repeat (first | (with_reducible first | exact HB.out | apply below_alloc | apply pw_below_drewN | apply below_drew1) | exact HB.out)) hb); clear HO559; clear HO563; clear HB; have HO559 := n0_; have HO563 := n1_; have HO567 := n2_; have HB := n3_; clear n0_ n1_ n2_ n3_; clear hb ho21; obtain ⟨Ao22, co22, eo22⟩ := Kd.R_slice HO567.out; subst eo22) | ((with_reducible refine gate_callee (f := 33) rfl ?_); refine goesL_ (some 32) rfl rfl Tryd.func33 (by kernel_rfl) rfl #[.slice Ao22 y565.length co22] rfl (by (try simp only [List.map_toArray, List.map_cons, List.map_nil]); first | done | rfl | (simp only [List.length_drop, List.length_take]; rfl)) ?_; (with_reducible refine (zilog_words.calls (fun k_ => some k_ = (.slice Ao22 y565.length co22 : Value).ownBlock) (.slice Ao22 y565.length co22) y565 t568 w _ ?side1 ?side2 A15.out (by first | exact hT | exact tabs_below hT (by repeat (first | (with_reducible first | exact HB.out | apply below_alloc | apply pw_below_drewN | apply below_drew1) | exact HB.out)) | (repeat (first | exact hT | apply tabs_alloc | apply tabs_drewN | apply tabs_drew)))).mono ?_); (case side1 => repeat (first | (with_reducible first | exact HB.out | apply below_alloc | apply pw_below_drewN | apply below_drew1) | exact HB.out)); (case side2 => exact Kd.R_tight rfl HO567.out); rintro e w23 ⟨v569, rfl, ho0, hb, hkp⟩; refine ⟨_, rfl, ?_⟩; have n0_ := Aside0.mk (Kd.Q_mono (ok' := fun k_ => some k_ ≠ (.slice (some ad564) t561.length co19 : Value).ownBlock ∧ some k_ ≠ (v569 : Value).ownBlock) (Kd.Q_keptB (HO559.out) hkp (fun k_ hk_ hs_ => (hk_.2) hs_)) (fun k_ hk_ => ⟨hk_.1.1.2, fun e_ => Or.elim (ho0.1 k_ e_.symm) (fun hs_ => hk_.2.1 hs_) (fun hn_ => Nat.not_le.2 hk_.2.2 hn_)⟩)); have n1_ := Aside0.mk (Kd.R_mono (ok' := fun k_ => some k_ ≠ (v558 : Value).ownBlock ∧ some k_ ≠ (v569 : Value).ownBlock) (Kd.R_keptB (HO563.out) hkp (fun k_ hk_ hs_ => (hk_.2) hs_)) (fun k_ hk_ => ⟨hk_.1.1.2, fun e_ => Or.elim (ho0.1 k_ e_.symm) (fun hs_ => hk_.2.1 hs_) (fun hn_ => Nat.not_le.2 hk_.2.2 hn_)⟩)); have n2_ := Aside0.mk (Kd.R_mono (ok' := fun k_ => some k_ ≠ (v558 : Value).ownBlock ∧ some k_ ≠ (.slice (some ad564) t561.length co19 : Value).ownBlock) ho0 (fun k_ hk_ => ⟨Or.elim hk_ (fun hs_ => fun e_ => (((HO559.out).1 k_ e_.symm).2) hs_) (fun hn_ => (Kd.fresh' (Kd.Q_lt (by (with_reducible repeat (first | apply Kd.Q_alloc | apply Kd.Q_drewN | apply Kd.Q_drew)); exact HO559.out)) k_ hn_)), Or.elim hk_ (fun hs_ => fun e_ => (((HO563.out).1 k_ e_.symm).2) hs_) (fun hn_ => (Kd.fresh' (Kd.R_lt (by (with_reducible repeat (first | apply Kd.R_alloc | apply Kd.R_drewN | apply Kd.R_drew)); exact HO563.out)) k_ hn_))⟩)); have n3_ := Aside0.mk (hb); clear HO559; clear HO563; clear HB; clear HO567; have HO559 := n0_; have HO563 := n1_; have HO570 := n2_; have HB := n3_; clear n0_ n1_ n2_ n3_; (try clear hb); (try clear hkp); (try clear ho0)))
              go_ret
              exact ⟨_, by first | rfl | (simp [errW_none, errW_some] <;> rfl) | (simp [*, errW_none, errW_some] <;> rfl), by (with_reducible repeat (first | apply Kd.R_alloc | apply Kd.R_drewN | apply Kd.R_drew)); exact Kd.R_mono HO570.out (fun _ hk => trivial), by repeat (first | (with_reducible first | exact HB.out | apply below_alloc | apply pw_below_drewN | apply below_drew1) | exact HB.out)⟩
            · rw [if_neg c14] at H
              have c14b0 : ((bt t556 0) == 82) = false := beq_eq_false_iff_ne.mpr c14
              have c14b1 : ((bt t556 0) != 82) = true := bne_iff_ne.mpr c14
              by_cases c24 : (bt t556 0) = 74
              · rw [if_pos c24] at H
                have c24b0 : ((bt t556 0) == 74) = true := beq_iff_eq.mpr c24
                have c24b1 : ((bt t556 0) != 74) = false := bne_eq_false_iff_eq.mpr c24
                clear c24
                obtain ⟨y571, hy571⟩ : ∃ y_ : List ByteArray, y_ = (([(⟨#[74, 80]⟩ : ByteArray), rdOf ByteArray.empty t561 t560, (⟨#[110, 110]⟩ : ByteArray)] : List ByteArray)) := ⟨_, rfl⟩
                replace H : ((zilog_words.f y571).bind fun t574 => (some t574)) = some r := by first | (rw [hy571]; with_reducible exact H) | (have H2_ := (Option.bind_some _ _).symm.trans H; rw [hy571]; with_reducible exact H2_) | (have H2_ := (Option.bind_some _ _).symm.trans H; with_reducible exact H2_) | with_reducible exact H | (rw [hy571]; exact H) | exact H
                have Ny571 := Aside0.mk hy571
                clear hy571
                replace H := Option.bind_eq_some_iff.mp H
                obtain ⟨t574, A250, H⟩ := H
                replace H : (some t574) = some r := H
                have A25 := Aside0.mk A250
                clear A250
                obtain rfl := Option.some.inj H
                go_enter Tryd.func22, Tryd.ntmps22
                go_wp2_with (first | ((with_reducible refine gate_callee (f := 18) rfl ?_); refine goesL_ (some 11) rfl rfl Tryd.func18 (by kernel_rfl) rfl #[.int .u8 a0] rfl (by (try simp only [List.map_toArray, List.map_cons, List.map_nil]); first | done | rfl | (simp only [List.length_drop, List.length_take]; rfl)) ?_; (with_reducible refine (isa80_Name.calls k a0 t556 _ A2.out (by first | exact hT | exact tabs_below hT (by repeat (first | (with_reducible first | exact HB.out | apply below_alloc | apply pw_below_drewN | apply below_drew1) | exact HB.out)) | (repeat (first | exact hT | apply tabs_alloc | apply tabs_drewN | apply tabs_drew)))).mono ?_); rintro e w26 ⟨rfl, hb⟩; refine ⟨_, rfl, ?_⟩; have n0_ := Aside0.mk (below_step (by repeat (first | (with_reducible first | exact HB.out | apply below_alloc | apply pw_below_drewN | apply below_drew1) | exact HB.out)) hb); clear HB; have HB := n0_; clear n0_; (try clear hb); (try clear hb2); (try clear hk); (try clear hi)) | ((with_reducible refine gate_callee (f := 31) rfl ?_); refine goesL_ (some 13) rfl rfl Tryd.func31 (by kernel_rfl) rfl #[.int .u8 a0] rfl (by (try simp only [List.map_toArray, List.map_cons, List.map_nil]); first | done | rfl | (simp only [List.length_drop, List.length_take]; rfl)) ?_; (with_reducible refine (isa80_Args.calls k a0 t557 _ A3.out (by first | exact hT | exact tabs_below hT (by repeat (first | (with_reducible first | exact HB.out | apply below_alloc | apply pw_below_drewN | apply below_drew1) | exact HB.out)) | (repeat (first | exact hT | apply tabs_alloc | apply tabs_drewN | apply tabs_drew)))).mono ?_); rintro e w27 ⟨v558, rfl, ho0, hb⟩; refine ⟨_, rfl, ?_⟩; have n0_ := Aside0.mk (Kd.Q_lower ho0 (below_size (by repeat (first | (with_reducible first | exact HB.out | apply below_alloc | apply pw_below_drewN | apply below_drew1) | exact HB.out)))); have n1_ := Aside0.mk (below_step (by repeat (first | (with_reducible first | exact HB.out | apply below_alloc | apply pw_below_drewN | apply below_drew1) | exact HB.out)) hb); clear HB; have HO559 := n0_; have HB := n1_; clear n0_ n1_; (try clear hb); (try clear hb2); (try clear hk); (try clear hi); (try clear ho0)) | ((with_reducible refine gate_callee (f := 19) rfl ?_); refine goesL_ (some 15) rfl rfl Tryd.func19 (by kernel_rfl) rfl #[.int .u8 a0] rfl (by (try simp only [List.map_toArray, List.map_cons, List.map_nil]); first | done | rfl | (simp only [List.length_drop, List.length_take]; rfl)) ?_; (with_reducible refine (isa80_Cond.calls a0 t560 _ A4.out (by first | exact hT | exact tabs_below hT (by repeat (first | (with_reducible first | exact HB.out | apply below_alloc | apply pw_below_drewN | apply below_drew1) | exact HB.out)) | (repeat (first | exact hT | apply tabs_alloc | apply tabs_drewN | apply tabs_drew)))).mono ?_); rintro e w' ⟨rfl, ⟨nd, rfl⟩⟩; refine ⟨_, rfl, ?_⟩) | ((with_reducible refine gate_callee (f := 32) rfl ?_); refine goesL_ (some 22) rfl rfl Tryd.func32 (by kernel_rfl) rfl #[.string (⟨#[78, 90, 32, 90, 32, 78, 67, 32, 67, 32, 80, 79, 32, 80, 69, 32, 80, 32, 77]⟩ : ByteArray)] rfl (by (try simp only [List.map_toArray, List.map_cons, List.map_nil]); first | done | rfl | (simp only [List.length_drop, List.length_take]; rfl)) ?_; (with_reducible refine (strings_Fields.calls (⟨#[78, 90, 32, 90, 32, 78, 67, 32, 67, 32, 80, 79, 32, 80, 69, 32, 80, 32, 77]⟩ : ByteArray) t561 _ A9.out (by first | exact hT | exact tabs_below hT (by repeat (first | (with_reducible first | exact HB.out | apply below_alloc | apply pw_below_drewN | apply below_drew1) | exact HB.out)) | (repeat (first | exact hT | apply tabs_alloc | apply tabs_drewN | apply tabs_drew)))).mono ?_); rintro e w28 ⟨v562, rfl, ho0, hb⟩; refine ⟨_, rfl, ?_⟩; have n0_ := Aside0.mk (Kd.Q_elder' (by (with_reducible repeat (first | apply Kd.Q_alloc | apply Kd.Q_drewN | apply Kd.Q_drew)); exact HO559.out) (Kd.R_base ho0) hb); have n1_ := Aside0.mk (Kd.R_lower (Kd.R_new' ho0 (Kd.Q_lt (by (with_reducible repeat (first | apply Kd.Q_alloc | apply Kd.Q_drewN | apply Kd.Q_drew)); exact HO559.out))) (below_size (by repeat (first | (with_reducible first | exact HB.out | apply below_alloc | apply pw_below_drewN | apply below_drew1) | exact HB.out)))); have n2_ := Aside0.mk (below_step (by repeat (first | (with_reducible first | exact HB.out | apply below_alloc | apply pw_below_drewN | apply below_drew1) | exact HB.out)) hb); clear HO559; clear HB; have HO559 := n0_; have HO563 := n1_; have HB := n2_; clear n0_ n1_ n2_; (try clear hb); (try clear hb2); (try clear hk); (try clear hi); (try clear ho0); obtain ⟨Ao29, co29, eo29⟩ := Kd.R_slice HO563.out; subst eo29; have p564 : 0 ≤ (t560 : Int) := of_decide_eq_true (by first | (with_reducible assumption) | assumption); have q564 : t560 < (t561.length : Int) := of_decide_eq_true (by first | (with_reducible assumption) | assumption); obtain ⟨ad564, e564, hx564_0⟩ := Kd.at_string (Kd.R_reads' HO563.out).2.2 t560 p564 q564; cases e564; replace p564 := eq_true p564; replace q564 := eq_true q564; have p13 : 0 ≤ (0 : Int) := (by omega); have q13 : 0 < t556.size := (by have : (0 : Int) < (t556.size : Int) := of_decide_eq_true (by first | (with_reducible assumption) | assumption); omega); have hx13 : ∀ h : 0 < t556.size, ((t556[0]'h).toNat : Int) = bt t556 0 := bt_at t556 0; clear p13; have qi13 : (0 < (t556.size : Int)) = True := eq_true (of_decide_eq_true (by first | (with_reducible assumption) | assumption)); replace q13 := eq_true q13) | ((with_reducible refine gate_dst (N := 36) rfl ?_); refine Kd.R_lit Kd.string _ 9 ?hg (N := 36) ?hd (xs := ([(⟨#[74, 80]⟩ : ByteArray), rdOf ByteArray.empty t561 t560, (⟨#[110, 110]⟩ : ByteArray)] : List ByteArray)) (inner := [.string (⟨#[74, 80]⟩ : ByteArray), .string (rdOf ByteArray.empty t561 t560), .string (⟨#[110, 110]⟩ : ByteArray)]) (ok := fun _ => True) (okp := fun _ => True) ?hr ?hp (fun _ hk => hk) trivial (Below.refl _ _) (Nat.le_refl _) (by simp) ?_; (case hd => rfl); (case hg => rfl); (case hr => first | (go_simp; done) | (go_simp; rfl)); (case hp => exact (Reps.one (show Kd.M Kd.string _ _ _ (⟨#[74, 80]⟩ : ByteArray) [.string (⟨#[74, 80]⟩ : ByteArray)] from rfl) (Reps.one (show Kd.M Kd.string _ _ _ (rdOf ByteArray.empty t561 t560) [.string (rdOf ByteArray.empty t561 t560)] from rfl) (Reps.one (show Kd.M Kd.string _ _ _ (⟨#[110, 110]⟩ : ByteArray) [.string (⟨#[110, 110]⟩ : ByteArray)] from rfl) (Reps.none _ _))))); intro v572 w30 ho31 hb hg_ hnew_; clear hg_ hnew_; (first | rw [← Ny571.out] at ho31 | (simp only [Int.reduceToNat] at ho31; rw [← Ny571.out] at ho31)); have n0_ := Aside0.mk (Kd.Q_elder' (by (with_reducible repeat (first | apply Kd.Q_alloc | apply Kd.Q_drewN | apply Kd.Q_drew)); exact HO559.out) (Kd.R_base ho31) hb); have n1_ := Aside0.mk (Kd.R_elder' (by (with_reducible repeat (first | apply Kd.R_alloc | apply Kd.R_drewN | apply Kd.R_drew)); exact HO563.out) (Kd.R_base ho31) hb); have n2_ := Aside0.mk (Kd.R_lower (Kd.R_new' (Kd.R_new' ho31 (Kd.Q_lt (by (with_reducible repeat (first | apply Kd.Q_alloc | apply Kd.Q_drewN | apply Kd.Q_drew)); exact HO559.out))) (Kd.R_lt (by (with_reducible repeat (first | apply Kd.R_alloc | apply Kd.R_drewN | apply Kd.R_drew)); exact HO563.out))) (below_size (by repeat (first | (with_reducible first | exact HB.out | apply below_alloc | apply pw_below_drewN | apply below_drew1) | exact HB.out)))); have n3_ := Aside0.mk (below_step (by repeat (first | (with_reducible first | exact HB.out | apply below_alloc | apply pw_below_drewN | apply below_drew1) | exact HB.out)) hb); clear HO559; clear HO563; clear HB; have HO559 := n0_; have HO563 := n1_; have HO573 := n2_; have HB := n3_; clear n0_ n1_ n2_ n3_; clear hb ho31; obtain ⟨Ao32, co32, eo32⟩ := Kd.R_slice HO573.out; subst eo32) | ((with_reducible refine gate_callee (f := 33) rfl ?_); refine goesL_ (some 37) rfl rfl Tryd.func33 (by kernel_rfl) rfl #[.slice Ao32 y571.length co32] rfl (by (try simp only [List.map_toArray, List.map_cons, List.map_nil]); first | done | rfl | (simp only [List.length_drop, List.length_take]; rfl)) ?_; (with_reducible refine (zilog_words.calls (fun k_ => some k_ = (.slice Ao32 y571.length co32 : Value).ownBlock) (.slice Ao32 y571.length co32) y571 t574 w _ ?side1 ?side2 A25.out (by first | exact hT | exact tabs_below hT (by repeat (first | (with_reducible first | exact HB.out | apply below_alloc | apply pw_below_drewN | apply below_drew1) | exact HB.out)) | (repeat (first | exact hT | apply tabs_alloc | apply tabs_drewN | apply tabs_drew)))).mono ?_); (case side1 => repeat (first | (with_reducible first | exact HB.out | apply below_alloc | apply pw_below_drewN | apply below_drew1) | exact HB.out)); (case side2 => exact Kd.R_tight rfl HO573.out); rintro e w33 ⟨v575, rfl, ho0, hb, hkp⟩; refine ⟨_, rfl, ?_⟩; have n0_ := Aside0.mk (Kd.Q_mono (ok' := fun k_ => some k_ ≠ (.slice (some ad564) t561.length co29 : Value).ownBlock ∧ some k_ ≠ (v575 : Value).ownBlock) (Kd.Q_keptB (HO559.out) hkp (fun k_ hk_ hs_ => (hk_.2) hs_)) (fun k_ hk_ => ⟨hk_.1.1.2, fun e_ => Or.elim (ho0.1 k_ e_.symm) (fun hs_ => hk_.2.1 hs_) (fun hn_ => Nat.not_le.2 hk_.2.2 hn_)⟩)); have n1_ := Aside0.mk (Kd.R_mono (ok' := fun k_ => some k_ ≠ (v558 : Value).ownBlock ∧ some k_ ≠ (v575 : Value).ownBlock) (Kd.R_keptB (HO563.out) hkp (fun k_ hk_ hs_ => (hk_.2) hs_)) (fun k_ hk_ => ⟨hk_.1.1.2, fun e_ => Or.elim (ho0.1 k_ e_.symm) (fun hs_ => hk_.2.1 hs_) (fun hn_ => Nat.not_le.2 hk_.2.2 hn_)⟩)); have n2_ := Aside0.mk (Kd.R_mono (ok' := fun k_ => some k_ ≠ (v558 : Value).ownBlock ∧ some k_ ≠ (.slice (some ad564) t561.length co29 : Value).ownBlock) ho0 (fun k_ hk_ => ⟨Or.elim hk_ (fun hs_ => fun e_ => (((HO559.out).1 k_ e_.symm).2) hs_) (fun hn_ => (Kd.fresh' (Kd.Q_lt (by (with_reducible repeat (first | apply Kd.Q_alloc | apply Kd.Q_drewN | apply Kd.Q_drew)); exact HO559.out)) k_ hn_)), Or.elim hk_ (fun hs_ => fun e_ => (((HO563.out).1 k_ e_.symm).2) hs_) (fun hn_ => (Kd.fresh' (Kd.R_lt (by (with_reducible repeat (first | apply Kd.R_alloc | apply Kd.R_drewN | apply Kd.R_drew)); exact HO563.out)) k_ hn_))⟩)); have n3_ := Aside0.mk (hb); clear HO559; clear HO563; clear HB; clear HO573; have HO559 := n0_; have HO563 := n1_; have HO576 := n2_; have HB := n3_; clear n0_ n1_ n2_ n3_; (try clear hb); (try clear hkp); (try clear ho0)))
                go_ret
                exact ⟨_, by first | rfl | (simp [errW_none, errW_some] <;> rfl) | (simp [*, errW_none, errW_some] <;> rfl), by (with_reducible repeat (first | apply Kd.R_alloc | apply Kd.R_drewN | apply Kd.R_drew)); exact Kd.R_mono HO576.out (fun _ hk => trivial), by repeat (first | (with_reducible first | exact HB.out | apply below_alloc | apply pw_below_drewN | apply below_drew1) | exact HB.out)⟩
              · rw [if_neg c24] at H
                have c24b0 : ((bt t556 0) == 74) = false := beq_eq_false_iff_ne.mpr c24
                have c24b1 : ((bt t556 0) != 74) = true := bne_iff_ne.mpr c24
                obtain ⟨y577, hy577⟩ : ∃ y_ : List ByteArray, y_ = (([(⟨#[67, 65, 76, 76]⟩ : ByteArray), rdOf ByteArray.empty t561 t560, (⟨#[110, 110]⟩ : ByteArray)] : List ByteArray)) := ⟨_, rfl⟩
                replace H : ((zilog_words.f y577).bind fun t580 => (some t580)) = some r := by first | (rw [hy577]; with_reducible exact H) | (have H2_ := (Option.bind_some _ _).symm.trans H; rw [hy577]; with_reducible exact H2_) | (have H2_ := (Option.bind_some _ _).symm.trans H; with_reducible exact H2_) | with_reducible exact H | (rw [hy577]; exact H) | exact H
                have Ny577 := Aside0.mk hy577
                clear hy577
                replace H := Option.bind_eq_some_iff.mp H
                obtain ⟨t580, A340, H⟩ := H
                replace H : (some t580) = some r := H
                have A34 := Aside0.mk A340
                clear A340
                obtain rfl := Option.some.inj H
                go_enter Tryd.func22, Tryd.ntmps22
                go_wp2_with (first | ((with_reducible refine gate_callee (f := 18) rfl ?_); refine goesL_ (some 11) rfl rfl Tryd.func18 (by kernel_rfl) rfl #[.int .u8 a0] rfl (by (try simp only [List.map_toArray, List.map_cons, List.map_nil]); first | done | rfl | (simp only [List.length_drop, List.length_take]; rfl)) ?_; (with_reducible refine (isa80_Name.calls k a0 t556 _ A2.out (by first | exact hT | exact tabs_below hT (by repeat (first | (with_reducible first | exact HB.out | apply below_alloc | apply pw_below_drewN | apply below_drew1) | exact HB.out)) | (repeat (first | exact hT | apply tabs_alloc | apply tabs_drewN | apply tabs_drew)))).mono ?_); rintro e w35 ⟨rfl, hb⟩; refine ⟨_, rfl, ?_⟩; have n0_ := Aside0.mk (below_step (by repeat (first | (with_reducible first | exact HB.out | apply below_alloc | apply pw_below_drewN | apply below_drew1) | exact HB.out)) hb); clear HB; have HB := n0_; clear n0_; (try clear hb); (try clear hb2); (try clear hk); (try clear hi)) | ((with_reducible refine gate_callee (f := 31) rfl ?_); refine goesL_ (some 13) rfl rfl Tryd.func31 (by kernel_rfl) rfl #[.int .u8 a0] rfl (by (try simp only [List.map_toArray, List.map_cons, List.map_nil]); first | done | rfl | (simp only [List.length_drop, List.length_take]; rfl)) ?_; (with_reducible refine (isa80_Args.calls k a0 t557 _ A3.out (by first | exact hT | exact tabs_below hT (by repeat (first | (with_reducible first | exact HB.out | apply below_alloc | apply pw_below_drewN | apply below_drew1) | exact HB.out)) | (repeat (first | exact hT | apply tabs_alloc | apply tabs_drewN | apply tabs_drew)))).mono ?_); rintro e w36 ⟨v558, rfl, ho0, hb⟩; refine ⟨_, rfl, ?_⟩; have n0_ := Aside0.mk (Kd.Q_lower ho0 (below_size (by repeat (first | (with_reducible first | exact HB.out | apply below_alloc | apply pw_below_drewN | apply below_drew1) | exact HB.out)))); have n1_ := Aside0.mk (below_step (by repeat (first | (with_reducible first | exact HB.out | apply below_alloc | apply pw_below_drewN | apply below_drew1) | exact HB.out)) hb); clear HB; have HO559 := n0_; have HB := n1_; clear n0_ n1_; (try clear hb); (try clear hb2); (try clear hk); (try clear hi); (try clear ho0)) | ((with_reducible refine gate_callee (f := 19) rfl ?_); refine goesL_ (some 15) rfl rfl Tryd.func19 (by kernel_rfl) rfl #[.int .u8 a0] rfl (by (try simp only [List.map_toArray, List.map_cons, List.map_nil]); first | done | rfl | (simp only [List.length_drop, List.length_take]; rfl)) ?_; (with_reducible refine (isa80_Cond.calls a0 t560 _ A4.out (by first | exact hT | exact tabs_below hT (by repeat (first | (with_reducible first | exact HB.out | apply below_alloc | apply pw_below_drewN | apply below_drew1) | exact HB.out)) | (repeat (first | exact hT | apply tabs_alloc | apply tabs_drewN | apply tabs_drew)))).mono ?_); rintro e w' ⟨rfl, ⟨nd, rfl⟩⟩; refine ⟨_, rfl, ?_⟩) | ((with_reducible refine gate_callee (f := 32) rfl ?_); refine goesL_ (some 22) rfl rfl Tryd.func32 (by kernel_rfl) rfl #[.string (⟨#[78, 90, 32, 90, 32, 78, 67, 32, 67, 32, 80, 79, 32, 80, 69, 32, 80, 32, 77]⟩ : ByteArray)] rfl (by (try simp only [List.map_toArray, List.map_cons, List.map_nil]); first | done | rfl | (simp only [List.length_drop, List.length_take]; rfl)) ?_; (with_reducible refine (strings_Fields.calls (⟨#[78, 90, 32, 90, 32, 78, 67, 32, 67, 32, 80, 79, 32, 80, 69, 32, 80, 32, 77]⟩ : ByteArray) t561 _ A9.out (by first | exact hT | exact tabs_below hT (by repeat (first | (with_reducible first | exact HB.out | apply below_alloc | apply pw_below_drewN | apply below_drew1) | exact HB.out)) | (repeat (first | exact hT | apply tabs_alloc | apply tabs_drewN | apply tabs_drew)))).mono ?_); rintro e w37 ⟨v562, rfl, ho0, hb⟩; refine ⟨_, rfl, ?_⟩; have n0_ := Aside0.mk (Kd.Q_elder' (by (with_reducible repeat (first | apply Kd.Q_alloc | apply Kd.Q_drewN | apply Kd.Q_drew)); exact HO559.out) (Kd.R_base ho0) hb); have n1_ := Aside0.mk (Kd.R_lower (Kd.R_new' ho0 (Kd.Q_lt (by (with_reducible repeat (first | apply Kd.Q_alloc | apply Kd.Q_drewN | apply Kd.Q_drew)); exact HO559.out))) (below_size (by repeat (first | (with_reducible first | exact HB.out | apply below_alloc | apply pw_below_drewN | apply below_drew1) | exact HB.out)))); have n2_ := Aside0.mk (below_step (by repeat (first | (with_reducible first | exact HB.out | apply below_alloc | apply pw_below_drewN | apply below_drew1) | exact HB.out)) hb); clear HO559; clear HB; have HO559 := n0_; have HO563 := n1_; have HB := n2_; clear n0_ n1_ n2_; (try clear hb); (try clear hb2); (try clear hk); (try clear hi); (try clear ho0); obtain ⟨Ao38, co38, eo38⟩ := Kd.R_slice HO563.out; subst eo38; have p564 : 0 ≤ (t560 : Int) := of_decide_eq_true (by first | (with_reducible assumption) | assumption); have q564 : t560 < (t561.length : Int) := of_decide_eq_true (by first | (with_reducible assumption) | assumption); obtain ⟨ad564, e564, hx564_0⟩ := Kd.at_string (Kd.R_reads' HO563.out).2.2 t560 p564 q564; cases e564; replace p564 := eq_true p564; replace q564 := eq_true q564; have p13 : 0 ≤ (0 : Int) := (by omega); have q13 : 0 < t556.size := (by have : (0 : Int) < (t556.size : Int) := of_decide_eq_true (by first | (with_reducible assumption) | assumption); omega); have hx13 : ∀ h : 0 < t556.size, ((t556[0]'h).toNat : Int) = bt t556 0 := bt_at t556 0; clear p13; have qi13 : (0 < (t556.size : Int)) = True := eq_true (of_decide_eq_true (by first | (with_reducible assumption) | assumption)); replace q13 := eq_true q13) | ((with_reducible refine gate_dst (N := 39) rfl ?_); refine Kd.R_lit Kd.string _ 9 ?hg (N := 39) ?hd (xs := ([(⟨#[67, 65, 76, 76]⟩ : ByteArray), rdOf ByteArray.empty t561 t560, (⟨#[110, 110]⟩ : ByteArray)] : List ByteArray)) (inner := [.string (⟨#[67, 65, 76, 76]⟩ : ByteArray), .string (rdOf ByteArray.empty t561 t560), .string (⟨#[110, 110]⟩ : ByteArray)]) (ok := fun _ => True) (okp := fun _ => True) ?hr ?hp (fun _ hk => hk) trivial (Below.refl _ _) (Nat.le_refl _) (by simp) ?_; (case hd => rfl); (case hg => rfl); (case hr => first | (go_simp; done) | (go_simp; rfl)); (case hp => exact (Reps.one (show Kd.M Kd.string _ _ _ (⟨#[67, 65, 76, 76]⟩ : ByteArray) [.string (⟨#[67, 65, 76, 76]⟩ : ByteArray)] from rfl) (Reps.one (show Kd.M Kd.string _ _ _ (rdOf ByteArray.empty t561 t560) [.string (rdOf ByteArray.empty t561 t560)] from rfl) (Reps.one (show Kd.M Kd.string _ _ _ (⟨#[110, 110]⟩ : ByteArray) [.string (⟨#[110, 110]⟩ : ByteArray)] from rfl) (Reps.none _ _))))); intro v578 w39 ho40 hb hg_ hnew_; clear hg_ hnew_; (first | rw [← Ny577.out] at ho40 | (simp only [Int.reduceToNat] at ho40; rw [← Ny577.out] at ho40)); have n0_ := Aside0.mk (Kd.Q_elder' (by (with_reducible repeat (first | apply Kd.Q_alloc | apply Kd.Q_drewN | apply Kd.Q_drew)); exact HO559.out) (Kd.R_base ho40) hb); have n1_ := Aside0.mk (Kd.R_elder' (by (with_reducible repeat (first | apply Kd.R_alloc | apply Kd.R_drewN | apply Kd.R_drew)); exact HO563.out) (Kd.R_base ho40) hb); have n2_ := Aside0.mk (Kd.R_lower (Kd.R_new' (Kd.R_new' ho40 (Kd.Q_lt (by (with_reducible repeat (first | apply Kd.Q_alloc | apply Kd.Q_drewN | apply Kd.Q_drew)); exact HO559.out))) (Kd.R_lt (by (with_reducible repeat (first | apply Kd.R_alloc | apply Kd.R_drewN | apply Kd.R_drew)); exact HO563.out))) (below_size (by repeat (first | (with_reducible first | exact HB.out | apply below_alloc | apply pw_below_drewN | apply below_drew1) | exact HB.out)))); have n3_ := Aside0.mk (below_step (by repeat (first | (with_reducible first | exact HB.out | apply below_alloc | apply pw_below_drewN | apply below_drew1) | exact HB.out)) hb); clear HO559; clear HO563; clear HB; have HO559 := n0_; have HO563 := n1_; have HO579 := n2_; have HB := n3_; clear n0_ n1_ n2_ n3_; clear hb ho40; obtain ⟨Ao41, co41, eo41⟩ := Kd.R_slice HO579.out; subst eo41) | ((with_reducible refine gate_callee (f := 33) rfl ?_); refine goesL_ (some 40) rfl rfl Tryd.func33 (by kernel_rfl) rfl #[.slice Ao41 y577.length co41] rfl (by (try simp only [List.map_toArray, List.map_cons, List.map_nil]); first | done | rfl | (simp only [List.length_drop, List.length_take]; rfl)) ?_; (with_reducible refine (zilog_words.calls (fun k_ => some k_ = (.slice Ao41 y577.length co41 : Value).ownBlock) (.slice Ao41 y577.length co41) y577 t580 w _ ?side1 ?side2 A34.out (by first | exact hT | exact tabs_below hT (by repeat (first | (with_reducible first | exact HB.out | apply below_alloc | apply pw_below_drewN | apply below_drew1) | exact HB.out)) | (repeat (first | exact hT | apply tabs_alloc | apply tabs_drewN | apply tabs_drew)))).mono ?_); (case side1 => repeat (first | (with_reducible first | exact HB.out | apply below_alloc | apply pw_below_drewN | apply below_drew1) | exact HB.out)); (case side2 => exact Kd.R_tight rfl HO579.out); rintro e w42 ⟨v581, rfl, ho0, hb, hkp⟩; refine ⟨_, rfl, ?_⟩; have n0_ := Aside0.mk (Kd.Q_mono (ok' := fun k_ => some k_ ≠ (.slice (some ad564) t561.length co38 : Value).ownBlock ∧ some k_ ≠ (v581 : Value).ownBlock) (Kd.Q_keptB (HO559.out) hkp (fun k_ hk_ hs_ => (hk_.2) hs_)) (fun k_ hk_ => ⟨hk_.1.1.2, fun e_ => Or.elim (ho0.1 k_ e_.symm) (fun hs_ => hk_.2.1 hs_) (fun hn_ => Nat.not_le.2 hk_.2.2 hn_)⟩)); have n1_ := Aside0.mk (Kd.R_mono (ok' := fun k_ => some k_ ≠ (v558 : Value).ownBlock ∧ some k_ ≠ (v581 : Value).ownBlock) (Kd.R_keptB (HO563.out) hkp (fun k_ hk_ hs_ => (hk_.2) hs_)) (fun k_ hk_ => ⟨hk_.1.1.2, fun e_ => Or.elim (ho0.1 k_ e_.symm) (fun hs_ => hk_.2.1 hs_) (fun hn_ => Nat.not_le.2 hk_.2.2 hn_)⟩)); have n2_ := Aside0.mk (Kd.R_mono (ok' := fun k_ => some k_ ≠ (v558 : Value).ownBlock ∧ some k_ ≠ (.slice (some ad564) t561.length co38 : Value).ownBlock) ho0 (fun k_ hk_ => ⟨Or.elim hk_ (fun hs_ => fun e_ => (((HO559.out).1 k_ e_.symm).2) hs_) (fun hn_ => (Kd.fresh' (Kd.Q_lt (by (with_reducible repeat (first | apply Kd.Q_alloc | apply Kd.Q_drewN | apply Kd.Q_drew)); exact HO559.out)) k_ hn_)), Or.elim hk_ (fun hs_ => fun e_ => (((HO563.out).1 k_ e_.symm).2) hs_) (fun hn_ => (Kd.fresh' (Kd.R_lt (by (with_reducible repeat (first | apply Kd.R_alloc | apply Kd.R_drewN | apply Kd.R_drew)); exact HO563.out)) k_ hn_))⟩)); have n3_ := Aside0.mk (hb); clear HO559; clear HO563; clear HB; clear HO579; have HO559 := n0_; have HO563 := n1_; have HO582 := n2_; have HB := n3_; clear n0_ n1_ n2_ n3_; (try clear hb); (try clear hkp); (try clear ho0)))
                go_ret
                exact ⟨_, by first | rfl | (simp [errW_none, errW_some] <;> rfl) | (simp [*, errW_none, errW_some] <;> rfl), by (with_reducible repeat (first | apply Kd.R_alloc | apply Kd.R_drewN | apply Kd.R_drew)); exact Kd.R_mono HO582.out (fun _ hk => trivial), by repeat (first | (with_reducible first | exact HB.out | apply below_alloc | apply pw_below_drewN | apply below_drew1) | exact HB.out)⟩
          · rw [if_neg c12] at H
            exact absurd H (by simp)
        · rw [if_neg c11] at H
          exact absurd H (by simp)
      · rw [if_neg c10] at H
        exact absurd H (by simp)
    · rw [if_neg c8] at H
      have c8b0 : decide (0 ≤ t560) = false := decide_eq_false c8
      clear c8
      by_cases c43 : (Go.bits .and .u8 a0 199) = 199
      · rw [if_pos c43] at H
        have c43b0 : ((Go.bits .and .u8 a0 199) == 199) = true := beq_iff_eq.mpr c43
        have c43b1 : ((Go.bits .and .u8 a0 199) != 199) = false := bne_eq_false_iff_eq.mpr c43
        clear c43
        obtain ⟨y583, hy583⟩ : ∃ y_ : List Int, y_ = (([(48 + ((Int.tdiv (Go.bits .and .u8 a0 56) 10) % 256)) % 256, (48 + (Int.tmod (Go.bits .and .u8 a0 56) 10)) % 256] : List Int)) := ⟨_, rfl⟩
        replace H : ((strings_TrimPrefix.f (strOfNums y583) (⟨#[48]⟩ : ByteArray)).bind fun t586 => ((zilog_words.f (([(⟨#[82, 83, 84]⟩ : ByteArray), t586] : List ByteArray))).bind fun t590 => (some t590))) = some r := by first | (rw [hy583]; with_reducible exact H) | (have H2_ := (Option.bind_some _ _).symm.trans H; rw [hy583]; with_reducible exact H2_) | (have H2_ := (Option.bind_some _ _).symm.trans H; with_reducible exact H2_) | with_reducible exact H | (rw [hy583]; exact H) | exact H
        have Ny583 := Aside0.mk hy583
        clear hy583
        replace H := Option.bind_eq_some_iff.mp H
        obtain ⟨t586, A440, H⟩ := H
        replace H : ((zilog_words.f (([(⟨#[82, 83, 84]⟩ : ByteArray), t586] : List ByteArray))).bind fun t590 => (some t590)) = some r := H
        have A44 := Aside0.mk A440
        clear A440
        obtain ⟨y587, hy587⟩ : ∃ y_ : List ByteArray, y_ = (([(⟨#[82, 83, 84]⟩ : ByteArray), t586] : List ByteArray)) := ⟨_, rfl⟩
        replace H : ((zilog_words.f y587).bind fun t590 => (some t590)) = some r := by first | (rw [hy587]; with_reducible exact H) | (have H2_ := (Option.bind_some _ _).symm.trans H; rw [hy587]; with_reducible exact H2_) | (have H2_ := (Option.bind_some _ _).symm.trans H; with_reducible exact H2_) | with_reducible exact H | (rw [hy587]; exact H) | exact H
        have Ny587 := Aside0.mk hy587
        clear hy587
        replace H := Option.bind_eq_some_iff.mp H
        obtain ⟨t590, A450, H⟩ := H
        replace H : (some t590) = some r := H
        have A45 := Aside0.mk A450
        clear A450
        obtain rfl := Option.some.inj H
        go_enter Tryd.func22, Tryd.ntmps22
        go_wp2_with (first | ((with_reducible refine gate_callee (f := 18) rfl ?_); refine goesL_ (some 11) rfl rfl Tryd.func18 (by kernel_rfl) rfl #[.int .u8 a0] rfl (by (try simp only [List.map_toArray, List.map_cons, List.map_nil]); first | done | rfl | (simp only [List.length_drop, List.length_take]; rfl)) ?_; (with_reducible refine (isa80_Name.calls k a0 t556 _ A2.out (by first | exact hT | exact tabs_below hT (by repeat (first | (with_reducible first | exact HB.out | apply below_alloc | apply pw_below_drewN | apply below_drew1) | exact HB.out)) | (repeat (first | exact hT | apply tabs_alloc | apply tabs_drewN | apply tabs_drew)))).mono ?_); rintro e w46 ⟨rfl, hb⟩; refine ⟨_, rfl, ?_⟩; have n0_ := Aside0.mk (below_step (by repeat (first | (with_reducible first | exact HB.out | apply below_alloc | apply pw_below_drewN | apply below_drew1) | exact HB.out)) hb); clear HB; have HB := n0_; clear n0_; (try clear hb); (try clear hb2); (try clear hk); (try clear hi)) | ((with_reducible refine gate_callee (f := 31) rfl ?_); refine goesL_ (some 13) rfl rfl Tryd.func31 (by kernel_rfl) rfl #[.int .u8 a0] rfl (by (try simp only [List.map_toArray, List.map_cons, List.map_nil]); first | done | rfl | (simp only [List.length_drop, List.length_take]; rfl)) ?_; (with_reducible refine (isa80_Args.calls k a0 t557 _ A3.out (by first | exact hT | exact tabs_below hT (by repeat (first | (with_reducible first | exact HB.out | apply below_alloc | apply pw_below_drewN | apply below_drew1) | exact HB.out)) | (repeat (first | exact hT | apply tabs_alloc | apply tabs_drewN | apply tabs_drew)))).mono ?_); rintro e w47 ⟨v558, rfl, ho0, hb⟩; refine ⟨_, rfl, ?_⟩; have n0_ := Aside0.mk (Kd.Q_lower ho0 (below_size (by repeat (first | (with_reducible first | exact HB.out | apply below_alloc | apply pw_below_drewN | apply below_drew1) | exact HB.out)))); have n1_ := Aside0.mk (below_step (by repeat (first | (with_reducible first | exact HB.out | apply below_alloc | apply pw_below_drewN | apply below_drew1) | exact HB.out)) hb); clear HB; have HO559 := n0_; have HB := n1_; clear n0_ n1_; (try clear hb); (try clear hb2); (try clear hk); (try clear hi); (try clear ho0)) | ((with_reducible refine gate_callee (f := 19) rfl ?_); refine goesL_ (some 15) rfl rfl Tryd.func19 (by kernel_rfl) rfl #[.int .u8 a0] rfl (by (try simp only [List.map_toArray, List.map_cons, List.map_nil]); first | done | rfl | (simp only [List.length_drop, List.length_take]; rfl)) ?_; (with_reducible refine (isa80_Cond.calls a0 t560 _ A4.out (by first | exact hT | exact tabs_below hT (by repeat (first | (with_reducible first | exact HB.out | apply below_alloc | apply pw_below_drewN | apply below_drew1) | exact HB.out)) | (repeat (first | exact hT | apply tabs_alloc | apply tabs_drewN | apply tabs_drew)))).mono ?_); rintro e w' ⟨rfl, ⟨nd, rfl⟩⟩; refine ⟨_, rfl, ?_⟩) | ((with_reducible refine gate_dst (N := 53) rfl ?_); refine Kd.R_lit (Kd.int .u8) _ 5 ?hg (N := 53) ?hd (xs := ([(48 + ((Int.tdiv (Go.bits .and .u8 a0 56) 10) % 256)) % 256, (48 + (Int.tmod (Go.bits .and .u8 a0 56) 10)) % 256] : List Int)) (inner := [.int .u8 ((48 + ((Int.tdiv (Go.bits .and .u8 a0 56) 10) % 256)) % 256), .int .u8 ((48 + (Int.tmod (Go.bits .and .u8 a0 56) 10)) % 256)]) (ok := fun _ => True) (okp := fun _ => True) ?hr ?hp (fun _ hk => hk) trivial (Below.refl _ _) (Nat.le_refl _) (by simp) ?_; (case hd => rfl); (case hg => rfl); (case hr => first | (go_simp; done) | (go_simp; rfl)); (case hp => exact (Reps.one (show Kd.M (Kd.int .u8) _ _ _ ((48 + ((Int.tdiv (Go.bits .and .u8 a0 56) 10) % 256)) % 256) [.int .u8 ((48 + ((Int.tdiv (Go.bits .and .u8 a0 56) 10) % 256)) % 256)] from rfl) (Reps.one (show Kd.M (Kd.int .u8) _ _ _ ((48 + (Int.tmod (Go.bits .and .u8 a0 56) 10)) % 256) [.int .u8 ((48 + (Int.tmod (Go.bits .and .u8 a0 56) 10)) % 256)] from rfl) (Reps.none _ _)))); intro v584 w48 ho49 hb hg_ hnew_; clear hg_ hnew_; (first | rw [← Ny583.out] at ho49 | (simp only [Int.reduceToNat] at ho49; rw [← Ny583.out] at ho49)); have n0_ := Aside0.mk (Kd.Q_below (by (with_reducible repeat (first | apply Kd.Q_alloc | apply Kd.Q_drewN | apply Kd.Q_drew)); exact HO559.out) hb); have n1_ := Aside0.mk (Kd.R_lower ho49 (below_size (by repeat (first | (with_reducible first | exact HB.out | apply below_alloc | apply pw_below_drewN | apply below_drew1) | exact HB.out)))); have n2_ := Aside0.mk (below_step (by repeat (first | (with_reducible first | exact HB.out | apply below_alloc | apply pw_below_drewN | apply below_drew1) | exact HB.out)) hb); clear HO559; clear HB; have HO559 := n0_; have HO585 := n1_; have HB := n2_; clear n0_ n1_ n2_; clear hb ho49; have hcv50 := own_string (P := Tryd.prog) Tryd.underlying47 Tryd.underlying5 Tryd.underlying9 (Kd.own_of_R HO585.out)) | ((with_reducible refine gate_callee (f := 34) rfl ?_); refine goesL_ (some 56) rfl rfl Tryd.func34 (by kernel_rfl) rfl #[.string (strOfNums y583), .string (⟨#[48]⟩ : ByteArray)] rfl (by (try simp only [List.map_toArray, List.map_cons, List.map_nil]); first | done | rfl | (simp only [List.length_drop, List.length_take]; rfl)) ?_; (with_reducible refine (strings_TrimPrefix.calls (strOfNums y583) (⟨#[48]⟩ : ByteArray) t586 _ A44.out (by first | exact hT | exact tabs_below hT (by repeat (first | (with_reducible first | exact HB.out | apply below_alloc | apply pw_below_drewN | apply below_drew1) | exact HB.out)) | (repeat (first | exact hT | apply tabs_alloc | apply tabs_drewN | apply tabs_drew)))).mono ?_); rintro e w' ⟨rfl, ⟨nd, rfl⟩⟩; refine ⟨_, rfl, ?_⟩) | ((with_reducible refine gate_dst (N := 57) rfl ?_); refine Kd.R_lit Kd.string _ 9 ?hg (N := 57) ?hd (xs := ([(⟨#[82, 83, 84]⟩ : ByteArray), t586] : List ByteArray)) (inner := [.string (⟨#[82, 83, 84]⟩ : ByteArray), .string t586]) (ok := fun _ => True) (okp := fun _ => True) ?hr ?hp (fun _ hk => hk) trivial (Below.refl _ _) (Nat.le_refl _) (by simp) ?_; (case hd => rfl); (case hg => rfl); (case hr => first | (go_simp; done) | (go_simp; rfl)); (case hp => exact (Reps.one (show Kd.M Kd.string _ _ _ (⟨#[82, 83, 84]⟩ : ByteArray) [.string (⟨#[82, 83, 84]⟩ : ByteArray)] from rfl) (Reps.one (show Kd.M Kd.string _ _ _ t586 [.string t586] from rfl) (Reps.none _ _)))); intro v588 w51 ho52 hb hg_ hnew_; clear hg_ hnew_; (first | rw [← Ny587.out] at ho52 | (simp only [Int.reduceToNat] at ho52; rw [← Ny587.out] at ho52)); have n0_ := Aside0.mk (Kd.Q_elder' (by (with_reducible repeat (first | apply Kd.Q_alloc | apply Kd.Q_drewN | apply Kd.Q_drew)); exact HO559.out) (Kd.R_base ho52) hb); have n1_ := Aside0.mk (Kd.R_below (by (with_reducible repeat (first | apply Kd.R_alloc | apply Kd.R_drewN | apply Kd.R_drew)); exact HO585.out) hb); have n2_ := Aside0.mk (Kd.R_lower (Kd.R_new' ho52 (Kd.Q_lt (by (with_reducible repeat (first | apply Kd.Q_alloc | apply Kd.Q_drewN | apply Kd.Q_drew)); exact HO559.out))) (below_size (by repeat (first | (with_reducible first | exact HB.out | apply below_alloc | apply pw_below_drewN | apply below_drew1) | exact HB.out)))); have n3_ := Aside0.mk (below_step (by repeat (first | (with_reducible first | exact HB.out | apply below_alloc | apply pw_below_drewN | apply below_drew1) | exact HB.out)) hb); clear HO559; clear HO585; clear HB; have HO559 := n0_; have HO585 := n1_; have HO589 := n2_; have HB := n3_; clear n0_ n1_ n2_ n3_; clear hb ho52; obtain ⟨Ao53, co53, eo53⟩ := Kd.R_slice HO589.out; subst eo53) | ((with_reducible refine gate_callee (f := 33) rfl ?_); refine goesL_ (some 58) rfl rfl Tryd.func33 (by kernel_rfl) rfl #[.slice Ao53 y587.length co53] rfl (by (try simp only [List.map_toArray, List.map_cons, List.map_nil]); first | done | rfl | (simp only [List.length_drop, List.length_take]; rfl)) ?_; (with_reducible refine (zilog_words.calls (fun k_ => some k_ = (.slice Ao53 y587.length co53 : Value).ownBlock) (.slice Ao53 y587.length co53) y587 t590 w _ ?side1 ?side2 A45.out (by first | exact hT | exact tabs_below hT (by repeat (first | (with_reducible first | exact HB.out | apply below_alloc | apply pw_below_drewN | apply below_drew1) | exact HB.out)) | (repeat (first | exact hT | apply tabs_alloc | apply tabs_drewN | apply tabs_drew)))).mono ?_); (case side1 => repeat (first | (with_reducible first | exact HB.out | apply below_alloc | apply pw_below_drewN | apply below_drew1) | exact HB.out)); (case side2 => exact Kd.R_tight rfl HO589.out); rintro e w54 ⟨v591, rfl, ho0, hb, hkp⟩; refine ⟨_, rfl, ?_⟩; have n0_ := Aside0.mk (Kd.Q_mono (ok' := fun k_ => some k_ ≠ (v591 : Value).ownBlock) (Kd.Q_keptB (HO559.out) hkp (fun k_ hk_ hs_ => (hk_.2) hs_)) (fun k_ hk_ => fun e_ => Or.elim (ho0.1 k_ e_.symm) (fun hs_ => hk_.2.1 hs_) (fun hn_ => Nat.not_le.2 hk_.2.2 hn_))); have n1_ := Aside0.mk (Kd.R_mono (ok' := fun k_ => True) (Kd.R_keptB ((Kd.R_apart' HO585.out (Kd.R_typed HO589.out) (by decide))) hkp (fun k_ hk_ hs_ => (hk_.2) hs_)) (fun k_ hk_ => trivial)); have n2_ := Aside0.mk (Kd.R_mono (ok' := fun k_ => some k_ ≠ (v558 : Value).ownBlock) ho0 (fun k_ hk_ => Or.elim hk_ (fun hs_ => fun e_ => (((HO559.out).1 k_ e_.symm).2) hs_) (fun hn_ => (Kd.fresh' (Kd.Q_lt (by (with_reducible repeat (first | apply Kd.Q_alloc | apply Kd.Q_drewN | apply Kd.Q_drew)); exact HO559.out)) k_ hn_)))); have n3_ := Aside0.mk (hb); clear HO559; clear HO585; clear HB; clear HO589; have HO559 := n0_; have HO585 := n1_; have HO592 := n2_; have HB := n3_; clear n0_ n1_ n2_ n3_; (try clear hb); (try clear hkp); (try clear ho0)))
        go_ret
        exact ⟨_, by first | rfl | (simp [errW_none, errW_some] <;> rfl) | (simp [*, errW_none, errW_some] <;> rfl), by (with_reducible repeat (first | apply Kd.R_alloc | apply Kd.R_drewN | apply Kd.R_drew)); exact Kd.R_mono HO592.out (fun _ hk => trivial), by repeat (first | (with_reducible first | exact HB.out | apply below_alloc | apply pw_below_drewN | apply below_drew1) | exact HB.out)⟩
      · rw [if_neg c43] at H
        have c43b0 : ((Go.bits .and .u8 a0 199) == 199) = false := beq_eq_false_iff_ne.mpr c43
        have c43b1 : ((Go.bits .and .u8 a0 199) != 199) = true := bne_iff_ne.mpr c43
        have HC55 := Aside0.mk H
        clear H
        go_enter Tryd.func22, Tryd.ntmps22
        go_upto_if 59 with (first | ((with_reducible refine gate_callee (f := 18) rfl ?_); refine goesL_ (some 11) rfl rfl Tryd.func18 (by kernel_rfl) rfl #[.int .u8 a0] rfl (by (try simp only [List.map_toArray, List.map_cons, List.map_nil]); first | done | rfl | (simp only [List.length_drop, List.length_take]; rfl)) ?_; (with_reducible refine (isa80_Name.calls k a0 t556 _ A2.out (by first | exact hT | exact tabs_below hT (by repeat (first | (with_reducible first | exact HB.out | apply below_alloc | apply pw_below_drewN | apply below_drew1) | exact HB.out)) | (repeat (first | exact hT | apply tabs_alloc | apply tabs_drewN | apply tabs_drew)))).mono ?_); rintro e w56 ⟨rfl, hb⟩; refine ⟨_, rfl, ?_⟩; have n0_ := Aside0.mk (below_step (by repeat (first | (with_reducible first | exact HB.out | apply below_alloc | apply pw_below_drewN | apply below_drew1) | exact HB.out)) hb); clear HB; have HB := n0_; clear n0_; (try clear hb); (try clear hb2); (try clear hk); (try clear hi)) | ((with_reducible refine gate_callee (f := 31) rfl ?_); refine goesL_ (some 13) rfl rfl Tryd.func31 (by kernel_rfl) rfl #[.int .u8 a0] rfl (by (try simp only [List.map_toArray, List.map_cons, List.map_nil]); first | done | rfl | (simp only [List.length_drop, List.length_take]; rfl)) ?_; (with_reducible refine (isa80_Args.calls k a0 t557 _ A3.out (by first | exact hT | exact tabs_below hT (by repeat (first | (with_reducible first | exact HB.out | apply below_alloc | apply pw_below_drewN | apply below_drew1) | exact HB.out)) | (repeat (first | exact hT | apply tabs_alloc | apply tabs_drewN | apply tabs_drew)))).mono ?_); rintro e w57 ⟨v558, rfl, ho0, hb⟩; refine ⟨_, rfl, ?_⟩; have n0_ := Aside0.mk (Kd.Q_lower ho0 (below_size (by repeat (first | (with_reducible first | exact HB.out | apply below_alloc | apply pw_below_drewN | apply below_drew1) | exact HB.out)))); have n1_ := Aside0.mk (below_step (by repeat (first | (with_reducible first | exact HB.out | apply below_alloc | apply pw_below_drewN | apply below_drew1) | exact HB.out)) hb); clear HB; have HO559 := n0_; have HB := n1_; clear n0_ n1_; (try clear hb); (try clear hb2); (try clear hk); (try clear hi); (try clear ho0)) | ((with_reducible refine gate_callee (f := 19) rfl ?_); refine goesL_ (some 15) rfl rfl Tryd.func19 (by kernel_rfl) rfl #[.int .u8 a0] rfl (by (try simp only [List.map_toArray, List.map_cons, List.map_nil]); first | done | rfl | (simp only [List.length_drop, List.length_take]; rfl)) ?_; (with_reducible refine (isa80_Cond.calls a0 t560 _ A4.out (by first | exact hT | exact tabs_below hT (by repeat (first | (with_reducible first | exact HB.out | apply below_alloc | apply pw_below_drewN | apply below_drew1) | exact HB.out)) | (repeat (first | exact hT | apply tabs_alloc | apply tabs_drewN | apply tabs_drew)))).mono ?_); rintro e w' ⟨rfl, ⟨nd, rfl⟩⟩; refine ⟨_, rfl, ?_⟩))
        (try simp only [Act.put, List.setIfInBounds_toArray, List.set_cons_zero, List.set_cons_succ])
        go_cut [59] (fun v59 wc => ∃ (kq : Nat) (x59_54 : Bool), v59 = .bool x59_54 ∧ Aside0 (zilog_form.j0 kq t556 t557 x59_54 = some r) ∧ Aside0 (kq ≤ k) ∧ Aside0 (Kd.Q Kd.string 9 wc w.heap.size (fun _ => True) v558 t557) ∧ Aside0 (Below w.heap.size w wc))
        case first =>
          have H := HC55.out
          clear HC55
          by_cases c58 : (a0 / 64) = 2
          · rw [if_pos c58] at H
            have c58b0 : ((a0 / 64) == 2) = true := beq_iff_eq.mpr c58
            have c58b1 : ((a0 / 64) != 2) = false := bne_eq_false_iff_eq.mpr c58
            clear c58
            (first | rw [c58b0] | (simp only [i64_w, i32_w]; rw [c58b0]) | skip)
            have H' := Aside0.mk H
            clear H
            go_wp2
            go_meet
            case rel => exact ⟨_, (((a0 / 64) == 2)), (by first | rfl | (simp; done) | (simp [*]; done)), H', ⟨by first | omega | exact Nat.le_refl _⟩, ⟨by (with_reducible repeat (first | apply Kd.Q_alloc | apply Kd.Q_drewN | apply Kd.Q_drew)); exact HO559.out⟩, ⟨by repeat (first | (with_reducible first | exact HB.out | apply below_alloc | apply pw_below_drewN | apply below_drew1) | exact HB.out)⟩⟩
          · rw [if_neg c58] at H
            have c58b0 : ((a0 / 64) == 2) = false := beq_eq_false_iff_ne.mpr c58
            have c58b1 : ((a0 / 64) != 2) = true := bne_iff_ne.mpr c58
            (first | rw [c58b0] | (simp only [i64_w, i32_w]; rw [c58b0]) | skip)
            have H' := Aside0.mk H
            clear H
            go_wp2
            go_meet
            case rel => exact ⟨_, (((Go.bits .and .u8 a0 199) == 198)), (by first | rfl | (simp; done) | (simp [*]; done)), H', ⟨by first | omega | exact Nat.le_refl _⟩, ⟨by (with_reducible repeat (first | apply Kd.Q_alloc | apply Kd.Q_drewN | apply Kd.Q_drew)); exact HO559.out⟩, ⟨by repeat (first | (with_reducible first | exact HB.out | apply below_alloc | apply pw_below_drewN | apply below_drew1) | exact HB.out)⟩⟩
        case rest =>
          clear HC55
          try clear c1
          try clear p1
          try clear q1
          try clear hx1
          try clear qi1
          try clear c2
          try clear p2
          try clear c3
          try clear c4
          try clear c5
          try clear c5b0
          try clear c5b1
          try clear p5
          try clear q5
          try clear hx5
          try clear hcv5
          try clear c8
          try clear c8b0
          try clear c10
          try clear c10b0
          try clear c11
          try clear c11b0
          try clear c12
          try clear c12b0
          try clear c12b1
          try clear p13
          try clear q13
          try clear hx13
          try clear qi13
          try clear c14
          try clear c14b0
          try clear c14b1
          try clear c18
          try clear c19
          try clear c22
          try clear c24
          try clear c24b0
          try clear c24b1
          try clear c31
          try clear c32
          try clear c33
          try clear c34
          try clear c43
          try clear c43b0
          try clear c43b1
          try clear hcv50
          try clear p56
          try clear q56
          try clear hx56
          try clear c58
          try clear c58b0
          try clear c58b1
          try clear hx564_0
          try clear p13
          try clear p564
          try clear q13
          try clear q564
          obtain ⟨kq, x59_54, rfl, HA, HJ54, HO_4, HB⟩ := hcut
          cases kq with
          | zero => exact absurd HA.out (by simp [zilog_form.j0])
          | succ kj54 =>
            have H := HA.out
            clear HA
            simp only [zilog_form.j0] at H
            by_cases c59 : x59_54 = true
            · subst c59
              have H1 : (if 0 < (t557.length : Int) then ((zilog_arg.f (rdOf ByteArray.empty t557 0)).bind fun t594 => ((zilog_sums.f kj54 t556 t594).bind fun t595 => (some t595))) else (none)) = some r := by rw [if_pos rfl] at H; exact H
              clear H
              have H := H1
              clear H1
              by_cases c60 : 0 < (t557.length : Int)
              · rw [if_pos c60] at H
                have c60b0 : decide (0 < (t557.length : Int)) = true := decide_eq_true c60
                have c60b1 : decide (0 < t557.length) = true := decide_eq_true (by omega)
                clear c60
                replace H := Option.bind_eq_some_iff.mp H
                obtain ⟨t594, A610, H⟩ := H
                replace H : ((zilog_sums.f kj54 t556 t594).bind fun t595 => (some t595)) = some r := H
                have A61 := Aside0.mk A610
                clear A610
                replace H := Option.bind_eq_some_iff.mp H
                obtain ⟨t595, A620, H⟩ := H
                replace H : (some t595) = some r := H
                have A62 := Aside0.mk A620
                clear A620
                obtain rfl := Option.some.inj H
                obtain ⟨Ao63, co63, eo63, _⟩ := Kd.Q_slice HO_4.out
                subst eo63
                have p593 : 0 ≤ (0 : Int) := (by omega)
                have q593 : 0 < (t557.length : Int) := of_decide_eq_true (by first | (with_reducible assumption) | assumption)
                obtain ⟨ad593, e593, hx593_0⟩ := Kd.at_string (Kd.Q_reads' HO_4.out).2.2 0 p593 q593
                cases e593
                have qi593 : (0 < t557.length) = True := eq_true (by omega)
                (try rw [show ((0 : Int)).toNat = 0 from rfl] at hx593_0)
                (try rw [Addr.add_zero'] at hx593_0)
                replace p593 := eq_true p593
                replace q593 := eq_true q593
                go_wp2_with (first | ((with_reducible refine gate_callee (f := 36) rfl ?_); refine goesL_ (some 70) rfl rfl Tryd.func36 (by kernel_rfl) rfl #[.string (rdOf ByteArray.empty t557 0)] rfl (by (try simp only [List.map_toArray, List.map_cons, List.map_nil]); first | done | rfl | (simp only [List.length_drop, List.length_take]; rfl)) ?_; (with_reducible refine (zilog_arg.calls (rdOf ByteArray.empty t557 0) t594 _ A61.out (by first | exact hT | exact tabs_below hT (by repeat (first | (with_reducible first | exact HB.out | apply below_alloc | apply pw_below_drewN | apply below_drew1) | exact HB.out)) | (repeat (first | exact hT | apply tabs_alloc | apply tabs_drewN | apply tabs_drew)))).mono ?_); rintro e w' ⟨rfl, ⟨nd, rfl⟩⟩; refine ⟨_, rfl, ?_⟩) | ((with_reducible refine gate_callee (f := 35) rfl ?_); refine goesL_ (some 71) rfl rfl Tryd.func35 (by kernel_rfl) rfl #[.string t556, .string t594] rfl (by (try simp only [List.map_toArray, List.map_cons, List.map_nil]); first | done | rfl | (simp only [List.length_drop, List.length_take]; rfl)) ?_; (with_reducible refine (zilog_sums.calls kj54 t556 t594 t595 _ A62.out (by first | exact hT | exact tabs_below hT (by repeat (first | (with_reducible first | exact HB.out | apply below_alloc | apply pw_below_drewN | apply below_drew1) | exact HB.out)) | (repeat (first | exact hT | apply tabs_alloc | apply tabs_drewN | apply tabs_drew)))).mono ?_); rintro e w64 ⟨v596, rfl, ho0, hb⟩; refine ⟨_, rfl, ?_⟩; have n0_ := Aside0.mk (Kd.Q_elder' (by (with_reducible repeat (first | apply Kd.Q_alloc | apply Kd.Q_drewN | apply Kd.Q_drew)); exact HO_4.out) (Kd.R_base ho0) hb); have n1_ := Aside0.mk (Kd.R_lower (Kd.R_new' ho0 (Kd.Q_lt (by (with_reducible repeat (first | apply Kd.Q_alloc | apply Kd.Q_drewN | apply Kd.Q_drew)); exact HO_4.out))) (below_size (by repeat (first | (with_reducible first | exact HB.out | apply below_alloc | apply pw_below_drewN | apply below_drew1) | exact HB.out)))); have n2_ := Aside0.mk (below_step (by repeat (first | (with_reducible first | exact HB.out | apply below_alloc | apply pw_below_drewN | apply below_drew1) | exact HB.out)) hb); clear HO_4; clear HB; have HO_4 := n0_; have HO597 := n1_; have HB := n2_; clear n0_ n1_ n2_; (try clear hb); (try clear hb2); (try clear hk); (try clear hi); (try clear ho0)))
                go_ret
                exact ⟨_, by first | rfl | (simp [errW_none, errW_some] <;> rfl) | (simp [*, errW_none, errW_some] <;> rfl), by (with_reducible repeat (first | apply Kd.R_alloc | apply Kd.R_drewN | apply Kd.R_drew)); exact Kd.R_mono HO597.out (fun _ hk => trivial), by repeat (first | (with_reducible first | exact HB.out | apply below_alloc | apply pw_below_drewN | apply below_drew1) | exact HB.out)⟩
              · rw [if_neg c60] at H
                exact absurd H (by simp)
            · replace c59 := Bool.eq_false_iff.mpr c59
              subst c59
              have H1 : ((zilog_loads.f kj54 t556 t557).bind fun t598 => (if (t598.length : Int) = 0 then ((zilog_plain.f kj54 t556).bind fun t601 => (some t601)) else (some t598))) = some r := by rw [if_neg (show ¬ (false = true) by decide)] at H; exact H
              clear H
              have H := H1
              clear H1
              replace H := Option.bind_eq_some_iff.mp H
              obtain ⟨t598, A650, H⟩ := H
              replace H : (if (t598.length : Int) = 0 then ((zilog_plain.f kj54 t556).bind fun t601 => (some t601)) else (some t598)) = some r := H
              have A65 := Aside0.mk A650
              clear A650
              by_cases c66 : (t598.length : Int) = 0
              · rw [if_pos c66] at H
                have c66b0 : ((t598.length : Int) == 0) = true := beq_iff_eq.mpr c66
                have c66b1 : ((t598.length : Int) != 0) = false := bne_eq_false_iff_eq.mpr c66
                clear c66
                replace H := Option.bind_eq_some_iff.mp H
                obtain ⟨t601, A670, H⟩ := H
                replace H : (some t601) = some r := H
                have A67 := Aside0.mk A670
                clear A670
                obtain rfl := Option.some.inj H
                obtain ⟨Ao68, co68, eo68, _⟩ := Kd.Q_slice HO_4.out
                subst eo68
                go_wp2_with (first | ((with_reducible refine gate_callee (f := 37) rfl ?_); refine goesL_ (some 74) rfl rfl Tryd.func37 (by kernel_rfl) rfl #[.string t556, .slice Ao68 t557.length co68] rfl (by (try simp only [List.map_toArray, List.map_cons, List.map_nil]); first | done | rfl | (simp only [List.length_drop, List.length_take]; rfl)) ?_; (with_reducible refine (zilog_loads.calls2 kj54 t556 _ _ t557 t598 _ ?side1 ?side2 A65.out (by first | exact hT | exact tabs_below hT (by repeat (first | (with_reducible first | exact HB.out | apply below_alloc | apply pw_below_drewN | apply below_drew1) | exact HB.out)) | (repeat (first | exact hT | apply tabs_alloc | apply tabs_drewN | apply tabs_drew)))).mono ?_); (case side1 => repeat (first | exact (Kd.Q_reads' HO_4.out).2.2 | (with_reducible refine Kd.C_alloc ?_ _) | (with_reducible refine Kd.C_drewN ?_ _) | (with_reducible refine Kd.C_drew ?_))); (case side2 => exact (Kd.Q_reads' HO_4.out).2.1); rintro e w69 ⟨v599, rfl, hnil_, ho0, hb⟩; (obtain rfl : v599 = .slice none 0 0 := hnil_ (by have := eq_of_beq c66b0; omega)); refine ⟨_, rfl, ?_⟩; have n0_ := Aside0.mk (Kd.Q_elder' (by (with_reducible repeat (first | apply Kd.Q_alloc | apply Kd.Q_drewN | apply Kd.Q_drew)); exact HO_4.out) (Kd.R_base ho0) hb); have n1_ := Aside0.mk (Kd.R_lower (Kd.R_new' ho0 (Kd.Q_lt (by (with_reducible repeat (first | apply Kd.Q_alloc | apply Kd.Q_drewN | apply Kd.Q_drew)); exact HO_4.out))) (below_size (by repeat (first | (with_reducible first | exact HB.out | apply below_alloc | apply pw_below_drewN | apply below_drew1) | exact HB.out)))); have n2_ := Aside0.mk (below_step (by repeat (first | (with_reducible first | exact HB.out | apply below_alloc | apply pw_below_drewN | apply below_drew1) | exact HB.out)) hb); clear HO_4; clear HB; have HO_4 := n0_; have HO600 := n1_; have HB := n2_; clear n0_ n1_ n2_; (try clear hb); (try clear hb2); (try clear hk); (try clear hi); (try clear ho0); skip) | ((with_reducible refine gate_callee (f := 38) rfl ?_); refine goesL_ (some 79) rfl rfl Tryd.func38 (by kernel_rfl) rfl #[.string t556] rfl (by (try simp only [List.map_toArray, List.map_cons, List.map_nil]); first | done | rfl | (simp only [List.length_drop, List.length_take]; rfl)) ?_; (with_reducible refine (zilog_plain.calls kj54 t556 t601 _ A67.out (by first | exact hT | exact tabs_below hT (by repeat (first | (with_reducible first | exact HB.out | apply below_alloc | apply pw_below_drewN | apply below_drew1) | exact HB.out)) | (repeat (first | exact hT | apply tabs_alloc | apply tabs_drewN | apply tabs_drew)))).mono ?_); rintro e w71 ⟨v602, rfl, ho0, hb⟩; refine ⟨_, rfl, ?_⟩; have n0_ := Aside0.mk (Kd.Q_elder' (by (with_reducible repeat (first | apply Kd.Q_alloc | apply Kd.Q_drewN | apply Kd.Q_drew)); exact HO_4.out) (Kd.R_base ho0) hb); have n1_ := Aside0.mk (Kd.R_elder' (by (with_reducible repeat (first | apply Kd.R_alloc | apply Kd.R_drewN | apply Kd.R_drew)); exact HO600.out) (Kd.R_base ho0) hb); have n2_ := Aside0.mk (Kd.R_lower (Kd.R_new' (Kd.R_new' ho0 (Kd.Q_lt (by (with_reducible repeat (first | apply Kd.Q_alloc | apply Kd.Q_drewN | apply Kd.Q_drew)); exact HO_4.out))) (Kd.R_lt (by (with_reducible repeat (first | apply Kd.R_alloc | apply Kd.R_drewN | apply Kd.R_drew)); exact HO600.out))) (below_size (by repeat (first | (with_reducible first | exact HB.out | apply below_alloc | apply pw_below_drewN | apply below_drew1) | exact HB.out)))); have n3_ := Aside0.mk (below_step (by repeat (first | (with_reducible first | exact HB.out | apply below_alloc | apply pw_below_drewN | apply below_drew1) | exact HB.out)) hb); clear HO_4; clear HO600; clear HB; have HO_4 := n0_; have HO600 := n1_; have HO603 := n2_; have HB := n3_; clear n0_ n1_ n2_ n3_; (try clear hb); (try clear hb2); (try clear hk); (try clear hi); (try clear ho0)))
                go_ret
                exact ⟨_, by first | rfl | (simp [errW_none, errW_some] <;> rfl) | (simp [*, errW_none, errW_some] <;> rfl), by (with_reducible repeat (first | apply Kd.R_alloc | apply Kd.R_drewN | apply Kd.R_drew)); exact Kd.R_mono HO603.out (fun _ hk => trivial), by repeat (first | (with_reducible first | exact HB.out | apply below_alloc | apply pw_below_drewN | apply below_drew1) | exact HB.out)⟩
              · rw [if_neg c66] at H
                have c66b0 : ((t598.length : Int) == 0) = false := beq_eq_false_iff_ne.mpr c66
                have c66b1 : ((t598.length : Int) != 0) = true := bne_iff_ne.mpr c66
                have c66b2 : ¬ (t598 = []) := fun h_ => c66 (by rw [h_]; rfl)
                obtain rfl := Option.some.inj H
                obtain ⟨Ao72, co72, eo72, _⟩ := Kd.Q_slice HO_4.out
                subst eo72
                go_wp2_with (first | ((with_reducible refine gate_callee (f := 37) rfl ?_); refine goesL_ (some 74) rfl rfl Tryd.func37 (by kernel_rfl) rfl #[.string t556, .slice Ao72 t557.length co72] rfl (by (try simp only [List.map_toArray, List.map_cons, List.map_nil]); first | done | rfl | (simp only [List.length_drop, List.length_take]; rfl)) ?_; (with_reducible refine (zilog_loads.calls2 kj54 t556 _ _ t557 t598 _ ?side1 ?side2 A65.out (by first | exact hT | exact tabs_below hT (by repeat (first | (with_reducible first | exact HB.out | apply below_alloc | apply pw_below_drewN | apply below_drew1) | exact HB.out)) | (repeat (first | exact hT | apply tabs_alloc | apply tabs_drewN | apply tabs_drew)))).mono ?_); (case side1 => repeat (first | exact (Kd.Q_reads' HO_4.out).2.2 | (with_reducible refine Kd.C_alloc ?_ _) | (with_reducible refine Kd.C_drewN ?_ _) | (with_reducible refine Kd.C_drew ?_))); (case side2 => exact (Kd.Q_reads' HO_4.out).2.1); rintro e w73 ⟨v599, rfl, _, ho0, hb⟩; refine ⟨_, rfl, ?_⟩; have n0_ := Aside0.mk (Kd.Q_elder' (by (with_reducible repeat (first | apply Kd.Q_alloc | apply Kd.Q_drewN | apply Kd.Q_drew)); exact HO_4.out) (Kd.R_base ho0) hb); have n1_ := Aside0.mk (Kd.R_lower (Kd.R_new' ho0 (Kd.Q_lt (by (with_reducible repeat (first | apply Kd.Q_alloc | apply Kd.Q_drewN | apply Kd.Q_drew)); exact HO_4.out))) (below_size (by repeat (first | (with_reducible first | exact HB.out | apply below_alloc | apply pw_below_drewN | apply below_drew1) | exact HB.out)))); have n2_ := Aside0.mk (below_step (by repeat (first | (with_reducible first | exact HB.out | apply below_alloc | apply pw_below_drewN | apply below_drew1) | exact HB.out)) hb); clear HO_4; clear HB; have HO_4 := n0_; have HO600 := n1_; have HB := n2_; clear n0_ n1_ n2_; (try clear hb); (try clear hb2); (try clear hk); (try clear hi); (try clear ho0); obtain ⟨Ao74, co74, eo74⟩ := Kd.R_slice HO600.out; subst eo74; obtain ⟨ad74, rfl⟩ := some_of_length HO600.out c66b1))
                go_ret
                exact ⟨_, by first | rfl | (simp [errW_none, errW_some] <;> rfl) | (simp [*, errW_none, errW_some] <;> rfl), by (with_reducible repeat (first | apply Kd.R_alloc | apply Kd.R_drewN | apply Kd.R_drew)); exact Kd.R_mono HO600.out (fun _ hk => trivial), by repeat (first | (with_reducible first | exact HB.out | apply below_alloc | apply pw_below_drewN | apply below_drew1) | exact HB.out)⟩

end Go.Proofs.YtldmnenomcipcaaDoor.G

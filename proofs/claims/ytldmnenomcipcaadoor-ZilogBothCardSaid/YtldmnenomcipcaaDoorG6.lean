/- Written by a program of ours (wip/tools/gprint.py) over the kit's print: contracts of the program's functions, each as a plain function. -/
import Derived.Test.YtldmnenomcipcaaDoorG0
import Derived.Test.YtldmnenomcipcaaDoorG3
import Derived.Test.YtldmnenomcipcaaDoorG4
import Derived.Test.YtldmnenomcipcaaDoorG5
namespace Go.Proofs.YtldmnenomcipcaaDoor.G
open Go.RowKit Go.Proofs.YtldmnenomcipcaaDoorW.PrintWords Go.Proofs.YtldmnenomcipcaaDoorW.PrintLast Go.Proofs.YtldmnenomcipcaaDoorW.PrintMore
attribute [local go_sem] max2_int min2_int max_two min_two max_three min_three max_four min_four   -- for this text's walks alone
set_option linter.unusedVariables false
set_option linter.unusedSimpArgs false

/-! ### zilog_form: function 22 -/
def zilog_form.j0 : Nat → ByteArray → List ByteArray → Bool → Option (List ByteArray)
  | 0, _, _, _ => none
  | k + 1, x3, x4, x59 => if x59 = true then (if 0 < (x4.length : Int) then ((zilog_arg.f (rdOf ByteArray.empty x4 0)).bind fun t594 => ((zilog_sums.f k x3 t594).bind fun t595 => (some t595))) else (none)) else ((zilog_loads.f k x3 x4).bind fun t598 => (if (t598.length : Int) = 0 then ((zilog_plain.f k x3).bind fun t601 => (some t601)) else (some t598)))
def zilog_form.f (k : Nat) (a0 : Int) : Option (List ByteArray) := (isa80_Name.f k a0).bind fun t556 => ((isa80_Args.f k a0).bind fun t557 => ((isa80_Cond.f a0).bind fun t560 => (if t556.toList = ([] : List UInt8) then (some ([] : List ByteArray)) else (if t560 ≥ 0 then ((strings_Fields.f (⟨#[78, 90, 32, 90, 32, 78, 67, 32, 67, 32, 80, 79, 32, 80, 69, 32, 80, 32, 77]⟩ : ByteArray)).bind fun t561 => (if 0 ≤ t560 then (if t560 < (t561.length : Int) then (if 0 < (t556.size : Int) then (if (bt t556 0) = 82 then ((zilog_words.f (([(⟨#[82, 69, 84]⟩ : ByteArray), rdOf ByteArray.empty t561 t560] : List ByteArray))).bind fun t568 => (some t568)) else (if (bt t556 0) = 74 then ((zilog_words.f (([(⟨#[74, 80]⟩ : ByteArray), rdOf ByteArray.empty t561 t560, (⟨#[110, 110]⟩ : ByteArray)] : List ByteArray))).bind fun t574 => (some t574)) else ((zilog_words.f (([(⟨#[67, 65, 76, 76]⟩ : ByteArray), rdOf ByteArray.empty t561 t560, (⟨#[110, 110]⟩ : ByteArray)] : List ByteArray))).bind fun t580 => (some t580)))) else (none)) else (none)) else (none))) else (if (Go.bits .and .u8 a0 199) = 199 then ((strings_TrimPrefix.f (strOfNums (([(48 + ((Int.tdiv (Go.bits .and .u8 a0 56) 10) % 256)) % 256, (48 + (Int.tmod (Go.bits .and .u8 a0 56) 10)) % 256] : List Int))) (⟨#[48]⟩ : ByteArray)).bind fun t586 => ((zilog_words.f (([(⟨#[82, 83, 84]⟩ : ByteArray), t586] : List ByteArray))).bind fun t590 => (some t590))) else (if (a0 / 64) = 2 then (zilog_form.j0 k t556 t557 ((a0 / 64) == 2)) else (zilog_form.j0 k t556 t557 ((Go.bits .and .u8 a0 199) == 198))))))))
theorem zilog_form.mono_l : ∀ k, (∀ y0 y1 y2, LeO (zilog_form.j0 k y0 y1 y2) (zilog_form.j0 (k + 1) y0 y1 y2))
  | 0 => fun _ _ _ r h => by simp [zilog_form.j0] at h
  | k + 1 => by
    have ih0 := zilog_form.mono_l k
    · intro y0 y1 y2
      unfold zilog_form.j0
      repeat' first
      | (with_reducible exact ih0 _ _ _)
      | (with_reducible exact isa80_Args.mono _ _)
      | (with_reducible exact isa80_Name.mono _ _)
      | (with_reducible exact zilog_loads.mono _ _ _)
      | (with_reducible exact zilog_plain.mono _ _)
      | (with_reducible exact zilog_sums.mono _ _ _)
      | (with_reducible exact LeO.refl _)
      | (with_reducible exact LeO.none _)
      | (with_reducible refine LeO.ite ?_ ?_)
      | (with_reducible refine LeO.bind ?_ (fun _ => ?_))
      | exact ih0 _ _ _
      | exact isa80_Args.mono _ _
      | exact isa80_Name.mono _ _
      | exact zilog_loads.mono _ _ _
      | exact zilog_plain.mono _ _
      | exact zilog_sums.mono _ _ _
      | exact LeO.none _
      | refine LeO.ite ?_ ?_
      | refine LeO.bind ?_ (fun _ => ?_)
theorem zilog_form.mono : ∀ a0 k, LeO (zilog_form.f k a0) (zilog_form.f (k + 1) a0) := by
  intro a0 k
  have ih0 := zilog_form.mono_l k
  unfold zilog_form.f
  repeat' first
      | (with_reducible exact ih0 _ _ _)
      | (with_reducible exact isa80_Args.mono _ _)
      | (with_reducible exact isa80_Name.mono _ _)
      | (with_reducible exact zilog_loads.mono _ _ _)
      | (with_reducible exact zilog_plain.mono _ _)
      | (with_reducible exact zilog_sums.mono _ _ _)
      | (with_reducible exact LeO.refl _)
      | (with_reducible exact LeO.none _)
      | (with_reducible refine LeO.ite ?_ ?_)
      | (with_reducible refine LeO.bind ?_ (fun _ => ?_))
      | exact ih0 _ _ _
      | exact isa80_Args.mono _ _
      | exact isa80_Name.mono _ _
      | exact zilog_loads.mono _ _ _
      | exact zilog_plain.mono _ _
      | exact zilog_sums.mono _ _ _
      | exact LeO.none _
      | refine LeO.ite ?_ ?_
      | refine LeO.bind ?_ (fun _ => ?_)
set_option maxHeartbeats 8000000 in
set_option maxRecDepth 100000 in
theorem zilog_form.calls (k : Nat) (a0 : Int) (r : List ByteArray) (w : World) (h : zilog_form.f k a0 = some r) (hT : Tabs w) :
    Calls Tryd.prog 22 #[.int .u8 a0] w fun e w' => ∃ v0_ : Value, e = .returned (v0_) ∧ Kd.R Kd.string 9 w' w.heap.size (fun _ => True) v0_ r ∧ Below w.heap.size w w' := by
  have HB := Aside0.mk (Below.refl w.heap.size w)
  have H : ((isa80_Name.f k a0).bind fun t556 => ((isa80_Args.f k a0).bind fun t557 => ((isa80_Cond.f a0).bind fun t560 => (if t556.toList = ([] : List UInt8) then (some ([] : List ByteArray)) else (if t560 ≥ 0 then ((strings_Fields.f (⟨#[78, 90, 32, 90, 32, 78, 67, 32, 67, 32, 80, 79, 32, 80, 69, 32, 80, 32, 77]⟩ : ByteArray)).bind fun t561 => (if 0 ≤ t560 then (if t560 < (t561.length : Int) then (if 0 < (t556.size : Int) then (if (bt t556 0) = 82 then ((zilog_words.f (([(⟨#[82, 69, 84]⟩ : ByteArray), rdOf ByteArray.empty t561 t560] : List ByteArray))).bind fun t568 => (some t568)) else (if (bt t556 0) = 74 then ((zilog_words.f (([(⟨#[74, 80]⟩ : ByteArray), rdOf ByteArray.empty t561 t560, (⟨#[110, 110]⟩ : ByteArray)] : List ByteArray))).bind fun t574 => (some t574)) else ((zilog_words.f (([(⟨#[67, 65, 76, 76]⟩ : ByteArray), rdOf ByteArray.empty t561 t560, (⟨#[110, 110]⟩ : ByteArray)] : List ByteArray))).bind fun t580 => (some t580)))) else (none)) else (none)) else (none))) else (if (Go.bits .and .u8 a0 199) = 199 then ((strings_TrimPrefix.f (strOfNums (([(48 + ((Int.tdiv (Go.bits .and .u8 a0 56) 10) % 256)) % 256, (48 + (Int.tmod (Go.bits .and .u8 a0 56) 10)) % 256] : List Int))) (⟨#[48]⟩ : ByteArray)).bind fun t586 => ((zilog_words.f (([(⟨#[82, 83, 84]⟩ : ByteArray), t586] : List ByteArray))).bind fun t590 => (some t590))) else (if (a0 / 64) = 2 then (zilog_form.j0 k t556 t557 ((a0 / 64) == 2)) else (zilog_form.j0 k t556 t557 ((Go.bits .and .u8 a0 199) == 198))))))))) = some r := h
  clear h
  replace H := Option.bind_eq_some_iff.mp H
  obtain ⟨t556, A20, H⟩ := H
  replace H : ((isa80_Args.f k a0).bind fun t557 => ((isa80_Cond.f a0).bind fun t560 => (if t556.toList = ([] : List UInt8) then (some ([] : List ByteArray)) else (if t560 ≥ 0 then ((strings_Fields.f (⟨#[78, 90, 32, 90, 32, 78, 67, 32, 67, 32, 80, 79, 32, 80, 69, 32, 80, 32, 77]⟩ : ByteArray)).bind fun t561 => (if 0 ≤ t560 then (if t560 < (t561.length : Int) then (if 0 < (t556.size : Int) then (if (bt t556 0) = 82 then ((zilog_words.f (([(⟨#[82, 69, 84]⟩ : ByteArray), rdOf ByteArray.empty t561 t560] : List ByteArray))).bind fun t568 => (some t568)) else (if (bt t556 0) = 74 then ((zilog_words.f (([(⟨#[74, 80]⟩ : ByteArray), rdOf ByteArray.empty t561 t560, (⟨#[110, 110]⟩ : ByteArray)] : List ByteArray))).bind fun t574 => (some t574)) else ((zilog_words.f (([(⟨#[67, 65, 76, 76]⟩ : ByteArray), rdOf ByteArray.empty t561 t560, (⟨#[110, 110]⟩ : ByteArray)] : List ByteArray))).bind fun t580 => (some t580)))) else (none)) else (none)) else (none))) else (if (Go.bits .and .u8 a0 199) = 199 then ((strings_TrimPrefix.f (strOfNums (([(48 + ((Int.tdiv (Go.bits .and .u8 a0 56) 10) % 256)) % 256, (48 + (Int.tmod (Go.bits .and .u8 a0 56) 10)) % 256] : List Int))) (⟨#[48]⟩ : ByteArray)).bind fun t586 => ((zilog_words.f (([(⟨#[82, 83, 84]⟩ : ByteArray), t586] : List ByteArray))).bind fun t590 => (some t590))) else (if (a0 / 64) = 2 then (zilog_form.j0 k t556 t557 ((a0 / 64) == 2)) else (zilog_form.j0 k t556 t557 ((Go.bits .and .u8 a0 199) == 198)))))))) = some r := H
  have A2 := Aside0.mk A20
  clear A20
  replace H := Option.bind_eq_some_iff.mp H
  obtain ⟨t557, A30, H⟩ := H
  replace H : ((isa80_Cond.f a0).bind fun t560 => (if t556.toList = ([] : List UInt8) then (some ([] : List ByteArray)) else (if t560 ≥ 0 then ((strings_Fields.f (⟨#[78, 90, 32, 90, 32, 78, 67, 32, 67, 32, 80, 79, 32, 80, 69, 32, 80, 32, 77]⟩ : ByteArray)).bind fun t561 => (if 0 ≤ t560 then (if t560 < (t561.length : Int) then (if 0 < (t556.size : Int) then (if (bt t556 0) = 82 then ((zilog_words.f (([(⟨#[82, 69, 84]⟩ : ByteArray), rdOf ByteArray.empty t561 t560] : List ByteArray))).bind fun t568 => (some t568)) else (if (bt t556 0) = 74 then ((zilog_words.f (([(⟨#[74, 80]⟩ : ByteArray), rdOf ByteArray.empty t561 t560, (⟨#[110, 110]⟩ : ByteArray)] : List ByteArray))).bind fun t574 => (some t574)) else ((zilog_words.f (([(⟨#[67, 65, 76, 76]⟩ : ByteArray), rdOf ByteArray.empty t561 t560, (⟨#[110, 110]⟩ : ByteArray)] : List ByteArray))).bind fun t580 => (some t580)))) else (none)) else (none)) else (none))) else (if (Go.bits .and .u8 a0 199) = 199 then ((strings_TrimPrefix.f (strOfNums (([(48 + ((Int.tdiv (Go.bits .and .u8 a0 56) 10) % 256)) % 256, (48 + (Int.tmod (Go.bits .and .u8 a0 56) 10)) % 256] : List Int))) (⟨#[48]⟩ : ByteArray)).bind fun t586 => ((zilog_words.f (([(⟨#[82, 83, 84]⟩ : ByteArray), t586] : List ByteArray))).bind fun t590 => (some t590))) else (if (a0 / 64) = 2 then (zilog_form.j0 k t556 t557 ((a0 / 64) == 2)) else (zilog_form.j0 k t556 t557 ((Go.bits .and .u8 a0 199) == 198))))))) = some r := H
  have A3 := Aside0.mk A30
  clear A30
  replace H := Option.bind_eq_some_iff.mp H
  obtain ⟨t560, A40, H⟩ := H
  replace H : (if t556.toList = ([] : List UInt8) then (some ([] : List ByteArray)) else (if t560 ≥ 0 then ((strings_Fields.f (⟨#[78, 90, 32, 90, 32, 78, 67, 32, 67, 32, 80, 79, 32, 80, 69, 32, 80, 32, 77]⟩ : ByteArray)).bind fun t561 => (if 0 ≤ t560 then (if t560 < (t561.length : Int) then (if 0 < (t556.size : Int) then (if (bt t556 0) = 82 then ((zilog_words.f (([(⟨#[82, 69, 84]⟩ : ByteArray), rdOf ByteArray.empty t561 t560] : List ByteArray))).bind fun t568 => (some t568)) else (if (bt t556 0) = 74 then ((zilog_words.f (([(⟨#[74, 80]⟩ : ByteArray), rdOf ByteArray.empty t561 t560, (⟨#[110, 110]⟩ : ByteArray)] : List ByteArray))).bind fun t574 => (some t574)) else ((zilog_words.f (([(⟨#[67, 65, 76, 76]⟩ : ByteArray), rdOf ByteArray.empty t561 t560, (⟨#[110, 110]⟩ : ByteArray)] : List ByteArray))).bind fun t580 => (some t580)))) else (none)) else (none)) else (none))) else (if (Go.bits .and .u8 a0 199) = 199 then ((strings_TrimPrefix.f (strOfNums (([(48 + ((Int.tdiv (Go.bits .and .u8 a0 56) 10) % 256)) % 256, (48 + (Int.tmod (Go.bits .and .u8 a0 56) 10)) % 256] : List Int))) (⟨#[48]⟩ : ByteArray)).bind fun t586 => ((zilog_words.f (([(⟨#[82, 83, 84]⟩ : ByteArray), t586] : List ByteArray))).bind fun t590 => (some t590))) else (if (a0 / 64) = 2 then (zilog_form.j0 k t556 t557 ((a0 / 64) == 2)) else (zilog_form.j0 k t556 t557 ((Go.bits .and .u8 a0 199) == 198)))))) = some r := H
  have A4 := Aside0.mk A40
  clear A40
  by_cases c5 : t556.toList = ([] : List UInt8)
  · rw [if_pos c5] at H
    have c5b0 : (t556.toList == ([] : List UInt8)) = true := beq_iff_eq.mpr c5
    have c5b1 : (t556.toList != ([] : List UInt8)) = false := bne_eq_false_iff_eq.mpr c5
    clear c5
    obtain rfl := Option.some.inj H
    go_enter Tryd.func22, Tryd.ntmps22
    go_wp2_with (first | ((with_reducible refine gate_callee (f := 18) rfl ?_); refine goesL_ (some 11) rfl rfl Tryd.func18 (by kernel_rfl) rfl #[.int .u8 a0] rfl (by (try simp only [List.map_toArray, List.map_cons, List.map_nil]); first | done | rfl | (simp only [List.length_drop, List.length_take]; rfl)) ?_; (with_reducible refine (isa80_Name.calls k a0 t556 _ A2.out (by first | exact hT | exact tabs_below hT (by repeat (first | (with_reducible first | exact HB.out | apply below_alloc | apply pw_below_drewN | apply below_drew1) | exact HB.out)) | (repeat (first | exact hT | apply tabs_alloc | apply tabs_drewN | apply tabs_drew)))).mono ?_); rintro e w6 ⟨rfl, hb⟩; refine ⟨_, rfl, ?_⟩; have n0_ := Aside0.mk (below_step (by repeat (first | (with_reducible first | exact HB.out | apply below_alloc | apply pw_below_drewN | apply below_drew1) | exact HB.out)) hb); clear HB; have HB := n0_; clear n0_; (try clear hb); (try clear hb2); (try clear hk); (try clear hi)) | ((with_reducible refine gate_callee (f := 31) rfl ?_); refine goesL_ (some 13) rfl rfl Tryd.func31 (by kernel_rfl) rfl #[.int .u8 a0] rfl (by (try simp only [List.map_toArray, List.map_cons, List.map_nil]); first | done | rfl | (simp only [List.length_drop, List.length_take]; rfl)) ?_; (with_reducible refine (isa80_Args.calls k a0 t557 _ A3.out (by first | exact hT | exact tabs_below hT (by repeat (first | (with_reducible first | exact HB.out | apply below_alloc | apply pw_below_drewN | apply below_drew1) | exact HB.out)) | (repeat (first | exact hT | apply tabs_alloc | apply tabs_drewN | apply tabs_drew)))).mono ?_); rintro e w7 ⟨v558, rfl, ho0, hb⟩; refine ⟨_, rfl, ?_⟩; have n0_ := Aside0.mk (Kd.Q_lower ho0 (below_size (by repeat (first | (with_reducible first | exact HB.out | apply below_alloc | apply pw_below_drewN | apply below_drew1) | exact HB.out)))); have n1_ := Aside0.mk (below_step (by repeat (first | (with_reducible first | exact HB.out | apply below_alloc | apply pw_below_drewN | apply below_drew1) | exact HB.out)) hb); clear HB; have HO559 := n0_; have HB := n1_; clear n0_ n1_; (try clear hb); (try clear hb2); (try clear hk); (try clear hi); (try clear ho0)) | ((with_reducible refine gate_callee (f := 19) rfl ?_); refine goesL_ (some 15) rfl rfl Tryd.func19 (by kernel_rfl) rfl #[.int .u8 a0] rfl (by (try simp only [List.map_toArray, List.map_cons, List.map_nil]); first | done | rfl | (simp only [List.length_drop, List.length_take]; rfl)) ?_; (with_reducible refine (isa80_Cond.calls a0 t560 _ A4.out (by first | exact hT | exact tabs_below hT (by repeat (first | (with_reducible first | exact HB.out | apply below_alloc | apply pw_below_drewN | apply below_drew1) | exact HB.out)) | (repeat (first | exact hT | apply tabs_alloc | apply tabs_drewN | apply tabs_drew)))).mono ?_); rintro e w' ⟨rfl, ⟨nd, rfl⟩⟩; refine ⟨_, rfl, ?_⟩))
    go_ret
    exact ⟨_, by first | rfl | (simp [errW_none, errW_some] <;> rfl) | (simp [*, errW_none, errW_some] <;> rfl), by first | exact Kd.R_nil _ _ _ _ _ | exact Kd.N_nil _ _ _ _ _ | exact Kd.V_nil _ _ _ _ _ | exact Kd.Q_nil _ _ _ _ _ | exact Kd.S_nil _ _ _ _ _, by repeat (first | (with_reducible first | exact HB.out | apply below_alloc | apply pw_below_drewN | apply below_drew1) | exact HB.out)⟩
  · rw [if_neg c5] at H
    have c5b0 : (t556.toList == ([] : List UInt8)) = false := beq_eq_false_iff_ne.mpr c5
    have c5b1 : (t556.toList != ([] : List UInt8)) = true := bne_iff_ne.mpr c5
    by_cases c8 : t560 ≥ 0
    · rw [if_pos c8] at H
      have c8b0 : decide (0 ≤ t560) = true := decide_eq_true c8
      clear c8
      replace H := Option.bind_eq_some_iff.mp H
      obtain ⟨t561, A90, H⟩ := H
      replace H : (if 0 ≤ t560 then (if t560 < (t561.length : Int) then (if 0 < (t556.size : Int) then (if (bt t556 0) = 82 then ((zilog_words.f (([(⟨#[82, 69, 84]⟩ : ByteArray), rdOf ByteArray.empty t561 t560] : List ByteArray))).bind fun t568 => (some t568)) else (if (bt t556 0) = 74 then ((zilog_words.f (([(⟨#[74, 80]⟩ : ByteArray), rdOf ByteArray.empty t561 t560, (⟨#[110, 110]⟩ : ByteArray)] : List ByteArray))).bind fun t574 => (some t574)) else ((zilog_words.f (([(⟨#[67, 65, 76, 76]⟩ : ByteArray), rdOf ByteArray.empty t561 t560, (⟨#[110, 110]⟩ : ByteArray)] : List ByteArray))).bind fun t580 => (some t580)))) else (none)) else (none)) else (none)) = some r := H
      have A9 := Aside0.mk A90
      clear A90
      by_cases c10 : 0 ≤ t560
      · rw [if_pos c10] at H
        have c10b0 : decide (0 ≤ t560) = true := decide_eq_true c10
        clear c10
        by_cases c11 : t560 < (t561.length : Int)
        · rw [if_pos c11] at H
          have c11b0 : decide (t560 < (t561.length : Int)) = true := decide_eq_true c11
          clear c11
          by_cases c12 : 0 < (t556.size : Int)
          · rw [if_pos c12] at H
            have c12b0 : decide (0 < (t556.size : Int)) = true := decide_eq_true c12
            have c12b1 : decide (0 < t556.size) = true := decide_eq_true (by omega)
            clear c12
            by_cases c14 : (bt t556 0) = 82
            · rw [if_pos c14] at H
              have c14b0 : ((bt t556 0) == 82) = true := beq_iff_eq.mpr c14
              have c14b1 : ((bt t556 0) != 82) = false := bne_eq_false_iff_eq.mpr c14
              clear c14
              obtain ⟨y565, hy565⟩ : ∃ y_ : List ByteArray, y_ = (([(⟨#[82, 69, 84]⟩ : ByteArray), rdOf ByteArray.empty t561 t560] : List ByteArray)) := ⟨_, rfl⟩
              replace H : ((zilog_words.f y565).bind fun t568 => (some t568)) = some r := by first | (rw [hy565]; with_reducible exact H) | (have H2_ := (Option.bind_some _ _).symm.trans H; rw [hy565]; with_reducible exact H2_) | (have H2_ := (Option.bind_some _ _).symm.trans H; with_reducible exact H2_) | with_reducible exact H | (rw [hy565]; exact H) | exact H
              have Ny565 := Aside0.mk hy565
              clear hy565
              replace H := Option.bind_eq_some_iff.mp H
              obtain ⟨t568, A150, H⟩ := H
              replace H : (some t568) = some r := H
              have A15 := Aside0.mk A150
              clear A150
              obtain rfl := Option.some.inj H
              go_enter Tryd.func22, Tryd.ntmps22
              go_wp2_with (first | ((with_reducible refine gate_callee (f := 18) rfl ?_); refine goesL_ (some 11) rfl rfl Tryd.func18 (by kernel_rfl) rfl #[.int .u8 a0] rfl (by (try simp only [List.map_toArray, List.map_cons, List.map_nil]); first | done | rfl | (simp only [List.length_drop, List.length_take]; rfl)) ?_; (with_reducible refine (isa80_Name.calls k a0 t556 _ A2.out (by first | exact hT | exact tabs_below hT (by repeat (first | (with_reducible first | exact HB.out | apply below_alloc | apply pw_below_drewN | apply below_drew1) | exact HB.out)) | (repeat (first | exact hT | apply tabs_alloc | apply tabs_drewN | apply tabs_drew)))).mono ?_); rintro e w16 ⟨rfl, hb⟩; refine ⟨_, rfl, ?_⟩; have n0_ := Aside0.mk (below_step (by repeat (first | (with_reducible first | exact HB.out | apply below_alloc | apply pw_below_drewN | apply below_drew1) | exact HB.out)) hb); clear HB; have HB := n0_; clear n0_; (try clear hb); (try clear hb2); (try clear hk); (try clear hi)) | ((with_reducible refine gate_callee (f := 31) rfl ?_); refine goesL_ (some 13) rfl rfl Tryd.func31 (by kernel_rfl) rfl #[.int .u8 a0] rfl (by (try simp only [List.map_toArray, List.map_cons, List.map_nil]); first | done | rfl | (simp only [List.length_drop, List.length_take]; rfl)) ?_; (with_reducible refine (isa80_Args.calls k a0 t557 _ A3.out (by first | exact hT | exact tabs_below hT (by repeat (first | (with_reducible first | exact HB.out | apply below_alloc | apply pw_below_drewN | apply below_drew1) | exact HB.out)) | (repeat (first | exact hT | apply tabs_alloc | apply tabs_drewN | apply tabs_drew)))).mono ?_); rintro e w17 ⟨v558, rfl, ho0, hb⟩; refine ⟨_, rfl, ?_⟩; have n0_ := Aside0.mk (Kd.Q_lower ho0 (below_size (by repeat (first | (with_reducible first | exact HB.out | apply below_alloc | apply pw_below_drewN | apply below_drew1) | exact HB.out)))); have n1_ := Aside0.mk (below_step (by repeat (first | (with_reducible first | exact HB.out | apply below_alloc | apply pw_below_drewN | apply below_drew1) | exact HB.out)) hb); clear HB; have HO559 := n0_; have HB := n1_; clear n0_ n1_; (try clear hb); (try clear hb2); (try clear hk); (try clear hi); (try clear ho0)) | ((with_reducible refine gate_callee (f := 19) rfl ?_); refine goesL_ (some 15) rfl rfl Tryd.func19 (by kernel_rfl) rfl #[.int .u8 a0] rfl (by (try simp only [List.map_toArray, List.map_cons, List.map_nil]); first | done | rfl | (simp only [List.length_drop, List.length_take]; rfl)) ?_; (with_reducible refine (isa80_Cond.calls a0 t560 _ A4.out (by first | exact hT | exact tabs_below hT (by repeat (first | (with_reducible first | exact HB.out | apply below_alloc | apply pw_below_drewN | apply below_drew1) | exact HB.out)) | (repeat (first | exact hT | apply tabs_alloc | apply tabs_drewN | apply tabs_drew)))).mono ?_); rintro e w' ⟨rfl, ⟨nd, rfl⟩⟩; refine ⟨_, rfl, ?_⟩) | ((with_reducible refine gate_callee (f := 32) rfl ?_); refine goesL_ (some 22) rfl rfl Tryd.func32 (by kernel_rfl) rfl #[.string (⟨#[78, 90, 32, 90, 32, 78, 67, 32, 67, 32, 80, 79, 32, 80, 69, 32, 80, 32, 77]⟩ : ByteArray)] rfl (by (try simp only [List.map_toArray, List.map_cons, List.map_nil]); first | done | rfl | (simp only [List.length_drop, List.length_take]; rfl)) ?_; (with_reducible refine (strings_Fields.calls (⟨#[78, 90, 32, 90, 32, 78, 67, 32, 67, 32, 80, 79, 32, 80, 69, 32, 80, 32, 77]⟩ : ByteArray) t561 _ A9.out (by first | exact hT | exact tabs_below hT (by repeat (first | (with_reducible first | exact HB.out | apply below_alloc | apply pw_below_drewN | apply below_drew1) | exact HB.out)) | (repeat (first | exact hT | apply tabs_alloc | apply tabs_drewN | apply tabs_drew)))).mono ?_); rintro e w18 ⟨v562, rfl, ho0, hb⟩; refine ⟨_, rfl, ?_⟩; have n0_ := Aside0.mk (Kd.Q_elder' (by (with_reducible repeat (first | apply Kd.Q_alloc | apply Kd.Q_drewN | apply Kd.Q_drew)); exact HO559.out) (Kd.R_base ho0) hb); have n1_ := Aside0.mk (Kd.R_lower (Kd.R_new' ho0 (Kd.Q_lt (by (with_reducible repeat (first | apply Kd.Q_alloc | apply Kd.Q_drewN | apply Kd.Q_drew)); exact HO559.out))) (below_size (by repeat (first | (with_reducible first | exact HB.out | apply below_alloc | apply pw_below_drewN | apply below_drew1) | exact HB.out)))); have n2_ := Aside0.mk (below_step (by repeat (first | (with_reducible first | exact HB.out | apply below_alloc | apply pw_below_drewN | apply below_drew1) | exact HB.out)) hb); clear HO559; clear HB; have HO559 := n0_; have HO563 := n1_; have HB := n2_; clear n0_ n1_ n2_; (try clear hb); (try clear hb2); (try clear hk); (try clear hi); (try clear ho0); obtain ⟨Ao19, co19, eo19⟩ := Kd.R_slice HO563.out; subst eo19; have p564 : 0 ≤ (t560 : Int) := of_decide_eq_true (by first | (with_reducible assumption) | assumption); have q564 : t560 < (t561.length : Int) := of_decide_eq_true (by first | (with_reducible assumption) | assumption); obtain ⟨ad564, e564, hx564_0⟩ := Kd.at_string (Kd.R_reads' HO563.out).2.2 t560 p564 q564; cases e564; replace p564 := eq_true p564; replace q564 := eq_true q564; have p13 : 0 ≤ (0 : Int) := (by omega); have q13 : 0 < t556.size := (by have : (0 : Int) < (t556.size : Int) := of_decide_eq_true (by first | (with_reducible assumption) | assumption); omega); have hx13 : ∀ h : 0 < t556.size, ((t556[0]'h).toNat : Int) = bt t556 0 := bt_at t556 0; clear p13; have qi13 : (0 < (t556.size : Int)) = True := eq_true (of_decide_eq_true (by first | (with_reducible assumption) | assumption)); replace q13 := eq_true q13) | ((with_reducible refine gate_dst (N := 31) rfl ?_); refine Kd.R_lit Kd.string _ 9 ?hg (N := 31) ?hd (xs := ([(⟨#[82, 69, 84]⟩ : ByteArray), rdOf ByteArray.empty t561 t560] : List ByteArray)) (inner := [.string (⟨#[82, 69, 84]⟩ : ByteArray), .string (rdOf ByteArray.empty t561 t560)]) (ok := fun _ => True) (okp := fun _ => True) ?hr ?hp (fun _ hk => hk) trivial (Below.refl _ _) (Nat.le_refl _) (by simp) ?_; (case hd => rfl); (case hg => rfl); (case hr => first | (go_simp; done) | (go_simp; rfl)); (case hp => exact (Reps.one (show Kd.M Kd.string _ _ _ (⟨#[82, 69, 84]⟩ : ByteArray) [.string (⟨#[82, 69, 84]⟩ : ByteArray)] from rfl) (Reps.one (show Kd.M Kd.string _ _ _ (rdOf ByteArray.empty t561 t560) [.string (rdOf ByteArray.empty t561 t560)] from rfl) (Reps.none _ _)))); intro v566 w20 ho21 hb hg_ hnew_; clear hg_ hnew_; (first | rw [← Ny565.out] at ho21 | (simp only [Int.reduceToNat] at ho21; rw [← Ny565.out] at ho21)); have n0_ := Aside0.mk (Kd.Q_elder' (by (with_reducible repeat (first | apply Kd.Q_alloc | apply Kd.Q_drewN | apply Kd.Q_drew)); exact HO559.out) (Kd.R_base ho21) hb); have n1_ := Aside0.mk (Kd.R_elder' (by (with_reducible repeat (first | apply Kd.R_alloc | apply Kd.R_drewN | apply Kd.R_drew)); exact HO563.out) (Kd.R_base ho21) hb); have n2_ := Aside0.mk (Kd.R_lower (Kd.R_new' (Kd.R_new' ho21 (Kd.Q_lt (by (with_reducible repeat (first | apply Kd.Q_alloc | apply Kd.Q_drewN | apply Kd.Q_drew)); exact HO559.out))) (Kd.R_lt (by (with_reducible repeat (first | apply Kd.R_alloc | apply Kd.R_drewN | apply Kd.R_drew)); exact HO563.out))) (below_size (by repeat (first | (with_reducible first | exact HB.out | apply below_alloc | apply pw_below_drewN | apply below_drew1) | exact HB.out)))); have n3_ := Aside0.mk (below_step (by repeat (first | (with_reducible first | exact HB.out | apply below_alloc | apply pw_below_drewN | apply below_drew1) | exact HB.out)) hb); clear HO559; clear HO563; clear HB; have HO559 := n0_; have HO563 := n1_; have HO567 := n2_; have HB := n3_; clear n0_ n1_ n2_ n3_; clear hb ho21; obtain ⟨Ao22, co22, eo22⟩ := Kd.R_slice HO567.out; subst eo22) | ((with_reducible refine gate_callee (f := 33) rfl ?_); refine goesL_ (some 32) rfl rfl Tryd.func33 (by kernel_rfl) rfl #[.slice Ao22 y565.length co22] rfl (by (try simp only [List.map_toArray, List.map_cons, List.map_nil]); first | done | rfl | (simp only [List.length_drop, List.length_take]; rfl)) ?_; (with_reducible refine (zilog_words.calls (fun k_ => some k_ = (.slice Ao22 y565.length co22 : Value).ownBlock) (.slice Ao22 y565.length co22) y565 t568 w _ ?side1 ?side2 A15.out (by first | exact hT | exact tabs_below hT (by repeat (first | (with_reducible first | exact HB.out | apply below_alloc | apply pw_below_drewN | apply below_drew1) | exact HB.out)) | (repeat (first | exact hT | apply tabs_alloc | apply tabs_drewN | apply tabs_drew)))).mono ?_); (case side1 => repeat (first | (with_reducible first | exact HB.out | apply below_alloc | apply pw_below_drewN | apply below_drew1) | exact HB.out)); (case side2 => exact Kd.R_tight rfl HO567.out); rintro e w23 ⟨v569, rfl, ho0, hb, hkp⟩; refine ⟨_, rfl, ?_⟩; have n0_ := Aside0.mk (Kd.Q_mono (ok' := fun k_ => some k_ ≠ (.slice (some ad564) t561.length co19 : Value).ownBlock ∧ some k_ ≠ (v569 : Value).ownBlock) (Kd.Q_keptB (HO559.out) hkp (fun k_ hk_ hs_ => (hk_.2) hs_)) (fun k_ hk_ => ⟨hk_.1.1.2, fun e_ => Or.elim (ho0.1 k_ e_.symm) (fun hs_ => hk_.2.1 hs_) (fun hn_ => Nat.not_le.2 hk_.2.2 hn_)⟩)); have n1_ := Aside0.mk (Kd.R_mono (ok' := fun k_ => some k_ ≠ (v558 : Value).ownBlock ∧ some k_ ≠ (v569 : Value).ownBlock) (Kd.R_keptB (HO563.out) hkp (fun k_ hk_ hs_ => (hk_.2) hs_)) (fun k_ hk_ => ⟨hk_.1.1.2, fun e_ => Or.elim (ho0.1 k_ e_.symm) (fun hs_ => hk_.2.1 hs_) (fun hn_ => Nat.not_le.2 hk_.2.2 hn_)⟩)); have n2_ := Aside0.mk (Kd.R_mono (ok' := fun k_ => some k_ ≠ (v558 : Value).ownBlock ∧ some k_ ≠ (.slice (some ad564) t561.length co19 : Value).ownBlock) ho0 (fun k_ hk_ => ⟨Or.elim hk_ (fun hs_ => fun e_ => (((HO559.out).1 k_ e_.symm).2) hs_) (fun hn_ => (Kd.fresh' (Kd.Q_lt (by (with_reducible repeat (first | apply Kd.Q_alloc | apply Kd.Q_drewN | apply Kd.Q_drew)); exact HO559.out)) k_ hn_)), Or.elim hk_ (fun hs_ => fun e_ => (((HO563.out).1 k_ e_.symm).2) hs_) (fun hn_ => (Kd.fresh' (Kd.R_lt (by (with_reducible repeat (first | apply Kd.R_alloc | apply Kd.R_drewN | apply Kd.R_drew)); exact HO563.out)) k_ hn_))⟩)); have n3_ := Aside0.mk (hb); clear HO559; clear HO563; clear HB; clear HO567; have HO559 := n0_; have HO563 := n1_; have HO570 := n2_; have HB := n3_; clear n0_ n1_ n2_ n3_; (try clear hb); (try clear hkp); (try clear ho0)))
              go_ret
              exact ⟨_, by first | rfl | (simp [errW_none, errW_some] <;> rfl) | (simp [*, errW_none, errW_some] <;> rfl), by (with_reducible repeat (first | apply Kd.R_alloc | apply Kd.R_drewN | apply Kd.R_drew)); exact Kd.R_mono HO570.out (fun _ hk => trivial), by repeat (first | (with_reducible first | exact HB.out | apply below_alloc | apply pw_below_drewN | apply below_drew1) | exact HB.out)⟩
            · rw [if_neg c14] at H
              have c14b0 : ((bt t556 0) == 82) = false := beq_eq_false_iff_ne.mpr c14
              have c14b1 : ((bt t556 0) != 82) = true := bne_iff_ne.mpr c14
              by_cases c24 : (bt t556 0) = 74
              · rw [if_pos c24] at H
                have c24b0 : ((bt t556 0) == 74) = true := beq_iff_eq.mpr c24
                have c24b1 : ((bt t556 0) != 74) = false := bne_eq_false_iff_eq.mpr c24
                clear c24
                obtain ⟨y571, hy571⟩ : ∃ y_ : List ByteArray, y_ = (([(⟨#[74, 80]⟩ : ByteArray), rdOf ByteArray.empty t561 t560, (⟨#[110, 110]⟩ : ByteArray)] : List ByteArray)) := ⟨_, rfl⟩
                replace H : ((zilog_words.f y571).bind fun t574 => (some t574)) = some r := by first | (rw [hy571]; with_reducible exact H) | (have H2_ := (Option.bind_some _ _).symm.trans H; rw [hy571]; with_reducible exact H2_) | (have H2_ := (Option.bind_some _ _).symm.trans H; with_reducible exact H2_) | with_reducible exact H | (rw [hy571]; exact H) | exact H
                have Ny571 := Aside0.mk hy571
                clear hy571
                replace H := Option.bind_eq_some_iff.mp H
                obtain ⟨t574, A250, H⟩ := H
                replace H : (some t574) = some r := H
                have A25 := Aside0.mk A250
                clear A250
                obtain rfl := Option.some.inj H
                go_enter Tryd.func22, Tryd.ntmps22
                go_wp2_with (first | ((with_reducible refine gate_callee (f := 18) rfl ?_); refine goesL_ (some 11) rfl rfl Tryd.func18 (by kernel_rfl) rfl #[.int .u8 a0] rfl (by (try simp only [List.map_toArray, List.map_cons, List.map_nil]); first | done | rfl | (simp only [List.length_drop, List.length_take]; rfl)) ?_; (with_reducible refine (isa80_Name.calls k a0 t556 _ A2.out (by first | exact hT | exact tabs_below hT (by repeat (first | (with_reducible first | exact HB.out | apply below_alloc | apply pw_below_drewN | apply below_drew1) | exact HB.out)) | (repeat (first | exact hT | apply tabs_alloc | apply tabs_drewN | apply tabs_drew)))).mono ?_); rintro e w26 ⟨rfl, hb⟩; refine ⟨_, rfl, ?_⟩; have n0_ := Aside0.mk (below_step (by repeat (first | (with_reducible first | exact HB.out | apply below_alloc | apply pw_below_drewN | apply below_drew1) | exact HB.out)) hb); clear HB; have HB := n0_; clear n0_; (try clear hb); (try clear hb2); (try clear hk); (try clear hi)) | ((with_reducible refine gate_callee (f := 31) rfl ?_); refine goesL_ (some 13) rfl rfl Tryd.func31 (by kernel_rfl) rfl #[.int .u8 a0] rfl (by (try simp only [List.map_toArray, List.map_cons, List.map_nil]); first | done | rfl | (simp only [List.length_drop, List.length_take]; rfl)) ?_; (with_reducible refine (isa80_Args.calls k a0 t557 _ A3.out (by first | exact hT | exact tabs_below hT (by repeat (first | (with_reducible first | exact HB.out | apply below_alloc | apply pw_below_drewN | apply below_drew1) | exact HB.out)) | (repeat (first | exact hT | apply tabs_alloc | apply tabs_drewN | apply tabs_drew)))).mono ?_); rintro e w27 ⟨v558, rfl, ho0, hb⟩; refine ⟨_, rfl, ?_⟩; have n0_ := Aside0.mk (Kd.Q_lower ho0 (below_size (by repeat (first | (with_reducible first | exact HB.out | apply below_alloc | apply pw_below_drewN | apply below_drew1) | exact HB.out)))); have n1_ := Aside0.mk (below_step (by repeat (first | (with_reducible first | exact HB.out | apply below_alloc | apply pw_below_drewN | apply below_drew1) | exact HB.out)) hb); clear HB; have HO559 := n0_; have HB := n1_; clear n0_ n1_; (try clear hb); (try clear hb2); (try clear hk); (try clear hi); (try clear ho0)) | ((with_reducible refine gate_callee (f := 19) rfl ?_); refine goesL_ (some 15) rfl rfl Tryd.func19 (by kernel_rfl) rfl #[.int .u8 a0] rfl (by (try simp only [List.map_toArray, List.map_cons, List.map_nil]); first | done | rfl | (simp only [List.length_drop, List.length_take]; rfl)) ?_; (with_reducible refine (isa80_Cond.calls a0 t560 _ A4.out (by first | exact hT | exact tabs_below hT (by repeat (first | (with_reducible first | exact HB.out | apply below_alloc | apply pw_below_drewN | apply below_drew1) | exact HB.out)) | (repeat (first | exact hT | apply tabs_alloc | apply tabs_drewN | apply tabs_drew)))).mono ?_); rintro e w' ⟨rfl, ⟨nd, rfl⟩⟩; refine ⟨_, rfl, ?_⟩) | ((with_reducible refine gate_callee (f := 32) rfl ?_); refine goesL_ (some 22) rfl rfl Tryd.func32 (by kernel_rfl) rfl #[.string (⟨#[78, 90, 32, 90, 32, 78, 67, 32, 67, 32, 80, 79, 32, 80, 69, 32, 80, 32, 77]⟩ : ByteArray)] rfl (by (try simp only [List.map_toArray, List.map_cons, List.map_nil]); first | done | rfl | (simp only [List.length_drop, List.length_take]; rfl)) ?_; (with_reducible refine (strings_Fields.calls (⟨#[78, 90, 32, 90, 32, 78, 67, 32, 67, 32, 80, 79, 32, 80, 69, 32, 80, 32, 77]⟩ : ByteArray) t561 _ A9.out (by first | exact hT | exact tabs_below hT (by repeat (first | (with_reducible first | exact HB.out | apply below_alloc | apply pw_below_drewN | apply below_drew1) | exact HB.out)) | (repeat (first | exact hT | apply tabs_alloc | apply tabs_drewN | apply tabs_drew)))).mono ?_); rintro e w28 ⟨v562, rfl, ho0, hb⟩; refine ⟨_, rfl, ?_⟩; have n0_ := Aside0.mk (Kd.Q_elder' (by (with_reducible repeat (first | apply Kd.Q_alloc | apply Kd.Q_drewN | apply Kd.Q_drew)); exact HO559.out) (Kd.R_base ho0) hb); have n1_ := Aside0.mk (Kd.R_lower (Kd.R_new' ho0 (Kd.Q_lt (by (with_reducible repeat (first | apply Kd.Q_alloc | apply Kd.Q_drewN | apply Kd.Q_drew)); exact HO559.out))) (below_size (by repeat (first | (with_reducible first | exact HB.out | apply below_alloc | apply pw_below_drewN | apply below_drew1) | exact HB.out)))); have n2_ := Aside0.mk (below_step (by repeat (first | (with_reducible first | exact HB.out | apply below_alloc | apply pw_below_drewN | apply below_drew1) | exact HB.out)) hb); clear HO559; clear HB; have HO559 := n0_; have HO563 := n1_; have HB := n2_; clear n0_ n1_ n2_; (try clear hb); (try clear hb2); (try clear hk); (try clear hi); (try clear ho0); obtain ⟨Ao29, co29, eo29⟩ := Kd.R_slice HO563.out; subst eo29; have p564 : 0 ≤ (t560 : Int) := of_decide_eq_true (by first | (with_reducible assumption) | assumption); have q564 : t560 < (t561.length : Int) := of_decide_eq_true (by first | (with_reducible assumption) | assumption); obtain ⟨ad564, e564, hx564_0⟩ := Kd.at_string (Kd.R_reads' HO563.out).2.2 t560 p564 q564; cases e564; replace p564 := eq_true p564; replace q564 := eq_true q564; have p13 : 0 ≤ (0 : Int) := (by omega); have q13 : 0 < t556.size := (by have : (0 : Int) < (t556.size : Int) := of_decide_eq_true (by first | (with_reducible assumption) | assumption); omega); have hx13 : ∀ h : 0 < t556.size, ((t556[0]'h).toNat : Int) = bt t556 0 := bt_at t556 0; clear p13; have qi13 : (0 < (t556.size : Int)) = True := eq_true (of_decide_eq_true (by first | (with_reducible assumption) | assumption)); replace q13 := eq_true q13) | ((with_reducible refine gate_dst (N := 36) rfl ?_); refine Kd.R_lit Kd.string _ 9 ?hg (N := 36) ?hd (xs := ([(⟨#[74, 80]⟩ : ByteArray), rdOf ByteArray.empty t561 t560, (⟨#[110, 110]⟩ : ByteArray)] : List ByteArray)) (inner := [.string (⟨#[74, 80]⟩ : ByteArray), .string (rdOf ByteArray.empty t561 t560), .string (⟨#[110, 110]⟩ : ByteArray)]) (ok := fun _ => True) (okp := fun _ => True) ?hr ?hp (fun _ hk => hk) trivial (Below.refl _ _) (Nat.le_refl _) (by simp) ?_; (case hd => rfl); (case hg => rfl); (case hr => first | (go_simp; done) | (go_simp; rfl)); (case hp => exact (Reps.one (show Kd.M Kd.string _ _ _ (⟨#[74, 80]⟩ : ByteArray) [.string (⟨#[74, 80]⟩ : ByteArray)] from rfl) (Reps.one (show Kd.M Kd.string _ _ _ (rdOf ByteArray.empty t561 t560) [.string (rdOf ByteArray.empty t561 t560)] from rfl) (Reps.one (show Kd.M Kd.string _ _ _ (⟨#[110, 110]⟩ : ByteArray) [.string (⟨#[110, 110]⟩ : ByteArray)] from rfl) (Reps.none _ _))))); intro v572 w30 ho31 hb hg_ hnew_; clear hg_ hnew_; (first | rw [← Ny571.out] at ho31 | (simp only [Int.reduceToNat] at ho31; rw [← Ny571.out] at ho31)); have n0_ := Aside0.mk (Kd.Q_elder' (by (with_reducible repeat (first | apply Kd.Q_alloc | apply Kd.Q_drewN | apply Kd.Q_drew)); exact HO559.out) (Kd.R_base ho31) hb); have n1_ := Aside0.mk (Kd.R_elder' (by (with_reducible repeat (first | apply Kd.R_alloc | apply Kd.R_drewN | apply Kd.R_drew)); exact HO563.out) (Kd.R_base ho31) hb); have n2_ := Aside0.mk (Kd.R_lower (Kd.R_new' (Kd.R_new' ho31 (Kd.Q_lt (by (with_reducible repeat (first | apply Kd.Q_alloc | apply Kd.Q_drewN | apply Kd.Q_drew)); exact HO559.out))) (Kd.R_lt (by (with_reducible repeat (first | apply Kd.R_alloc | apply Kd.R_drewN | apply Kd.R_drew)); exact HO563.out))) (below_size (by repeat (first | (with_reducible first | exact HB.out | apply below_alloc | apply pw_below_drewN | apply below_drew1) | exact HB.out)))); have n3_ := Aside0.mk (below_step (by repeat (first | (with_reducible first | exact HB.out | apply below_alloc | apply pw_below_drewN | apply below_drew1) | exact HB.out)) hb); clear HO559; clear HO563; clear HB; have HO559 := n0_; have HO563 := n1_; have HO573 := n2_; have HB := n3_; clear n0_ n1_ n2_ n3_; clear hb ho31; obtain ⟨Ao32, co32, eo32⟩ := Kd.R_slice HO573.out; subst eo32) | ((with_reducible refine gate_callee (f := 33) rfl ?_); refine goesL_ (some 37) rfl rfl Tryd.func33 (by kernel_rfl) rfl #[.slice Ao32 y571.length co32] rfl (by (try simp only [List.map_toArray, List.map_cons, List.map_nil]); first | done | rfl | (simp only [List.length_drop, List.length_take]; rfl)) ?_; (with_reducible refine (zilog_words.calls (fun k_ => some k_ = (.slice Ao32 y571.length co32 : Value).ownBlock) (.slice Ao32 y571.length co32) y571 t574 w _ ?side1 ?side2 A25.out (by first | exact hT | exact tabs_below hT (by repeat (first | (with_reducible first | exact HB.out | apply below_alloc | apply pw_below_drewN | apply below_drew1) | exact HB.out)) | (repeat (first | exact hT | apply tabs_alloc | apply tabs_drewN | apply tabs_drew)))).mono ?_); (case side1 => repeat (first | (with_reducible first | exact HB.out | apply below_alloc | apply pw_below_drewN | apply below_drew1) | exact HB.out)); (case side2 => exact Kd.R_tight rfl HO573.out); rintro e w33 ⟨v575, rfl, ho0, hb, hkp⟩; refine ⟨_, rfl, ?_⟩; have n0_ := Aside0.mk (Kd.Q_mono (ok' := fun k_ => some k_ ≠ (.slice (some ad564) t561.length co29 : Value).ownBlock ∧ some k_ ≠ (v575 : Value).ownBlock) (Kd.Q_keptB (HO559.out) hkp (fun k_ hk_ hs_ => (hk_.2) hs_)) (fun k_ hk_ => ⟨hk_.1.1.2, fun e_ => Or.elim (ho0.1 k_ e_.symm) (fun hs_ => hk_.2.1 hs_) (fun hn_ => Nat.not_le.2 hk_.2.2 hn_)⟩)); have n1_ := Aside0.mk (Kd.R_mono (ok' := fun k_ => some k_ ≠ (v558 : Value).ownBlock ∧ some k_ ≠ (v575 : Value).ownBlock) (Kd.R_keptB (HO563.out) hkp (fun k_ hk_ hs_ => (hk_.2) hs_)) (fun k_ hk_ => ⟨hk_.1.1.2, fun e_ => Or.elim (ho0.1 k_ e_.symm) (fun hs_ => hk_.2.1 hs_) (fun hn_ => Nat.not_le.2 hk_.2.2 hn_)⟩)); have n2_ := Aside0.mk (Kd.R_mono (ok' := fun k_ => some k_ ≠ (v558 : Value).ownBlock ∧ some k_ ≠ (.slice (some ad564) t561.length co29 : Value).ownBlock) ho0 (fun k_ hk_ => ⟨Or.elim hk_ (fun hs_ => fun e_ => (((HO559.out).1 k_ e_.symm).2) hs_) (fun hn_ => (Kd.fresh' (Kd.Q_lt (by (with_reducible repeat (first | apply Kd.Q_alloc | apply Kd.Q_drewN | apply Kd.Q_drew)); exact HO559.out)) k_ hn_)), Or.elim hk_ (fun hs_ => fun e_ => (((HO563.out).1 k_ e_.symm).2) hs_) (fun hn_ => (Kd.fresh' (Kd.R_lt (by (with_reducible repeat (first | apply Kd.R_alloc | apply Kd.R_drewN | apply Kd.R_drew)); exact HO563.out)) k_ hn_))⟩)); have n3_ := Aside0.mk (hb); clear HO559; clear HO563; clear HB; clear HO573; have HO559 := n0_; have HO563 := n1_; have HO576 := n2_; have HB := n3_; clear n0_ n1_ n2_ n3_; (try clear hb); (try clear hkp); (try clear ho0)))
                go_ret
                exact ⟨_, by first | rfl | (simp [errW_none, errW_some] <;> rfl) | (simp [*, errW_none, errW_some] <;> rfl), by (with_reducible repeat (first | apply Kd.R_alloc | apply Kd.R_drewN | apply Kd.R_drew)); exact Kd.R_mono HO576.out (fun _ hk => trivial), by repeat (first | (with_reducible first | exact HB.out | apply below_alloc | apply pw_below_drewN | apply below_drew1) | exact HB.out)⟩
              · rw [if_neg c24] at H
                have c24b0 : ((bt t556 0) == 74) = false := beq_eq_false_iff_ne.mpr c24
                have c24b1 : ((bt t556 0) != 74) = true := bne_iff_ne.mpr c24
                obtain ⟨y577, hy577⟩ : ∃ y_ : List ByteArray, y_ = (([(⟨#[67, 65, 76, 76]⟩ : ByteArray), rdOf ByteArray.empty t561 t560, (⟨#[110, 110]⟩ : ByteArray)] : List ByteArray)) := ⟨_, rfl⟩
                replace H : ((zilog_words.f y577).bind fun t580 => (some t580)) = some r := by first | (rw [hy577]; with_reducible exact H) | (have H2_ := (Option.bind_some _ _).symm.trans H; rw [hy577]; with_reducible exact H2_) | (have H2_ := (Option.bind_some _ _).symm.trans H; with_reducible exact H2_) | with_reducible exact H | (rw [hy577]; exact H) | exact H
                have Ny577 := Aside0.mk hy577
                clear hy577
                replace H := Option.bind_eq_some_iff.mp H
                obtain ⟨t580, A340, H⟩ := H
                replace H : (some t580) = some r := H
                have A34 := Aside0.mk A340
                clear A340
                obtain rfl := Option.some.inj H
                go_enter Tryd.func22, Tryd.ntmps22
                go_wp2_with (first | ((with_reducible refine gate_callee (f := 18) rfl ?_); refine goesL_ (some 11) rfl rfl Tryd.func18 (by kernel_rfl) rfl #[.int .u8 a0] rfl (by (try simp only [List.map_toArray, List.map_cons, List.map_nil]); first | done | rfl | (simp only [List.length_drop, List.length_take]; rfl)) ?_; (with_reducible refine (isa80_Name.calls k a0 t556 _ A2.out (by first | exact hT | exact tabs_below hT (by repeat (first | (with_reducible first | exact HB.out | apply below_alloc | apply pw_below_drewN | apply below_drew1) | exact HB.out)) | (repeat (first | exact hT | apply tabs_alloc | apply tabs_drewN | apply tabs_drew)))).mono ?_); rintro e w35 ⟨rfl, hb⟩; refine ⟨_, rfl, ?_⟩; have n0_ := Aside0.mk (below_step (by repeat (first | (with_reducible first | exact HB.out | apply below_alloc | apply pw_below_drewN | apply below_drew1) | exact HB.out)) hb); clear HB; have HB := n0_; clear n0_; (try clear hb); (try clear hb2); (try clear hk); (try clear hi)) | ((with_reducible refine gate_callee (f := 31) rfl ?_); refine goesL_ (some 13) rfl rfl Tryd.func31 (by kernel_rfl) rfl #[.int .u8 a0] rfl (by (try simp only [List.map_toArray, List.map_cons, List.map_nil]); first | done | rfl | (simp only [List.length_drop, List.length_take]; rfl)) ?_; (with_reducible refine (isa80_Args.calls k a0 t557 _ A3.out (by first | exact hT | exact tabs_below hT (by repeat (first | (with_reducible first | exact HB.out | apply below_alloc | apply pw_below_drewN | apply below_drew1) | exact HB.out)) | (repeat (first | exact hT | apply tabs_alloc | apply tabs_drewN | apply tabs_drew)))).mono ?_); rintro e w36 ⟨v558, rfl, ho0, hb⟩; refine ⟨_, rfl, ?_⟩; have n0_ := Aside0.mk (Kd.Q_lower ho0 (below_size (by repeat (first | (with_reducible first | exact HB.out | apply below_alloc | apply pw_below_drewN | apply below_drew1) | exact HB.out)))); have n1_ := Aside0.mk (below_step (by repeat (first | (with_reducible first | exact HB.out | apply below_alloc | apply pw_below_drewN | apply below_drew1) | exact HB.out)) hb); clear HB; have HO559 := n0_; have HB := n1_; clear n0_ n1_; (try clear hb); (try clear hb2); (try clear hk); (try clear hi); (try clear ho0)) | ((with_reducible refine gate_callee (f := 19) rfl ?_); refine goesL_ (some 15) rfl rfl Tryd.func19 (by kernel_rfl) rfl #[.int .u8 a0] rfl (by (try simp only [List.map_toArray, List.map_cons, List.map_nil]); first | done | rfl | (simp only [List.length_drop, List.length_take]; rfl)) ?_; (with_reducible refine (isa80_Cond.calls a0 t560 _ A4.out (by first | exact hT | exact tabs_below hT (by repeat (first | (with_reducible first | exact HB.out | apply below_alloc | apply pw_below_drewN | apply below_drew1) | exact HB.out)) | (repeat (first | exact hT | apply tabs_alloc | apply tabs_drewN | apply tabs_drew)))).mono ?_); rintro e w' ⟨rfl, ⟨nd, rfl⟩⟩; refine ⟨_, rfl, ?_⟩) | ((with_reducible refine gate_callee (f := 32) rfl ?_); refine goesL_ (some 22) rfl rfl Tryd.func32 (by kernel_rfl) rfl #[.string (⟨#[78, 90, 32, 90, 32, 78, 67, 32, 67, 32, 80, 79, 32, 80, 69, 32, 80, 32, 77]⟩ : ByteArray)] rfl (by (try simp only [List.map_toArray, List.map_cons, List.map_nil]); first | done | rfl | (simp only [List.length_drop, List.length_take]; rfl)) ?_; (with_reducible refine (strings_Fields.calls (⟨#[78, 90, 32, 90, 32, 78, 67, 32, 67, 32, 80, 79, 32, 80, 69, 32, 80, 32, 77]⟩ : ByteArray) t561 _ A9.out (by first | exact hT | exact tabs_below hT (by repeat (first | (with_reducible first | exact HB.out | apply below_alloc | apply pw_below_drewN | apply below_drew1) | exact HB.out)) | (repeat (first | exact hT | apply tabs_alloc | apply tabs_drewN | apply tabs_drew)))).mono ?_); rintro e w37 ⟨v562, rfl, ho0, hb⟩; refine ⟨_, rfl, ?_⟩; have n0_ := Aside0.mk (Kd.Q_elder' (by (with_reducible repeat (first | apply Kd.Q_alloc | apply Kd.Q_drewN | apply Kd.Q_drew)); exact HO559.out) (Kd.R_base ho0) hb); have n1_ := Aside0.mk (Kd.R_lower (Kd.R_new' ho0 (Kd.Q_lt (by (with_reducible repeat (first | apply Kd.Q_alloc | apply Kd.Q_drewN | apply Kd.Q_drew)); exact HO559.out))) (below_size (by repeat (first | (with_reducible first | exact HB.out | apply below_alloc | apply pw_below_drewN | apply below_drew1) | exact HB.out)))); have n2_ := Aside0.mk (below_step (by repeat (first | (with_reducible first | exact HB.out | apply below_alloc | apply pw_below_drewN | apply below_drew1) | exact HB.out)) hb); clear HO559; clear HB; have HO559 := n0_; have HO563 := n1_; have HB := n2_; clear n0_ n1_ n2_; (try clear hb); (try clear hb2); (try clear hk); (try clear hi); (try clear ho0); obtain ⟨Ao38, co38, eo38⟩ := Kd.R_slice HO563.out; subst eo38; have p564 : 0 ≤ (t560 : Int) := of_decide_eq_true (by first | (with_reducible assumption) | assumption); have q564 : t560 < (t561.length : Int) := of_decide_eq_true (by first | (with_reducible assumption) | assumption); obtain ⟨ad564, e564, hx564_0⟩ := Kd.at_string (Kd.R_reads' HO563.out).2.2 t560 p564 q564; cases e564; replace p564 := eq_true p564; replace q564 := eq_true q564; have p13 : 0 ≤ (0 : Int) := (by omega); have q13 : 0 < t556.size := (by have : (0 : Int) < (t556.size : Int) := of_decide_eq_true (by first | (with_reducible assumption) | assumption); omega); have hx13 : ∀ h : 0 < t556.size, ((t556[0]'h).toNat : Int) = bt t556 0 := bt_at t556 0; clear p13; have qi13 : (0 < (t556.size : Int)) = True := eq_true (of_decide_eq_true (by first | (with_reducible assumption) | assumption)); replace q13 := eq_true q13) | ((with_reducible refine gate_dst (N := 39) rfl ?_); refine Kd.R_lit Kd.string _ 9 ?hg (N := 39) ?hd (xs := ([(⟨#[67, 65, 76, 76]⟩ : ByteArray), rdOf ByteArray.empty t561 t560, (⟨#[110, 110]⟩ : ByteArray)] : List ByteArray)) (inner := [.string (⟨#[67, 65, 76, 76]⟩ : ByteArray), .string (rdOf ByteArray.empty t561 t560), .string (⟨#[110, 110]⟩ : ByteArray)]) (ok := fun _ => True) (okp := fun _ => True) ?hr ?hp (fun _ hk => hk) trivial (Below.refl _ _) (Nat.le_refl _) (by simp) ?_; (case hd => rfl); (case hg => rfl); (case hr => first | (go_simp; done) | (go_simp; rfl)); (case hp => exact (Reps.one (show Kd.M Kd.string _ _ _ (⟨#[67, 65, 76, 76]⟩ : ByteArray) [.string (⟨#[67, 65, 76, 76]⟩ : ByteArray)] from rfl) (Reps.one (show Kd.M Kd.string _ _ _ (rdOf ByteArray.empty t561 t560) [.string (rdOf ByteArray.empty t561 t560)] from rfl) (Reps.one (show Kd.M Kd.string _ _ _ (⟨#[110, 110]⟩ : ByteArray) [.string (⟨#[110, 110]⟩ : ByteArray)] from rfl) (Reps.none _ _))))); intro v578 w39 ho40 hb hg_ hnew_; clear hg_ hnew_; (first | rw [← Ny577.out] at ho40 | (simp only [Int.reduceToNat] at ho40; rw [← Ny577.out] at ho40)); have n0_ := Aside0.mk (Kd.Q_elder' (by (with_reducible repeat (first | apply Kd.Q_alloc | apply Kd.Q_drewN | apply Kd.Q_drew)); exact HO559.out) (Kd.R_base ho40) hb); have n1_ := Aside0.mk (Kd.R_elder' (by (with_reducible repeat (first | apply Kd.R_alloc | apply Kd.R_drewN | apply Kd.R_drew)); exact HO563.out) (Kd.R_base ho40) hb); have n2_ := Aside0.mk (Kd.R_lower (Kd.R_new' (Kd.R_new' ho40 (Kd.Q_lt (by (with_reducible repeat (first | apply Kd.Q_alloc | apply Kd.Q_drewN | apply Kd.Q_drew)); exact HO559.out))) (Kd.R_lt (by (with_reducible repeat (first | apply Kd.R_alloc | apply Kd.R_drewN | apply Kd.R_drew)); exact HO563.out))) (below_size (by repeat (first | (with_reducible first | exact HB.out | apply below_alloc | apply pw_below_drewN | apply below_drew1) | exact HB.out)))); have n3_ := Aside0.mk (below_step (by repeat (first | (with_reducible first | exact HB.out | apply below_alloc | apply pw_below_drewN | apply below_drew1) | exact HB.out)) hb); clear HO559; clear HO563; clear HB; have HO559 := n0_; have HO563 := n1_; have HO579 := n2_; have HB := n3_; clear n0_ n1_ n2_ n3_; clear hb ho40; obtain ⟨Ao41, co41, eo41⟩ := Kd.R_slice HO579.out; subst eo41) | ((with_reducible refine gate_callee (f := 33) rfl ?_); refine goesL_ (some 40) rfl rfl Tryd.func33 (by kernel_rfl) rfl #[.slice Ao41 y577.length co41] rfl (by (try simp only [List.map_toArray, List.map_cons, List.map_nil]); first | done | rfl | (simp only [List.length_drop, List.length_take]; rfl)) ?_; (with_reducible refine (zilog_words.calls (fun k_ => some k_ = (.slice Ao41 y577.length co41 : Value).ownBlock) (.slice Ao41 y577.length co41) y577 t580 w _ ?side1 ?side2 A34.out (by first | exact hT | exact tabs_below hT (by repeat (first | (with_reducible first | exact HB.out | apply below_alloc | apply pw_below_drewN | apply below_drew1) | exact HB.out)) | (repeat (first | exact hT | apply tabs_alloc | apply tabs_drewN | apply tabs_drew)))).mono ?_); (case side1 => repeat (first | (with_reducible first | exact HB.out | apply below_alloc | apply pw_below_drewN | apply below_drew1) | exact HB.out)); (case side2 => exact Kd.R_tight rfl HO579.out); rintro e w42 ⟨v581, rfl, ho0, hb, hkp⟩; refine ⟨_, rfl, ?_⟩; have n0_ := Aside0.mk (Kd.Q_mono (ok' := fun k_ => some k_ ≠ (.slice (some ad564) t561.length co38 : Value).ownBlock ∧ some k_ ≠ (v581 : Value).ownBlock) (Kd.Q_keptB (HO559.out) hkp (fun k_ hk_ hs_ => (hk_.2) hs_)) (fun k_ hk_ => ⟨hk_.1.1.2, fun e_ => Or.elim (ho0.1 k_ e_.symm) (fun hs_ => hk_.2.1 hs_) (fun hn_ => Nat.not_le.2 hk_.2.2 hn_)⟩)); have n1_ := Aside0.mk (Kd.R_mono (ok' := fun k_ => some k_ ≠ (v558 : Value).ownBlock ∧ some k_ ≠ (v581 : Value).ownBlock) (Kd.R_keptB (HO563.out) hkp (fun k_ hk_ hs_ => (hk_.2) hs_)) (fun k_ hk_ => ⟨hk_.1.1.2, fun e_ => Or.elim (ho0.1 k_ e_.symm) (fun hs_ => hk_.2.1 hs_) (fun hn_ => Nat.not_le.2 hk_.2.2 hn_)⟩)); have n2_ := Aside0.mk (Kd.R_mono (ok' := fun k_ => some k_ ≠ (v558 : Value).ownBlock ∧ some k_ ≠ (.slice (some ad564) t561.length co38 : Value).ownBlock) ho0 (fun k_ hk_ => ⟨Or.elim hk_ (fun hs_ => fun e_ => (((HO559.out).1 k_ e_.symm).2) hs_) (fun hn_ => (Kd.fresh' (Kd.Q_lt (by (with_reducible repeat (first | apply Kd.Q_alloc | apply Kd.Q_drewN | apply Kd.Q_drew)); exact HO559.out)) k_ hn_)), Or.elim hk_ (fun hs_ => fun e_ => (((HO563.out).1 k_ e_.symm).2) hs_) (fun hn_ => (Kd.fresh' (Kd.R_lt (by (with_reducible repeat (first | apply Kd.R_alloc | apply Kd.R_drewN | apply Kd.R_drew)); exact HO563.out)) k_ hn_))⟩)); have n3_ := Aside0.mk (hb); clear HO559; clear HO563; clear HB; clear HO579; have HO559 := n0_; have HO563 := n1_; have HO582 := n2_; have HB := n3_; clear n0_ n1_ n2_ n3_; (try clear hb); (try clear hkp); (try clear ho0)))
                go_ret
                exact ⟨_, by first | rfl | (simp [errW_none, errW_some] <;> rfl) | (simp [*, errW_none, errW_some] <;> rfl), by (with_reducible repeat (first | apply Kd.R_alloc | apply Kd.R_drewN | apply Kd.R_drew)); exact Kd.R_mono HO582.out (fun _ hk => trivial), by repeat (first | (with_reducible first | exact HB.out | apply below_alloc | apply pw_below_drewN | apply below_drew1) | exact HB.out)⟩
          · rw [if_neg c12] at H
            exact absurd H (by simp)
        · rw [if_neg c11] at H
          exact absurd H (by simp)
      · rw [if_neg c10] at H
        exact absurd H (by simp)
    · rw [if_neg c8] at H
      have c8b0 : decide (0 ≤ t560) = false := decide_eq_false c8
      clear c8
      by_cases c43 : (Go.bits .and .u8 a0 199) = 199
      · rw [if_pos c43] at H
        have c43b0 : ((Go.bits .and .u8 a0 199) == 199) = true := beq_iff_eq.mpr c43
        have c43b1 : ((Go.bits .and .u8 a0 199) != 199) = false := bne_eq_false_iff_eq.mpr c43
        clear c43
        obtain ⟨y583, hy583⟩ : ∃ y_ : List Int, y_ = (([(48 + ((Int.tdiv (Go.bits .and .u8 a0 56) 10) % 256)) % 256, (48 + (Int.tmod (Go.bits .and .u8 a0 56) 10)) % 256] : List Int)) := ⟨_, rfl⟩
        replace H : ((strings_TrimPrefix.f (strOfNums y583) (⟨#[48]⟩ : ByteArray)).bind fun t586 => ((zilog_words.f (([(⟨#[82, 83, 84]⟩ : ByteArray), t586] : List ByteArray))).bind fun t590 => (some t590))) = some r := by first | (rw [hy583]; with_reducible exact H) | (have H2_ := (Option.bind_some _ _).symm.trans H; rw [hy583]; with_reducible exact H2_) | (have H2_ := (Option.bind_some _ _).symm.trans H; with_reducible exact H2_) | with_reducible exact H | (rw [hy583]; exact H) | exact H
        have Ny583 := Aside0.mk hy583
        clear hy583
        replace H := Option.bind_eq_some_iff.mp H
        obtain ⟨t586, A440, H⟩ := H
        replace H : ((zilog_words.f (([(⟨#[82, 83, 84]⟩ : ByteArray), t586] : List ByteArray))).bind fun t590 => (some t590)) = some r := H
        have A44 := Aside0.mk A440
        clear A440
        obtain ⟨y587, hy587⟩ : ∃ y_ : List ByteArray, y_ = (([(⟨#[82, 83, 84]⟩ : ByteArray), t586] : List ByteArray)) := ⟨_, rfl⟩
        replace H : ((zilog_words.f y587).bind fun t590 => (some t590)) = some r := by first | (rw [hy587]; with_reducible exact H) | (have H2_ := (Option.bind_some _ _).symm.trans H; rw [hy587]; with_reducible exact H2_) | (have H2_ := (Option.bind_some _ _).symm.trans H; with_reducible exact H2_) | with_reducible exact H | (rw [hy587]; exact H) | exact H
        have Ny587 := Aside0.mk hy587
        clear hy587
        replace H := Option.bind_eq_some_iff.mp H
        obtain ⟨t590, A450, H⟩ := H
        replace H : (some t590) = some r := H
        have A45 := Aside0.mk A450
        clear A450
        obtain rfl := Option.some.inj H
        go_enter Tryd.func22, Tryd.ntmps22
        go_wp2_with (first | ((with_reducible refine gate_callee (f := 18) rfl ?_); refine goesL_ (some 11) rfl rfl Tryd.func18 (by kernel_rfl) rfl #[.int .u8 a0] rfl (by (try simp only [List.map_toArray, List.map_cons, List.map_nil]); first | done | rfl | (simp only [List.length_drop, List.length_take]; rfl)) ?_; (with_reducible refine (isa80_Name.calls k a0 t556 _ A2.out (by first | exact hT | exact tabs_below hT (by repeat (first | (with_reducible first | exact HB.out | apply below_alloc | apply pw_below_drewN | apply below_drew1) | exact HB.out)) | (repeat (first | exact hT | apply tabs_alloc | apply tabs_drewN | apply tabs_drew)))).mono ?_); rintro e w46 ⟨rfl, hb⟩; refine ⟨_, rfl, ?_⟩; have n0_ := Aside0.mk (below_step (by repeat (first | (with_reducible first | exact HB.out | apply below_alloc | apply pw_below_drewN | apply below_drew1) | exact HB.out)) hb); clear HB; have HB := n0_; clear n0_; (try clear hb); (try clear hb2); (try clear hk); (try clear hi)) | ((with_reducible refine gate_callee (f := 31) rfl ?_); refine goesL_ (some 13) rfl rfl Tryd.func31 (by kernel_rfl) rfl #[.int .u8 a0] rfl (by (try simp only [List.map_toArray, List.map_cons, List.map_nil]); first | done | rfl | (simp only [List.length_drop, List.length_take]; rfl)) ?_; (with_reducible refine (isa80_Args.calls k a0 t557 _ A3.out (by first | exact hT | exact tabs_below hT (by repeat (first | (with_reducible first | exact HB.out | apply below_alloc | apply pw_below_drewN | apply below_drew1) | exact HB.out)) | (repeat (first | exact hT | apply tabs_alloc | apply tabs_drewN | apply tabs_drew)))).mono ?_); rintro e w47 ⟨v558, rfl, ho0, hb⟩; refine ⟨_, rfl, ?_⟩; have n0_ := Aside0.mk (Kd.Q_lower ho0 (below_size (by repeat (first | (with_reducible first | exact HB.out | apply below_alloc | apply pw_below_drewN | apply below_drew1) | exact HB.out)))); have n1_ := Aside0.mk (below_step (by repeat (first | (with_reducible first | exact HB.out | apply below_alloc | apply pw_below_drewN | apply below_drew1) | exact HB.out)) hb); clear HB; have HO559 := n0_; have HB := n1_; clear n0_ n1_; (try clear hb); (try clear hb2); (try clear hk); (try clear hi); (try clear ho0)) | ((with_reducible refine gate_callee (f := 19) rfl ?_); refine goesL_ (some 15) rfl rfl Tryd.func19 (by kernel_rfl) rfl #[.int .u8 a0] rfl (by (try simp only [List.map_toArray, List.map_cons, List.map_nil]); first | done | rfl | (simp only [List.length_drop, List.length_take]; rfl)) ?_; (with_reducible refine (isa80_Cond.calls a0 t560 _ A4.out (by first | exact hT | exact tabs_below hT (by repeat (first | (with_reducible first | exact HB.out | apply below_alloc | apply pw_below_drewN | apply below_drew1) | exact HB.out)) | (repeat (first | exact hT | apply tabs_alloc | apply tabs_drewN | apply tabs_drew)))).mono ?_); rintro e w' ⟨rfl, ⟨nd, rfl⟩⟩; refine ⟨_, rfl, ?_⟩) | ((with_reducible refine gate_dst (N := 53) rfl ?_); refine Kd.R_lit (Kd.int .u8) _ 5 ?hg (N := 53) ?hd (xs := ([(48 + ((Int.tdiv (Go.bits .and .u8 a0 56) 10) % 256)) % 256, (48 + (Int.tmod (Go.bits .and .u8 a0 56) 10)) % 256] : List Int)) (inner := [.int .u8 ((48 + ((Int.tdiv (Go.bits .and .u8 a0 56) 10) % 256)) % 256), .int .u8 ((48 + (Int.tmod (Go.bits .and .u8 a0 56) 10)) % 256)]) (ok := fun _ => True) (okp := fun _ => True) ?hr ?hp (fun _ hk => hk) trivial (Below.refl _ _) (Nat.le_refl _) (by simp) ?_; (case hd => rfl); (case hg => rfl); (case hr => first | (go_simp; done) | (go_simp; rfl)); (case hp => exact (Reps.one (show Kd.M (Kd.int .u8) _ _ _ ((48 + ((Int.tdiv (Go.bits .and .u8 a0 56) 10) % 256)) % 256) [.int .u8 ((48 + ((Int.tdiv (Go.bits .and .u8 a0 56) 10) % 256)) % 256)] from rfl) (Reps.one (show Kd.M (Kd.int .u8) _ _ _ ((48 + (Int.tmod (Go.bits .and .u8 a0 56) 10)) % 256) [.int .u8 ((48 + (Int.tmod (Go.bits .and .u8 a0 56) 10)) % 256)] from rfl) (Reps.none _ _)))); intro v584 w48 ho49 hb hg_ hnew_; clear hg_ hnew_; (first | rw [← Ny583.out] at ho49 | (simp only [Int.reduceToNat] at ho49; rw [← Ny583.out] at ho49)); have n0_ := Aside0.mk (Kd.Q_below (by (with_reducible repeat (first | apply Kd.Q_alloc | apply Kd.Q_drewN | apply Kd.Q_drew)); exact HO559.out) hb); have n1_ := Aside0.mk (Kd.R_lower ho49 (below_size (by repeat (first | (with_reducible first | exact HB.out | apply below_alloc | apply pw_below_drewN | apply below_drew1) | exact HB.out)))); have n2_ := Aside0.mk (below_step (by repeat (first | (with_reducible first | exact HB.out | apply below_alloc | apply pw_below_drewN | apply below_drew1) | exact HB.out)) hb); clear HO559; clear HB; have HO559 := n0_; have HO585 := n1_; have HB := n2_; clear n0_ n1_ n2_; clear hb ho49; have hcv50 := own_string (P := Tryd.prog) Tryd.underlying47 Tryd.underlying5 Tryd.underlying9 (Kd.own_of_R HO585.out)) | ((with_reducible refine gate_callee (f := 34) rfl ?_); refine goesL_ (some 56) rfl rfl Tryd.func34 (by kernel_rfl) rfl #[.string (strOfNums y583), .string (⟨#[48]⟩ : ByteArray)] rfl (by (try simp only [List.map_toArray, List.map_cons, List.map_nil]); first | done | rfl | (simp only [List.length_drop, List.length_take]; rfl)) ?_; (with_reducible refine (strings_TrimPrefix.calls (strOfNums y583) (⟨#[48]⟩ : ByteArray) t586 _ A44.out (by first | exact hT | exact tabs_below hT (by repeat (first | (with_reducible first | exact HB.out | apply below_alloc | apply pw_below_drewN | apply below_drew1) | exact HB.out)) | (repeat (first | exact hT | apply tabs_alloc | apply tabs_drewN | apply tabs_drew)))).mono ?_); rintro e w' ⟨rfl, ⟨nd, rfl⟩⟩; refine ⟨_, rfl, ?_⟩) | ((with_reducible refine gate_dst (N := 57) rfl ?_); refine Kd.R_lit Kd.string _ 9 ?hg (N := 57) ?hd (xs := ([(⟨#[82, 83, 84]⟩ : ByteArray), t586] : List ByteArray)) (inner := [.string (⟨#[82, 83, 84]⟩ : ByteArray), .string t586]) (ok := fun _ => True) (okp := fun _ => True) ?hr ?hp (fun _ hk => hk) trivial (Below.refl _ _) (Nat.le_refl _) (by simp) ?_; (case hd => rfl); (case hg => rfl); (case hr => first | (go_simp; done) | (go_simp; rfl)); (case hp => exact (Reps.one (show Kd.M Kd.string _ _ _ (⟨#[82, 83, 84]⟩ : ByteArray) [.string (⟨#[82, 83, 84]⟩ : ByteArray)] from rfl) (Reps.one (show Kd.M Kd.string _ _ _ t586 [.string t586] from rfl) (Reps.none _ _)))); intro v588 w51 ho52 hb hg_ hnew_; clear hg_ hnew_; (first | rw [← Ny587.out] at ho52 | (simp only [Int.reduceToNat] at ho52; rw [← Ny587.out] at ho52)); have n0_ := Aside0.mk (Kd.Q_elder' (by (with_reducible repeat (first | apply Kd.Q_alloc | apply Kd.Q_drewN | apply Kd.Q_drew)); exact HO559.out) (Kd.R_base ho52) hb); have n1_ := Aside0.mk (Kd.R_below (by (with_reducible repeat (first | apply Kd.R_alloc | apply Kd.R_drewN | apply Kd.R_drew)); exact HO585.out) hb); have n2_ := Aside0.mk (Kd.R_lower (Kd.R_new' ho52 (Kd.Q_lt (by (with_reducible repeat (first | apply Kd.Q_alloc | apply Kd.Q_drewN | apply Kd.Q_drew)); exact HO559.out))) (below_size (by repeat (first | (with_reducible first | exact HB.out | apply below_alloc | apply pw_below_drewN | apply below_drew1) | exact HB.out)))); have n3_ := Aside0.mk (below_step (by repeat (first | (with_reducible first | exact HB.out | apply below_alloc | apply pw_below_drewN | apply below_drew1) | exact HB.out)) hb); clear HO559; clear HO585; clear HB; have HO559 := n0_; have HO585 := n1_; have HO589 := n2_; have HB := n3_; clear n0_ n1_ n2_ n3_; clear hb ho52; obtain ⟨Ao53, co53, eo53⟩ := Kd.R_slice HO589.out; subst eo53) | ((with_reducible refine gate_callee (f := 33) rfl ?_); refine goesL_ (some 58) rfl rfl Tryd.func33 (by kernel_rfl) rfl #[.slice Ao53 y587.length co53] rfl (by (try simp only [List.map_toArray, List.map_cons, List.map_nil]); first | done | rfl | (simp only [List.length_drop, List.length_take]; rfl)) ?_; (with_reducible refine (zilog_words.calls (fun k_ => some k_ = (.slice Ao53 y587.length co53 : Value).ownBlock) (.slice Ao53 y587.length co53) y587 t590 w _ ?side1 ?side2 A45.out (by first | exact hT | exact tabs_below hT (by repeat (first | (with_reducible first | exact HB.out | apply below_alloc | apply pw_below_drewN | apply below_drew1) | exact HB.out)) | (repeat (first | exact hT | apply tabs_alloc | apply tabs_drewN | apply tabs_drew)))).mono ?_); (case side1 => repeat (first | (with_reducible first | exact HB.out | apply below_alloc | apply pw_below_drewN | apply below_drew1) | exact HB.out)); (case side2 => exact Kd.R_tight rfl HO589.out); rintro e w54 ⟨v591, rfl, ho0, hb, hkp⟩; refine ⟨_, rfl, ?_⟩; have n0_ := Aside0.mk (Kd.Q_mono (ok' := fun k_ => some k_ ≠ (v591 : Value).ownBlock) (Kd.Q_keptB (HO559.out) hkp (fun k_ hk_ hs_ => (hk_.2) hs_)) (fun k_ hk_ => fun e_ => Or.elim (ho0.1 k_ e_.symm) (fun hs_ => hk_.2.1 hs_) (fun hn_ => Nat.not_le.2 hk_.2.2 hn_))); have n1_ := Aside0.mk (Kd.R_mono (ok' := fun k_ => True) (Kd.R_keptB ((Kd.R_apart' HO585.out (Kd.R_typed HO589.out) (by decide))) hkp (fun k_ hk_ hs_ => (hk_.2) hs_)) (fun k_ hk_ => trivial)); have n2_ := Aside0.mk (Kd.R_mono (ok' := fun k_ => some k_ ≠ (v558 : Value).ownBlock) ho0 (fun k_ hk_ => Or.elim hk_ (fun hs_ => fun e_ => (((HO559.out).1 k_ e_.symm).2) hs_) (fun hn_ => (Kd.fresh' (Kd.Q_lt (by (with_reducible repeat (first | apply Kd.Q_alloc | apply Kd.Q_drewN | apply Kd.Q_drew)); exact HO559.out)) k_ hn_)))); have n3_ := Aside0.mk (hb); clear HO559; clear HO585; clear HB; clear HO589; have HO559 := n0_; have HO585 := n1_; have HO592 := n2_; have HB := n3_; clear n0_ n1_ n2_ n3_; (try clear hb); (try clear hkp); (try clear ho0)))
        go_ret
        exact ⟨_, by first | rfl | (simp [errW_none, errW_some] <;> rfl) | (simp [*, errW_none, errW_some] <;> rfl), by (with_reducible repeat (first | apply Kd.R_alloc | apply Kd.R_drewN | apply Kd.R_drew)); exact Kd.R_mono HO592.out (fun _ hk => trivial), by repeat (first | (with_reducible first | exact HB.out | apply below_alloc | apply pw_below_drewN | apply below_drew1) | exact HB.out)⟩
      · rw [if_neg c43] at H
        have c43b0 : ((Go.bits .and .u8 a0 199) == 199) = false := beq_eq_false_iff_ne.mpr c43
        have c43b1 : ((Go.bits .and .u8 a0 199) != 199) = true := bne_iff_ne.mpr c43
        have HC55 := Aside0.mk H
        clear H
        go_enter Tryd.func22, Tryd.ntmps22
        go_upto_if 59 with (first | ((with_reducible refine gate_callee (f := 18) rfl ?_); refine goesL_ (some 11) rfl rfl Tryd.func18 (by kernel_rfl) rfl #[.int .u8 a0] rfl (by (try simp only [List.map_toArray, List.map_cons, List.map_nil]); first | done | rfl | (simp only [List.length_drop, List.length_take]; rfl)) ?_; (with_reducible refine (isa80_Name.calls k a0 t556 _ A2.out (by first | exact hT | exact tabs_below hT (by repeat (first | (with_reducible first | exact HB.out | apply below_alloc | apply pw_below_drewN | apply below_drew1) | exact HB.out)) | (repeat (first | exact hT | apply tabs_alloc | apply tabs_drewN | apply tabs_drew)))).mono ?_); rintro e w56 ⟨rfl, hb⟩; refine ⟨_, rfl, ?_⟩; have n0_ := Aside0.mk (below_step (by repeat (first | (with_reducible first | exact HB.out | apply below_alloc | apply pw_below_drewN | apply below_drew1) | exact HB.out)) hb); clear HB; have HB := n0_; clear n0_; (try clear hb); (try clear hb2); (try clear hk); (try clear hi)) | ((with_reducible refine gate_callee (f := 31) rfl ?_); refine goesL_ (some 13) rfl rfl Tryd.func31 (by kernel_rfl) rfl #[.int .u8 a0] rfl (by (try simp only [List.map_toArray, List.map_cons, List.map_nil]); first | done | rfl | (simp only [List.length_drop, List.length_take]; rfl)) ?_; (with_reducible refine (isa80_Args.calls k a0 t557 _ A3.out (by first | exact hT | exact tabs_below hT (by repeat (first | (with_reducible first | exact HB.out | apply below_alloc | apply pw_below_drewN | apply below_drew1) | exact HB.out)) | (repeat (first | exact hT | apply tabs_alloc | apply tabs_drewN | apply tabs_drew)))).mono ?_); rintro e w57 ⟨v558, rfl, ho0, hb⟩; refine ⟨_, rfl, ?_⟩; have n0_ := Aside0.mk (Kd.Q_lower ho0 (below_size (by repeat (first | (with_reducible first | exact HB.out | apply below_alloc | apply pw_below_drewN | apply below_drew1) | exact HB.out)))); have n1_ := Aside0.mk (below_step (by repeat (first | (with_reducible first | exact HB.out | apply below_alloc | apply pw_below_drewN | apply below_drew1) | exact HB.out)) hb); clear HB; have HO559 := n0_; have HB := n1_; clear n0_ n1_; (try clear hb); (try clear hb2); (try clear hk); (try clear hi); (try clear ho0)) | ((with_reducible refine gate_callee (f := 19) rfl ?_); refine goesL_ (some 15) rfl rfl Tryd.func19 (by kernel_rfl) rfl #[.int .u8 a0] rfl (by (try simp only [List.map_toArray, List.map_cons, List.map_nil]); first | done | rfl | (simp only [List.length_drop, List.length_take]; rfl)) ?_; (with_reducible refine (isa80_Cond.calls a0 t560 _ A4.out (by first | exact hT | exact tabs_below hT (by repeat (first | (with_reducible first | exact HB.out | apply below_alloc | apply pw_below_drewN | apply below_drew1) | exact HB.out)) | (repeat (first | exact hT | apply tabs_alloc | apply tabs_drewN | apply tabs_drew)))).mono ?_); rintro e w' ⟨rfl, ⟨nd, rfl⟩⟩; refine ⟨_, rfl, ?_⟩))
        (try simp only [Act.put, List.setIfInBounds_toArray, List.set_cons_zero, List.set_cons_succ])
        go_cut [59] (fun v59 wc => ∃ (kq : Nat) (x59_54 : Bool), v59 = .bool x59_54 ∧ Aside0 (zilog_form.j0 kq t556 t557 x59_54 = some r) ∧ Aside0 (kq ≤ k) ∧ Aside0 (Kd.Q Kd.string 9 wc w.heap.size (fun _ => True) v558 t557) ∧ Aside0 (Below w.heap.size w wc))
        case first =>
          have H := HC55.out
          clear HC55
          by_cases c58 : (a0 / 64) = 2
          · rw [if_pos c58] at H
            have c58b0 : ((a0 / 64) == 2) = true := beq_iff_eq.mpr c58
            have c58b1 : ((a0 / 64) != 2) = false := bne_eq_false_iff_eq.mpr c58
            clear c58
            (first | rw [c58b0] | (simp only [i64_w, i32_w]; rw [c58b0]) | skip)
            have H' := Aside0.mk H
            clear H
            go_wp2
            go_meet
            case rel => exact ⟨_, (((a0 / 64) == 2)), (by first | rfl | (simp; done) | (simp [*]; done)), H', ⟨by first | omega | exact Nat.le_refl _⟩, ⟨by (with_reducible repeat (first | apply Kd.Q_alloc | apply Kd.Q_drewN | apply Kd.Q_drew)); exact HO559.out⟩, ⟨by repeat (first | (with_reducible first | exact HB.out | apply below_alloc | apply pw_below_drewN | apply below_drew1) | exact HB.out)⟩⟩
          · rw [if_neg c58] at H
            have c58b0 : ((a0 / 64) == 2) = false := beq_eq_false_iff_ne.mpr c58
            have c58b1 : ((a0 / 64) != 2) = true := bne_iff_ne.mpr c58
            (first | rw [c58b0] | (simp only [i64_w, i32_w]; rw [c58b0]) | skip)
            have H' := Aside0.mk H
            clear H
            go_wp2
            go_meet
            case rel => exact ⟨_, (((Go.bits .and .u8 a0 199) == 198)), (by first | rfl | (simp; done) | (simp [*]; done)), H', ⟨by first | omega | exact Nat.le_refl _⟩, ⟨by (with_reducible repeat (first | apply Kd.Q_alloc | apply Kd.Q_drewN | apply Kd.Q_drew)); exact HO559.out⟩, ⟨by repeat (first | (with_reducible first | exact HB.out | apply below_alloc | apply pw_below_drewN | apply below_drew1) | exact HB.out)⟩⟩
        case rest =>
          clear HC55
          try clear c1
          try clear p1
          try clear q1
          try clear hx1
          try clear qi1
          try clear c2
          try clear p2
          try clear c3
          try clear c4
          try clear c5
          try clear c5b0
          try clear c5b1
          try clear p5
          try clear q5
          try clear hx5
          try clear hcv5
          try clear c8
          try clear c8b0
          try clear c10
          try clear c10b0
          try clear c11
          try clear c11b0
          try clear c12
          try clear c12b0
          try clear c12b1
          try clear p13
          try clear q13
          try clear hx13
          try clear qi13
          try clear c14
          try clear c14b0
          try clear c14b1
          try clear c18
          try clear c19
          try clear c22
          try clear c24
          try clear c24b0
          try clear c24b1
          try clear c31
          try clear c32
          try clear c33
          try clear c34
          try clear c43
          try clear c43b0
          try clear c43b1
          try clear hcv50
          try clear p56
          try clear q56
          try clear hx56
          try clear c58
          try clear c58b0
          try clear c58b1
          try clear hx564_0
          try clear p13
          try clear p564
          try clear q13
          try clear q564
          obtain ⟨kq, x59_54, rfl, HA, HJ54, HO_4, HB⟩ := hcut
          cases kq with
          | zero => exact absurd HA.out (by simp [zilog_form.j0])
          | succ kj54 =>
            have H := HA.out
            clear HA
            simp only [zilog_form.j0] at H
            by_cases c59 : x59_54 = true
            · subst c59
              have H1 : (if 0 < (t557.length : Int) then ((zilog_arg.f (rdOf ByteArray.empty t557 0)).bind fun t594 => ((zilog_sums.f kj54 t556 t594).bind fun t595 => (some t595))) else (none)) = some r := by rw [if_pos rfl] at H; exact H
              clear H
              have H := H1
              clear H1
              by_cases c60 : 0 < (t557.length : Int)
              · rw [if_pos c60] at H
                have c60b0 : decide (0 < (t557.length : Int)) = true := decide_eq_true c60
                have c60b1 : decide (0 < t557.length) = true := decide_eq_true (by omega)
                clear c60
                replace H := Option.bind_eq_some_iff.mp H
                obtain ⟨t594, A610, H⟩ := H
                replace H : ((zilog_sums.f kj54 t556 t594).bind fun t595 => (some t595)) = some r := H
                have A61 := Aside0.mk A610
                clear A610
                replace H := Option.bind_eq_some_iff.mp H
                obtain ⟨t595, A620, H⟩ := H
                replace H : (some t595) = some r := H
                have A62 := Aside0.mk A620
                clear A620
                obtain rfl := Option.some.inj H
                obtain ⟨Ao63, co63, eo63, _⟩ := Kd.Q_slice HO_4.out
                subst eo63
                have p593 : 0 ≤ (0 : Int) := (by omega)
                have q593 : 0 < (t557.length : Int) := of_decide_eq_true (by first | (with_reducible assumption) | assumption)
                obtain ⟨ad593, e593, hx593_0⟩ := Kd.at_string (Kd.Q_reads' HO_4.out).2.2 0 p593 q593
                cases e593
                have qi593 : (0 < t557.length) = True := eq_true (by omega)
                (try rw [show ((0 : Int)).toNat = 0 from rfl] at hx593_0)
                (try rw [Addr.add_zero'] at hx593_0)
                replace p593 := eq_true p593
                replace q593 := eq_true q593
                go_wp2_with (first | ((with_reducible refine gate_callee (f := 36) rfl ?_); refine goesL_ (some 70) rfl rfl Tryd.func36 (by kernel_rfl) rfl #[.string (rdOf ByteArray.empty t557 0)] rfl (by (try simp only [List.map_toArray, List.map_cons, List.map_nil]); first | done | rfl | (simp only [List.length_drop, List.length_take]; rfl)) ?_; (with_reducible refine (zilog_arg.calls (rdOf ByteArray.empty t557 0) t594 _ A61.out (by first | exact hT | exact tabs_below hT (by repeat (first | (with_reducible first | exact HB.out | apply below_alloc | apply pw_below_drewN | apply below_drew1) | exact HB.out)) | (repeat (first | exact hT | apply tabs_alloc | apply tabs_drewN | apply tabs_drew)))).mono ?_); rintro e w' ⟨rfl, ⟨nd, rfl⟩⟩; refine ⟨_, rfl, ?_⟩) | ((with_reducible refine gate_callee (f := 35) rfl ?_); refine goesL_ (some 71) rfl rfl Tryd.func35 (by kernel_rfl) rfl #[.string t556, .string t594] rfl (by (try simp only [List.map_toArray, List.map_cons, List.map_nil]); first | done | rfl | (simp only [List.length_drop, List.length_take]; rfl)) ?_; (with_reducible refine (zilog_sums.calls kj54 t556 t594 t595 _ A62.out (by first | exact hT | exact tabs_below hT (by repeat (first | (with_reducible first | exact HB.out | apply below_alloc | apply pw_below_drewN | apply below_drew1) | exact HB.out)) | (repeat (first | exact hT | apply tabs_alloc | apply tabs_drewN | apply tabs_drew)))).mono ?_); rintro e w64 ⟨v596, rfl, ho0, hb⟩; refine ⟨_, rfl, ?_⟩; have n0_ := Aside0.mk (Kd.Q_elder' (by (with_reducible repeat (first | apply Kd.Q_alloc | apply Kd.Q_drewN | apply Kd.Q_drew)); exact HO_4.out) (Kd.R_base ho0) hb); have n1_ := Aside0.mk (Kd.R_lower (Kd.R_new' ho0 (Kd.Q_lt (by (with_reducible repeat (first | apply Kd.Q_alloc | apply Kd.Q_drewN | apply Kd.Q_drew)); exact HO_4.out))) (below_size (by repeat (first | (with_reducible first | exact HB.out | apply below_alloc | apply pw_below_drewN | apply below_drew1) | exact HB.out)))); have n2_ := Aside0.mk (below_step (by repeat (first | (with_reducible first | exact HB.out | apply below_alloc | apply pw_below_drewN | apply below_drew1) | exact HB.out)) hb); clear HO_4; clear HB; have HO_4 := n0_; have HO597 := n1_; have HB := n2_; clear n0_ n1_ n2_; (try clear hb); (try clear hb2); (try clear hk); (try clear hi); (try clear ho0)))
                go_ret
                exact ⟨_, by first | rfl | (simp [errW_none, errW_some] <;> rfl) | (simp [*, errW_none, errW_some] <;> rfl), by (with_reducible repeat (first | apply Kd.R_alloc | apply Kd.R_drewN | apply Kd.R_drew)); exact Kd.R_mono HO597.out (fun _ hk => trivial), by repeat (first | (with_reducible first | exact HB.out | apply below_alloc | apply pw_below_drewN | apply below_drew1) | exact HB.out)⟩
              · rw [if_neg c60] at H
                exact absurd H (by simp)
            · replace c59 := Bool.eq_false_iff.mpr c59
              subst c59
              have H1 : ((zilog_loads.f kj54 t556 t557).bind fun t598 => (if (t598.length : Int) = 0 then ((zilog_plain.f kj54 t556).bind fun t601 => (some t601)) else (some t598))) = some r := by rw [if_neg (show ¬ (false = true) by decide)] at H; exact H
              clear H
              have H := H1
              clear H1
              replace H := Option.bind_eq_some_iff.mp H
              obtain ⟨t598, A650, H⟩ := H
              replace H : (if (t598.length : Int) = 0 then ((zilog_plain.f kj54 t556).bind fun t601 => (some t601)) else (some t598)) = some r := H
              have A65 := Aside0.mk A650
              clear A650
              by_cases c66 : (t598.length : Int) = 0
              · rw [if_pos c66] at H
                have c66b0 : ((t598.length : Int) == 0) = true := beq_iff_eq.mpr c66
                have c66b1 : ((t598.length : Int) != 0) = false := bne_eq_false_iff_eq.mpr c66
                clear c66
                replace H := Option.bind_eq_some_iff.mp H
                obtain ⟨t601, A670, H⟩ := H
                replace H : (some t601) = some r := H
                have A67 := Aside0.mk A670
                clear A670
                obtain rfl := Option.some.inj H
                obtain ⟨Ao68, co68, eo68, _⟩ := Kd.Q_slice HO_4.out
                subst eo68
                go_wp2_with (first | ((with_reducible refine gate_callee (f := 37) rfl ?_); refine goesL_ (some 74) rfl rfl Tryd.func37 (by kernel_rfl) rfl #[.string t556, .slice Ao68 t557.length co68] rfl (by (try simp only [List.map_toArray, List.map_cons, List.map_nil]); first | done | rfl | (simp only [List.length_drop, List.length_take]; rfl)) ?_; (with_reducible refine (zilog_loads.calls2 kj54 t556 _ _ t557 t598 _ ?side1 ?side2 A65.out (by first | exact hT | exact tabs_below hT (by repeat (first | (with_reducible first | exact HB.out | apply below_alloc | apply pw_below_drewN | apply below_drew1) | exact HB.out)) | (repeat (first | exact hT | apply tabs_alloc | apply tabs_drewN | apply tabs_drew)))).mono ?_); (case side1 => repeat (first | exact (Kd.Q_reads' HO_4.out).2.2 | (with_reducible refine Kd.C_alloc ?_ _) | (with_reducible refine Kd.C_drewN ?_ _) | (with_reducible refine Kd.C_drew ?_))); (case side2 => exact (Kd.Q_reads' HO_4.out).2.1); rintro e w69 ⟨v599, rfl, hnil_, ho0, hb⟩; (obtain rfl : v599 = .slice none 0 0 := hnil_ (by have := eq_of_beq c66b0; omega)); refine ⟨_, rfl, ?_⟩; have n0_ := Aside0.mk (Kd.Q_elder' (by (with_reducible repeat (first | apply Kd.Q_alloc | apply Kd.Q_drewN | apply Kd.Q_drew)); exact HO_4.out) (Kd.R_base ho0) hb); have n1_ := Aside0.mk (Kd.R_lower (Kd.R_new' ho0 (Kd.Q_lt (by (with_reducible repeat (first | apply Kd.Q_alloc | apply Kd.Q_drewN | apply Kd.Q_drew)); exact HO_4.out))) (below_size (by repeat (first | (with_reducible first | exact HB.out | apply below_alloc | apply pw_below_drewN | apply below_drew1) | exact HB.out)))); have n2_ := Aside0.mk (below_step (by repeat (first | (with_reducible first | exact HB.out | apply below_alloc | apply pw_below_drewN | apply below_drew1) | exact HB.out)) hb); clear HO_4; clear HB; have HO_4 := n0_; have HO600 := n1_; have HB := n2_; clear n0_ n1_ n2_; (try clear hb); (try clear hb2); (try clear hk); (try clear hi); (try clear ho0); skip) | ((with_reducible refine gate_callee (f := 38) rfl ?_); refine goesL_ (some 79) rfl rfl Tryd.func38 (by kernel_rfl) rfl #[.string t556] rfl (by (try simp only [List.map_toArray, List.map_cons, List.map_nil]); first | done | rfl | (simp only [List.length_drop, List.length_take]; rfl)) ?_; (with_reducible refine (zilog_plain.calls kj54 t556 t601 _ A67.out (by first | exact hT | exact tabs_below hT (by repeat (first | (with_reducible first | exact HB.out | apply below_alloc | apply pw_below_drewN | apply below_drew1) | exact HB.out)) | (repeat (first | exact hT | apply tabs_alloc | apply tabs_drewN | apply tabs_drew)))).mono ?_); rintro e w71 ⟨v602, rfl, ho0, hb⟩; refine ⟨_, rfl, ?_⟩; have n0_ := Aside0.mk (Kd.Q_elder' (by (with_reducible repeat (first | apply Kd.Q_alloc | apply Kd.Q_drewN | apply Kd.Q_drew)); exact HO_4.out) (Kd.R_base ho0) hb); have n1_ := Aside0.mk (Kd.R_elder' (by (with_reducible repeat (first | apply Kd.R_alloc | apply Kd.R_drewN | apply Kd.R_drew)); exact HO600.out) (Kd.R_base ho0) hb); have n2_ := Aside0.mk (Kd.R_lower (Kd.R_new' (Kd.R_new' ho0 (Kd.Q_lt (by (with_reducible repeat (first | apply Kd.Q_alloc | apply Kd.Q_drewN | apply Kd.Q_drew)); exact HO_4.out))) (Kd.R_lt (by (with_reducible repeat (first | apply Kd.R_alloc | apply Kd.R_drewN | apply Kd.R_drew)); exact HO600.out))) (below_size (by repeat (first | (with_reducible first | exact HB.out | apply below_alloc | apply pw_below_drewN | apply below_drew1) | exact HB.out)))); have n3_ := Aside0.mk (below_step (by repeat (first | (with_reducible first | exact HB.out | apply below_alloc | apply pw_below_drewN | apply below_drew1) | exact HB.out)) hb); clear HO_4; clear HO600; clear HB; have HO_4 := n0_; have HO600 := n1_; have HO603 := n2_; have HB := n3_; clear n0_ n1_ n2_ n3_; (try clear hb); (try clear hb2); (try clear hk); (try clear hi); (try clear ho0)))
                go_ret
                exact ⟨_, by first | rfl | (simp [errW_none, errW_some] <;> rfl) | (simp [*, errW_none, errW_some] <;> rfl), by (with_reducible repeat (first | apply Kd.R_alloc | apply Kd.R_drewN | apply Kd.R_drew)); exact Kd.R_mono HO603.out (fun _ hk => trivial), by repeat (first | (with_reducible first | exact HB.out | apply below_alloc | apply pw_below_drewN | apply below_drew1) | exact HB.out)⟩
              · rw [if_neg c66] at H
                have c66b0 : ((t598.length : Int) == 0) = false := beq_eq_false_iff_ne.mpr c66
                have c66b1 : ((t598.length : Int) != 0) = true := bne_iff_ne.mpr c66
                have c66b2 : ¬ (t598 = []) := fun h_ => c66 (by rw [h_]; rfl)
                obtain rfl := Option.some.inj H
                obtain ⟨Ao72, co72, eo72, _⟩ := Kd.Q_slice HO_4.out
                subst eo72
                go_wp2_with (first | ((with_reducible refine gate_callee (f := 37) rfl ?_); refine goesL_ (some 74) rfl rfl Tryd.func37 (by kernel_rfl) rfl #[.string t556, .slice Ao72 t557.length co72] rfl (by (try simp only [List.map_toArray, List.map_cons, List.map_nil]); first | done | rfl | (simp only [List.length_drop, List.length_take]; rfl)) ?_; (with_reducible refine (zilog_loads.calls2 kj54 t556 _ _ t557 t598 _ ?side1 ?side2 A65.out (by first | exact hT | exact tabs_below hT (by repeat (first | (with_reducible first | exact HB.out | apply below_alloc | apply pw_below_drewN | apply below_drew1) | exact HB.out)) | (repeat (first | exact hT | apply tabs_alloc | apply tabs_drewN | apply tabs_drew)))).mono ?_); (case side1 => repeat (first | exact (Kd.Q_reads' HO_4.out).2.2 | (with_reducible refine Kd.C_alloc ?_ _) | (with_reducible refine Kd.C_drewN ?_ _) | (with_reducible refine Kd.C_drew ?_))); (case side2 => exact (Kd.Q_reads' HO_4.out).2.1); rintro e w73 ⟨v599, rfl, _, ho0, hb⟩; refine ⟨_, rfl, ?_⟩; have n0_ := Aside0.mk (Kd.Q_elder' (by (with_reducible repeat (first | apply Kd.Q_alloc | apply Kd.Q_drewN | apply Kd.Q_drew)); exact HO_4.out) (Kd.R_base ho0) hb); have n1_ := Aside0.mk (Kd.R_lower (Kd.R_new' ho0 (Kd.Q_lt (by (with_reducible repeat (first | apply Kd.Q_alloc | apply Kd.Q_drewN | apply Kd.Q_drew)); exact HO_4.out))) (below_size (by repeat (first | (with_reducible first | exact HB.out | apply below_alloc | apply pw_below_drewN | apply below_drew1) | exact HB.out)))); have n2_ := Aside0.mk (below_step (by repeat (first | (with_reducible first | exact HB.out | apply below_alloc | apply pw_below_drewN | apply below_drew1) | exact HB.out)) hb); clear HO_4; clear HB; have HO_4 := n0_; have HO600 := n1_; have HB := n2_; clear n0_ n1_ n2_; (try clear hb); (try clear hb2); (try clear hk); (try clear hi); (try clear ho0); obtain ⟨Ao74, co74, eo74⟩ := Kd.R_slice HO600.out; subst eo74; obtain ⟨ad74, rfl⟩ := some_of_length HO600.out c66b1))
                go_ret
                exact ⟨_, by first | rfl | (simp [errW_none, errW_some] <;> rfl) | (simp [*, errW_none, errW_some] <;> rfl), by (with_reducible repeat (first | apply Kd.R_alloc | apply Kd.R_drewN | apply Kd.R_drew)); exact Kd.R_mono HO600.out (fun _ hk => trivial), by repeat (first | (with_reducible first | exact HB.out | apply below_alloc | apply pw_below_drewN | apply below_drew1) | exact HB.out)⟩

/-! ### zilog_Name: function 8 -/
def zilog_Name.f (k : Nat) (a0 : Int) : Option (ByteArray) := (zilog_form.f k a0).bind fun t604 => (if (t604.length : Int) > 0 then (if 0 < (t604.length : Int) then (some (rdOf ByteArray.empty t604 0)) else (none)) else (some (⟨#[]⟩ : ByteArray)))
theorem zilog_Name.mono : ∀ a0 k, LeO (zilog_Name.f k a0) (zilog_Name.f (k + 1) a0) := by
  intro a0 k
  unfold zilog_Name.f
  repeat' first
      | (with_reducible exact zilog_form.mono _ _)
      | (with_reducible exact LeO.refl _)
      | (with_reducible exact LeO.none _)
      | (with_reducible refine LeO.ite ?_ ?_)
      | (with_reducible refine LeO.bind ?_ (fun _ => ?_))
      | exact zilog_form.mono _ _
      | exact LeO.none _
      | refine LeO.ite ?_ ?_
      | refine LeO.bind ?_ (fun _ => ?_)
set_option maxHeartbeats 8000000 in
set_option maxRecDepth 100000 in
theorem zilog_Name.calls (k : Nat) (a0 : Int) (r : ByteArray) (w : World) (h : zilog_Name.f k a0 = some r) (hT : Tabs w) :
    Calls Tryd.prog 8 #[.int .u8 a0] w fun e w' => e = .returned (.string r) ∧ Below w.heap.size w w' := by
  have HB := Aside0.mk (Below.refl w.heap.size w)
  have H : ((zilog_form.f k a0).bind fun t604 => (if (t604.length : Int) > 0 then (if 0 < (t604.length : Int) then (some (rdOf ByteArray.empty t604 0)) else (none)) else (some (⟨#[]⟩ : ByteArray)))) = some r := h
  clear h
  replace H := Option.bind_eq_some_iff.mp H
  obtain ⟨t604, A20, H⟩ := H
  replace H : (if (t604.length : Int) > 0 then (if 0 < (t604.length : Int) then (some (rdOf ByteArray.empty t604 0)) else (none)) else (some (⟨#[]⟩ : ByteArray))) = some r := H
  have A2 := Aside0.mk A20
  clear A20
  by_cases c3 : (t604.length : Int) > 0
  · rw [if_pos c3] at H
    have c3b0 : decide (0 < (t604.length : Int)) = true := decide_eq_true c3
    have c3b1 : decide (0 < t604.length) = true := decide_eq_true (by omega)
    clear c3
    by_cases c4 : 0 < (t604.length : Int)
    · rw [if_pos c4] at H
      have c4b0 : decide (0 < (t604.length : Int)) = true := decide_eq_true c4
      have c4b1 : decide (0 < t604.length) = true := decide_eq_true (by omega)
      clear c4
      obtain rfl := Option.some.inj H
      go_enter Tryd.func8, Tryd.ntmps8
      go_wp2_with (first | ((with_reducible refine gate_callee (f := 22) rfl ?_); refine goesL_ (some 5) rfl rfl Tryd.func22 (by kernel_rfl) rfl #[.int .u8 a0] rfl (by (try simp only [List.map_toArray, List.map_cons, List.map_nil]); first | done | rfl | (simp only [List.length_drop, List.length_take]; rfl)) ?_; (with_reducible refine (zilog_form.calls k a0 t604 _ A2.out (by first | exact hT | exact tabs_below hT (by repeat (first | (with_reducible first | exact HB.out | apply below_alloc | apply pw_below_drewN | apply below_drew1) | exact HB.out)) | (repeat (first | exact hT | apply tabs_alloc | apply tabs_drewN | apply tabs_drew)))).mono ?_); rintro e w5 ⟨v605, rfl, ho0, hb⟩; refine ⟨_, rfl, ?_⟩; have n0_ := Aside0.mk (Kd.R_lower ho0 (below_size (by repeat (first | (with_reducible first | exact HB.out | apply below_alloc | apply pw_below_drewN | apply below_drew1) | exact HB.out)))); have n1_ := Aside0.mk (below_step (by repeat (first | (with_reducible first | exact HB.out | apply below_alloc | apply pw_below_drewN | apply below_drew1) | exact HB.out)) hb); clear HB; have HO606 := n0_; have HB := n1_; clear n0_ n1_; (try clear hb); (try clear hb2); (try clear hk); (try clear hi); (try clear ho0); obtain ⟨Ao6, co6, eo6⟩ := Kd.R_slice HO606.out; subst eo6; have p607 : 0 ≤ (0 : Int) := (by omega); have q607 : 0 < (t604.length : Int) := of_decide_eq_true (by first | (with_reducible assumption) | assumption); obtain ⟨ad607, e607, hx607_0⟩ := Kd.at_string (Kd.R_reads' HO606.out).2.2 0 p607 q607; cases e607; have qi607 : (0 < t604.length) = True := eq_true (by omega); (try rw [show ((0 : Int)).toNat = 0 from rfl] at hx607_0); (try rw [Addr.add_zero'] at hx607_0); replace p607 := eq_true p607; replace q607 := eq_true q607))
      go_ret
      exact ⟨by first | rfl | (simp [errW_none, errW_some] <;> rfl) | (simp [*, errW_none, errW_some] <;> rfl), by repeat (first | (with_reducible first | exact HB.out | apply below_alloc | apply pw_below_drewN | apply below_drew1) | exact HB.out)⟩
    · rw [if_neg c4] at H
      exact absurd H (by simp)
  · rw [if_neg c3] at H
    have c3b0 : decide (0 < (t604.length : Int)) = false := decide_eq_false c3
    have c3b1 : decide (0 < t604.length) = false := decide_eq_false (by omega)
    clear c3
    obtain rfl := Option.some.inj H
    go_enter Tryd.func8, Tryd.ntmps8
    go_wp2_with (first | ((with_reducible refine gate_callee (f := 22) rfl ?_); refine goesL_ (some 5) rfl rfl Tryd.func22 (by kernel_rfl) rfl #[.int .u8 a0] rfl (by (try simp only [List.map_toArray, List.map_cons, List.map_nil]); first | done | rfl | (simp only [List.length_drop, List.length_take]; rfl)) ?_; (with_reducible refine (zilog_form.calls k a0 t604 _ A2.out (by first | exact hT | exact tabs_below hT (by repeat (first | (with_reducible first | exact HB.out | apply below_alloc | apply pw_below_drewN | apply below_drew1) | exact HB.out)) | (repeat (first | exact hT | apply tabs_alloc | apply tabs_drewN | apply tabs_drew)))).mono ?_); rintro e w7 ⟨v605, rfl, ho0, hb⟩; refine ⟨_, rfl, ?_⟩; have n0_ := Aside0.mk (Kd.R_lower ho0 (below_size (by repeat (first | (with_reducible first | exact HB.out | apply below_alloc | apply pw_below_drewN | apply below_drew1) | exact HB.out)))); have n1_ := Aside0.mk (below_step (by repeat (first | (with_reducible first | exact HB.out | apply below_alloc | apply pw_below_drewN | apply below_drew1) | exact HB.out)) hb); clear HB; have HO606 := n0_; have HB := n1_; clear n0_ n1_; (try clear hb); (try clear hb2); (try clear hk); (try clear hi); (try clear ho0); obtain ⟨Ao8, co8, eo8⟩ := Kd.R_slice HO606.out; subst eo8))
    go_ret
    exact ⟨by first | rfl | (simp [errW_none, errW_some] <;> rfl) | (simp [*, errW_none, errW_some] <;> rfl), by repeat (first | (with_reducible first | exact HB.out | apply below_alloc | apply pw_below_drewN | apply below_drew1) | exact HB.out)⟩

/-! ### zilog_Args: function 11 -/
def zilog_Args.f (k : Nat) (a0 : Int) : Option (List ByteArray) := (zilog_form.f k a0).bind fun t627 => (if (t627.length : Int) > 0 then (if 1 ≤ (t627.length : Int) then (some (t627.drop (1 : Int).toNat)) else (none)) else (some ([] : List ByteArray)))
theorem zilog_Args.mono : ∀ a0 k, LeO (zilog_Args.f k a0) (zilog_Args.f (k + 1) a0) := by
  intro a0 k
  unfold zilog_Args.f
  repeat' first
      | (with_reducible exact zilog_form.mono _ _)
      | (with_reducible exact LeO.refl _)
      | (with_reducible exact LeO.none _)
      | (with_reducible refine LeO.ite ?_ ?_)
      | (with_reducible refine LeO.bind ?_ (fun _ => ?_))
      | exact zilog_form.mono _ _
      | exact LeO.none _
      | refine LeO.ite ?_ ?_
      | refine LeO.bind ?_ (fun _ => ?_)
set_option maxHeartbeats 8000000 in
set_option maxRecDepth 100000 in
theorem zilog_Args.calls (k : Nat) (a0 : Int) (r : List ByteArray) (w : World) (h : zilog_Args.f k a0 = some r) (hT : Tabs w) :
    Calls Tryd.prog 11 #[.int .u8 a0] w fun e w' => ∃ v0_ : Value, e = .returned (v0_) ∧ Kd.Q Kd.string 9 w' w.heap.size (fun _ => True) v0_ r ∧ Below w.heap.size w w' := by
  have HB := Aside0.mk (Below.refl w.heap.size w)
  have H : ((zilog_form.f k a0).bind fun t627 => (if (t627.length : Int) > 0 then (if 1 ≤ (t627.length : Int) then (some (t627.drop (1 : Int).toNat)) else (none)) else (some ([] : List ByteArray)))) = some r := h
  clear h
  replace H := Option.bind_eq_some_iff.mp H
  obtain ⟨t627, A20, H⟩ := H
  replace H : (if (t627.length : Int) > 0 then (if 1 ≤ (t627.length : Int) then (some (t627.drop (1 : Int).toNat)) else (none)) else (some ([] : List ByteArray))) = some r := H
  have A2 := Aside0.mk A20
  clear A20
  by_cases c3 : (t627.length : Int) > 0
  · rw [if_pos c3] at H
    have c3b0 : decide (0 < (t627.length : Int)) = true := decide_eq_true c3
    have c3b1 : decide (0 < t627.length) = true := decide_eq_true (by omega)
    clear c3
    by_cases c4 : 1 ≤ (t627.length : Int)
    · rw [if_pos c4] at H
      have c4b0 := eq_true c4
      have c4b1 : decide (1 ≤ (t627.length : Int)) = true := decide_eq_true c4
      clear c4
      obtain ⟨y630, hy630⟩ : ∃ y_ : List ByteArray, y_ = (t627.drop (1 : Int).toNat) := ⟨_, rfl⟩
      replace H : (some y630) = some r := by first | (rw [hy630]; with_reducible exact H) | (have H2_ := (Option.bind_some _ _).symm.trans H; rw [hy630]; with_reducible exact H2_) | (have H2_ := (Option.bind_some _ _).symm.trans H; with_reducible exact H2_) | with_reducible exact H | (rw [hy630]; exact H) | exact H
      have Ny630 := Aside0.mk hy630
      clear hy630
      obtain rfl := Option.some.inj H
      go_enter Tryd.func11, Tryd.ntmps11
      go_wp2_with (first | ((with_reducible refine gate_callee (f := 22) rfl ?_); refine goesL_ (some 5) rfl rfl Tryd.func22 (by kernel_rfl) rfl #[.int .u8 a0] rfl (by (try simp only [List.map_toArray, List.map_cons, List.map_nil]); first | done | rfl | (simp only [List.length_drop, List.length_take]; rfl)) ?_; (with_reducible refine (zilog_form.calls k a0 t627 _ A2.out (by first | exact hT | exact tabs_below hT (by repeat (first | (with_reducible first | exact HB.out | apply below_alloc | apply pw_below_drewN | apply below_drew1) | exact HB.out)) | (repeat (first | exact hT | apply tabs_alloc | apply tabs_drewN | apply tabs_drew)))).mono ?_); rintro e w5 ⟨v628, rfl, ho0, hb⟩; refine ⟨_, rfl, ?_⟩; have n0_ := Aside0.mk (Kd.R_lower ho0 (below_size (by repeat (first | (with_reducible first | exact HB.out | apply below_alloc | apply pw_below_drewN | apply below_drew1) | exact HB.out)))); have n1_ := Aside0.mk (below_step (by repeat (first | (with_reducible first | exact HB.out | apply below_alloc | apply pw_below_drewN | apply below_drew1) | exact HB.out)) hb); clear HB; have HO629 := n0_; have HB := n1_; clear n0_ n1_; (try clear hb); (try clear hb2); (try clear hk); (try clear hi); (try clear ho0); obtain ⟨Ao6, co6, eo6⟩ := Kd.R_slice HO629.out; subst eo6; have q7 : (1 : Int) ≤ ((t627.length : Int) : Int) := of_decide_eq_true (by first | (with_reducible assumption) | assumption); obtain ⟨i07, hi07, _, hsz7, _⟩ := info_parts info9; have hcut7 := cut_from (P := Tryd.prog) 24 9 .i64 Tryd.underlying24 hi07 1 hsz7 Ao6 t627.length co6 1 (by omega) q7; have hr7 := Kd.Q_drop (k := (1 : Int).toNat) (Kd.Q_of_R HO629.out) (by omega); obtain ⟨A7, hA7⟩ : ∃ A1, A1 = (if co6 = (1 : Int).toNat then Ao6 else (Ao6 : Option Addr).map (·.add ((1 : Int).toNat * 1))) := ⟨_, rfl⟩; obtain ⟨c7, hc7⟩ : ∃ c1, c1 = co6 - (1 : Int).toNat := ⟨_, rfl⟩; have hy7 : y630.length = t627.length - (1 : Int).toNat := (by rw [Ny630.out, List.length_drop]); rw [← Ny630.out] at hr7; rw [← hy7, ← hA7, ← hc7] at hcut7; replace hr7 : Kd.Q Kd.string 9 w5 w.heap.size (fun _ => True) (.slice A7 y630.length c7) y630 := (by rw [hA7, hc7, hy7]; exact hr7); have HE7 : Aside0 ((Value.slice A7 y630.length c7).ownBlock = (.slice Ao6 t627.length co6 : Value).ownBlock) := ⟨by rw [hA7]; split <;> (cases (Ao6 : Option Addr) <;> rfl)⟩; clear hy7 hi07 hsz7 HO629 hA7 hc7; have HO632 := Aside0.mk hr7; clear hr7; replace q7 := eq_true q7))
      go_ret
      exact ⟨_, by first | rfl | (simp [errW_none, errW_some] <;> rfl) | (simp [*, errW_none, errW_some] <;> rfl), by (with_reducible repeat (first | apply Kd.Q_alloc | apply Kd.Q_drewN | apply Kd.Q_drew)); exact HO632.out, by repeat (first | (with_reducible first | exact HB.out | apply below_alloc | apply pw_below_drewN | apply below_drew1) | exact HB.out)⟩
    · rw [if_neg c4] at H
      exact absurd H (by simp)
  · rw [if_neg c3] at H
    have c3b0 : decide (0 < (t627.length : Int)) = false := decide_eq_false c3
    have c3b1 : decide (0 < t627.length) = false := decide_eq_false (by omega)
    clear c3
    obtain rfl := Option.some.inj H
    go_enter Tryd.func11, Tryd.ntmps11
    go_wp2_with (first | ((with_reducible refine gate_callee (f := 22) rfl ?_); refine goesL_ (some 5) rfl rfl Tryd.func22 (by kernel_rfl) rfl #[.int .u8 a0] rfl (by (try simp only [List.map_toArray, List.map_cons, List.map_nil]); first | done | rfl | (simp only [List.length_drop, List.length_take]; rfl)) ?_; (with_reducible refine (zilog_form.calls k a0 t627 _ A2.out (by first | exact hT | exact tabs_below hT (by repeat (first | (with_reducible first | exact HB.out | apply below_alloc | apply pw_below_drewN | apply below_drew1) | exact HB.out)) | (repeat (first | exact hT | apply tabs_alloc | apply tabs_drewN | apply tabs_drew)))).mono ?_); rintro e w8 ⟨v628, rfl, ho0, hb⟩; refine ⟨_, rfl, ?_⟩; have n0_ := Aside0.mk (Kd.R_lower ho0 (below_size (by repeat (first | (with_reducible first | exact HB.out | apply below_alloc | apply pw_below_drewN | apply below_drew1) | exact HB.out)))); have n1_ := Aside0.mk (below_step (by repeat (first | (with_reducible first | exact HB.out | apply below_alloc | apply pw_below_drewN | apply below_drew1) | exact HB.out)) hb); clear HB; have HO629 := n0_; have HB := n1_; clear n0_ n1_; (try clear hb); (try clear hb2); (try clear hk); (try clear hi); (try clear ho0); obtain ⟨Ao9, co9, eo9⟩ := Kd.R_slice HO629.out; subst eo9))
    go_ret
    exact ⟨_, by first | rfl | (simp [errW_none, errW_some] <;> rfl) | (simp [*, errW_none, errW_some] <;> rfl), Kd.Q_of_R (by first | exact Kd.R_nil _ _ _ _ _ | exact Kd.N_nil _ _ _ _ _ | exact Kd.V_nil _ _ _ _ _ | exact Kd.Q_nil _ _ _ _ _ | exact Kd.S_nil _ _ _ _ _), by repeat (first | (with_reducible first | exact HB.out | apply below_alloc | apply pw_below_drewN | apply below_drew1) | exact HB.out)⟩

/-! ### zilog_list_string_58: function 58 -/
def zilog_list_string_58.l0 : Nat → List ByteArray → ByteArray → Int → Int → Option (Int)
  | 0, _, _, _, _ => none
  | k + 1, x0, x1, x7, x8 => if x8 < x7 then (if 0 ≤ x8 then (if x8 < (x0.length : Int) then (if x1.toList = (rdOf ByteArray.empty x0 x8).toList then (some x8) else (zilog_list_string_58.l0 k x0 x1 x7 (wrap64 (x8 + 1)))) else (none)) else (none)) else (some (-1))
def zilog_list_string_58.f (k : Nat) (l0 : List ByteArray) (a1 : ByteArray) : Option (Int) := zilog_list_string_58.l0 k l0 a1 (l0.length : Int) 0
theorem zilog_list_string_58.mono_l : ∀ k, (∀ y0 y1 y2 y3, LeO (zilog_list_string_58.l0 k y0 y1 y2 y3) (zilog_list_string_58.l0 (k + 1) y0 y1 y2 y3))
  | 0 => fun _ _ _ _ r h => by simp [zilog_list_string_58.l0] at h
  | k + 1 => by
    have ih0 := zilog_list_string_58.mono_l k
    · intro y0 y1 y2 y3
      unfold zilog_list_string_58.l0
      repeat' first
      | (with_reducible exact ih0 _ _ _ _)
      | (with_reducible exact LeO.refl _)
      | (with_reducible exact LeO.none _)
      | (with_reducible refine LeO.ite ?_ ?_)
      | (with_reducible refine LeO.bind ?_ (fun _ => ?_))
      | exact ih0 _ _ _ _
      | exact LeO.none _
      | refine LeO.ite ?_ ?_
      | refine LeO.bind ?_ (fun _ => ?_)
theorem zilog_list_string_58.mono : ∀ a0 a1 k, LeO (zilog_list_string_58.f k a0 a1) (zilog_list_string_58.f (k + 1) a0 a1) := by
  intro a0 a1 k
  have ih0 := zilog_list_string_58.mono_l k
  unfold zilog_list_string_58.f
  repeat' first
      | (with_reducible exact ih0 _ _ _ _)
      | (with_reducible exact LeO.refl _)
      | (with_reducible exact LeO.none _)
      | (with_reducible refine LeO.ite ?_ ?_)
      | (with_reducible refine LeO.bind ?_ (fun _ => ?_))
      | exact ih0 _ _ _ _
      | exact LeO.none _
      | refine LeO.ite ?_ ?_
      | refine LeO.bind ?_ (fun _ => ?_)
set_option maxHeartbeats 8000000 in
set_option maxRecDepth 100000 in
theorem zilog_list_string_58.calls (k : Nat) (A0 : Option Addr) (c0 : Nat) (l0 : List ByteArray) (a1 : ByteArray) (r : Int) (w : World) (hr0 : Kd.C Kd.string w A0 l0.length l0) (hc0 : l0.length ≤ c0) (h : zilog_list_string_58.f k l0 a1 = some r) (hT : Tabs w) :
    Calls Tryd.prog 58 #[.slice A0 l0.length c0, .string a1] w fun e w' => e = .returned (.int .i64 r) ∧ Drawn0 w w' := by
  have HR0 := Aside0.mk hr0
  have HC0 := Aside0.mk hc0
  clear hr0 hc0
  have H : (zilog_list_string_58.l0 k l0 a1 (l0.length : Int) 0) = some r := h
  clear h
  have H' := Aside0.mk H
  clear H
  go_enter Tryd.func58, Tryd.ntmps58
  go_wp2
  go_loopg [8] k (fun kq v8 w' => ∃ (x8_1 : Int), v8 = .int .i64 x8_1 ∧ Aside0 (zilog_list_string_58.l0 kq l0 a1 (l0.length : Int) x8_1 = some r) ∧ Aside0 (kq ≤ k) ∧ Drawn0 w w')
  case atStart => exact ⟨(0), (by first | rfl | (simp; done) | (simp [*]; done)), H', ⟨Nat.le_refl _⟩, by repeat (first | exact Drawn0.refl _ | apply Drawn0.step)⟩
  case round =>
    clear H'
    try clear p2
    obtain ⟨x8_1, rfl, HA, HK1, ⟨m1, rfl⟩⟩ := hrel
    cases gk with
    | zero => exact absurd HA.out (by simp [zilog_list_string_58.l0])
    | succ k1 =>
      have H := HA.out
      clear HA
      simp only [zilog_list_string_58.l0] at H
      by_cases c3 : x8_1 < (l0.length : Int)
      · rw [if_pos c3] at H
        have c3b0 : decide (x8_1 < (l0.length : Int)) = true := decide_eq_true c3
        clear c3
        by_cases c4 : 0 ≤ x8_1
        · rw [if_pos c4] at H
          have c4b0 : decide (0 ≤ x8_1) = true := decide_eq_true c4
          clear c4
          by_cases c5 : x8_1 < (l0.length : Int)
          · rw [if_pos c5] at H
            have c5b0 : decide (x8_1 < (l0.length : Int)) = true := decide_eq_true c5
            clear c5
            by_cases c6 : a1.toList = (rdOf ByteArray.empty l0 x8_1).toList
            · rw [if_pos c6] at H
              have c6b0 : (a1.toList == (rdOf ByteArray.empty l0 x8_1).toList) = true := beq_iff_eq.mpr c6
              have c6b1 : (a1.toList != (rdOf ByteArray.empty l0 x8_1).toList) = false := bne_eq_false_iff_eq.mpr c6
              clear c6
              obtain rfl := Option.some.inj H
              have p643 : 0 ≤ (x8_1 : Int) := of_decide_eq_true (by first | (with_reducible assumption) | assumption)
              have q643 : x8_1 < (l0.length : Int) := of_decide_eq_true (by first | (with_reducible assumption) | assumption)
              obtain ⟨ad643, e643, hx643_0⟩ := Kd.at_string HR0.out x8_1 p643 q643
              cases e643
              replace p643 := eq_true p643
              replace q643 := eq_true q643
              go_wp2
              go_ret
              exact ⟨by first | rfl | (simp; done) | (simp [*]; done), by repeat (first | exact Drawn0.refl _ | apply Drawn0.step)⟩
            · rw [if_neg c6] at H
              have c6b0 : (a1.toList == (rdOf ByteArray.empty l0 x8_1).toList) = false := beq_eq_false_iff_ne.mpr c6
              have c6b1 : (a1.toList != (rdOf ByteArray.empty l0 x8_1).toList) = true := bne_iff_ne.mpr c6
              have H' := Aside0.mk H
              clear H
              have p643 : 0 ≤ (x8_1 : Int) := of_decide_eq_true (by first | (with_reducible assumption) | assumption)
              have q643 : x8_1 < (l0.length : Int) := of_decide_eq_true (by first | (with_reducible assumption) | assumption)
              obtain ⟨ad643, e643, hx643_0⟩ := Kd.at_string HR0.out x8_1 p643 q643
              cases e643
              replace p643 := eq_true p643
              replace q643 := eq_true q643
              go_wp2
              go_roundg k1
              case measure => have := HK1.out; omega
              case rel => exact ⟨(wrap64 (x8_1 + 1)), (by first | rfl | (simp; done) | (simp [*]; done)), H', ⟨by have := HK1.out; omega⟩, by repeat (first | exact Drawn0.refl _ | apply Drawn0.step)⟩
          · rw [if_neg c5] at H
            exact absurd H (by simp)
        · rw [if_neg c4] at H
          exact absurd H (by simp)
      · rw [if_neg c3] at H
        have c3b0 : decide (x8_1 < (l0.length : Int)) = false := decide_eq_false c3
        clear c3
        obtain rfl := Option.some.inj H
        go_wp2
        go_ret
        exact ⟨by first | rfl | (simp; done) | (simp [*]; done), by repeat (first | exact Drawn0.refl _ | apply Drawn0.step)⟩

/-! ### zilog_list_string_43: function 43 -/
def zilog_list_string_43.f (k : Nat) (l0 : List ByteArray) (a1 : ByteArray) : Option (Bool) := (zilog_list_string_58.f k l0 a1).bind fun t644 => (some (decide (t644 ≥ 0)))
theorem zilog_list_string_43.mono : ∀ a0 a1 k, LeO (zilog_list_string_43.f k a0 a1) (zilog_list_string_43.f (k + 1) a0 a1) := by
  intro a0 a1 k
  unfold zilog_list_string_43.f
  repeat' first
      | (with_reducible exact zilog_list_string_58.mono _ _ _)
      | (with_reducible exact LeO.refl _)
      | (with_reducible exact LeO.none _)
      | (with_reducible refine LeO.ite ?_ ?_)
      | (with_reducible refine LeO.bind ?_ (fun _ => ?_))
      | exact zilog_list_string_58.mono _ _ _
      | exact LeO.none _
      | refine LeO.ite ?_ ?_
      | refine LeO.bind ?_ (fun _ => ?_)
set_option maxHeartbeats 8000000 in
set_option maxRecDepth 100000 in
theorem zilog_list_string_43.calls (k : Nat) (A0 : Option Addr) (c0 : Nat) (l0 : List ByteArray) (a1 : ByteArray) (r : Bool) (w : World) (hr0 : Kd.C Kd.string w A0 l0.length l0) (hc0 : l0.length ≤ c0) (h : zilog_list_string_43.f k l0 a1 = some r) (hT : Tabs w) :
    Calls Tryd.prog 43 #[.slice A0 l0.length c0, .string a1] w fun e w' => e = .returned (.bool r) ∧ Drawn0 w w' := by
  have HR0 := Aside0.mk hr0
  have HC0 := Aside0.mk hc0
  clear hr0 hc0
  have H : ((zilog_list_string_58.f k l0 a1).bind fun t644 => (some (decide (t644 ≥ 0)))) = some r := h
  clear h
  replace H := Option.bind_eq_some_iff.mp H
  obtain ⟨t644, A30, H⟩ := H
  replace H : (some (decide (t644 ≥ 0))) = some r := H
  have A3 := Aside0.mk A30
  clear A30
  obtain rfl := Option.some.inj H
  go_enter Tryd.func43, Tryd.ntmps43
  go_wp2_with (first | ((with_reducible refine gate_callee (f := 58) rfl ?_); refine goesL_ (some 7) rfl rfl Tryd.func58 (by kernel_rfl) rfl #[.slice A0 l0.length c0, .string a1] rfl (by (try simp only [List.map_toArray, List.map_cons, List.map_nil]); first | done | rfl | (simp only [List.length_drop, List.length_take]; rfl)) ?_; (with_reducible refine (zilog_list_string_58.calls k _ _ l0 a1 t644 _ ?side1 ?side2 A3.out (by first | exact hT | exact tabs_below hT (by repeat (first | (with_reducible first | exact HB.out | apply below_alloc | apply pw_below_drewN | apply below_drew1) | exact HB.out)) | (repeat (first | exact hT | apply tabs_alloc | apply tabs_drewN | apply tabs_drew)))).mono ?_); (case side1 => repeat (first | exact HR0.out | (with_reducible refine Kd.C_alloc ?_ _) | (with_reducible refine Kd.C_drewN ?_ _) | (with_reducible refine Kd.C_drew ?_))); (case side2 => exact HC0.out); rintro e w' ⟨rfl, ⟨nd, rfl⟩⟩; refine ⟨_, rfl, ?_⟩))
  go_ret
  exact ⟨by first | rfl | (simp; done) | (simp [*]; done), by repeat (first | exact Drawn0.refl _ | apply Drawn0.step)⟩

/-! ### zilog_list_has: function 26 -/
def zilog_list_has.f (k : Nat) (l0 : List ByteArray) (a1 : ByteArray) : Option (Bool) := (zilog_list_string_43.f k l0 a1).bind fun t645 => (some t645)
theorem zilog_list_has.mono : ∀ a0 a1 k, LeO (zilog_list_has.f k a0 a1) (zilog_list_has.f (k + 1) a0 a1) := by
  intro a0 a1 k
  unfold zilog_list_has.f
  repeat' first
      | (with_reducible exact zilog_list_string_43.mono _ _ _)
      | (with_reducible exact LeO.refl _)
      | (with_reducible exact LeO.none _)
      | (with_reducible refine LeO.ite ?_ ?_)
      | (with_reducible refine LeO.bind ?_ (fun _ => ?_))
      | exact zilog_list_string_43.mono _ _ _
      | exact LeO.none _
      | refine LeO.ite ?_ ?_
      | refine LeO.bind ?_ (fun _ => ?_)
set_option maxHeartbeats 8000000 in
set_option maxRecDepth 100000 in
theorem zilog_list_has.calls (k : Nat) (A0 : Option Addr) (c0 : Nat) (l0 : List ByteArray) (a1 : ByteArray) (r : Bool) (w : World) (hr0 : Kd.C Kd.string w A0 l0.length l0) (hc0 : l0.length ≤ c0) (h : zilog_list_has.f k l0 a1 = some r) (hT : Tabs w) :
    Calls Tryd.prog 26 #[.slice A0 l0.length c0, .string a1] w fun e w' => e = .returned (.bool r) ∧ Drawn0 w w' := by
  have HR0 := Aside0.mk hr0
  have HC0 := Aside0.mk hc0
  clear hr0 hc0
  have H : ((zilog_list_string_43.f k l0 a1).bind fun t645 => (some t645)) = some r := h
  clear h
  replace H := Option.bind_eq_some_iff.mp H
  obtain ⟨t645, A30, H⟩ := H
  replace H : (some t645) = some r := H
  have A3 := Aside0.mk A30
  clear A30
  obtain rfl := Option.some.inj H
  go_enter Tryd.func26, Tryd.ntmps26
  go_wp2_with (first | ((with_reducible refine gate_callee (f := 43) rfl ?_); refine goesL_ (some 7) rfl rfl Tryd.func43 (by kernel_rfl) rfl #[.slice A0 l0.length c0, .string a1] rfl (by (try simp only [List.map_toArray, List.map_cons, List.map_nil]); first | done | rfl | (simp only [List.length_drop, List.length_take]; rfl)) ?_; (with_reducible refine (zilog_list_string_43.calls k _ _ l0 a1 t645 _ ?side1 ?side2 A3.out (by first | exact hT | exact tabs_below hT (by repeat (first | (with_reducible first | exact HB.out | apply below_alloc | apply pw_below_drewN | apply below_drew1) | exact HB.out)) | (repeat (first | exact hT | apply tabs_alloc | apply tabs_drewN | apply tabs_drew)))).mono ?_); (case side1 => repeat (first | exact HR0.out | (with_reducible refine Kd.C_alloc ?_ _) | (with_reducible refine Kd.C_drewN ?_ _) | (with_reducible refine Kd.C_drew ?_))); (case side2 => exact HC0.out); rintro e w' ⟨rfl, ⟨nd, rfl⟩⟩; refine ⟨_, rfl, ?_⟩))
  go_ret
  exact ⟨by first | rfl | (simp; done) | (simp [*]; done), by repeat (first | exact Drawn0.refl _ | apply Drawn0.step)⟩

/-! ### zilog_of: function 27 -/
def zilog_of.f (l0 : List ByteArray) : Option (List ByteArray) := (strings_Join.f l0 (⟨#[32]⟩ : ByteArray)).bind fun t650 => ((strings_Fields.f t650).bind fun t651 => (some t651))
set_option maxHeartbeats 8000000 in
set_option maxRecDepth 100000 in
theorem zilog_of.calls (A0 : Option Addr) (c0 : Nat) (l0 : List ByteArray) (r : List ByteArray) (w : World) (hr0 : Kd.C Kd.string w A0 l0.length l0) (hc0 : l0.length ≤ c0) (h : zilog_of.f l0 = some r) (hT : Tabs w) :
    Calls Tryd.prog 27 #[.slice A0 l0.length c0] w fun e w' => ∃ v0_ : Value, e = .returned (.agg #[v0_]) ∧ Kd.R Kd.string 9 w' w.heap.size (fun _ => True) v0_ r ∧ Below w.heap.size w w' := by
  have hu43 := Tryd.underlying43
  have HR0 := Aside0.mk hr0
  have HC0 := Aside0.mk hc0
  clear hr0 hc0
  have HB := Aside0.mk (Below.refl w.heap.size w)
  have H : ((strings_Join.f l0 (⟨#[32]⟩ : ByteArray)).bind fun t650 => ((strings_Fields.f t650).bind fun t651 => (some t651))) = some r := h
  clear h
  replace H := Option.bind_eq_some_iff.mp H
  obtain ⟨t650, A20, H⟩ := H
  replace H : ((strings_Fields.f t650).bind fun t651 => (some t651)) = some r := H
  have A2 := Aside0.mk A20
  clear A20
  replace H := Option.bind_eq_some_iff.mp H
  obtain ⟨t651, A30, H⟩ := H
  replace H : (some t651) = some r := H
  have A3 := Aside0.mk A30
  clear A30
  obtain rfl := Option.some.inj H
  go_enter Tryd.func27, Tryd.ntmps27
  go_wp2_with (first | ((with_reducible refine gate_dst (N := 2) rfl ?_); refine box_event ?hg (N := 2) ?hd (cs := #[.slice none 0 0]) (t := 43) ?hr ?_; (case hd => rfl); (case hg => rfl); (case hr => first | (go_simp; done) | (go_simp; rfl)); intro gb649 hg w4 hbox hb; have n0_ := Aside0.mk (below_step (by repeat (first | (with_reducible first | exact HB.out | apply below_alloc | apply pw_below_drewN | apply below_drew1) | exact HB.out)) hb); have n1_ := Aside0.mk (hbox); have n2_ := Aside0.mk ((by rw [hg]; exact (below_size (by repeat (first | (with_reducible first | exact HB.out | apply below_alloc | apply pw_below_drewN | apply below_drew1) | exact HB.out))) : w.heap.size ≤ gb649)); have n3_ := Aside0.mk ((by rw [hg]; exact (below_size (by repeat (first | (with_reducible first | exact HB.out | apply below_alloc | apply pw_below_drewN | apply below_drew1) | exact HB.out))) : w.heap.size ≤ gb649)); clear HB; have HB := n0_; have BK649 := n1_; have GW649 := n2_; have GE649 := n3_; clear n0_ n1_ n2_ n3_; clear hb hbox hg) | ((with_reducible refine gate_callee (f := 44) rfl ?_); refine goesL_ (some 4) rfl rfl Tryd.func44 (by kernel_rfl) rfl #[.slice A0 l0.length c0, .string (⟨#[32]⟩ : ByteArray)] rfl (by (try simp only [List.map_toArray, List.map_cons, List.map_nil]); first | done | rfl | (simp only [List.length_drop, List.length_take]; rfl)) ?_; (with_reducible refine (strings_Join.calls _ _ l0 (⟨#[32]⟩ : ByteArray) t650 _ ?side1 ?side2 A2.out (by first | exact hT | exact tabs_below hT (by repeat (first | (with_reducible first | exact HB.out | apply below_alloc | apply pw_below_drewN | apply below_drew1) | exact HB.out)) | (repeat (first | exact hT | apply tabs_alloc | apply tabs_drewN | apply tabs_drew)))).mono ?_); (case side1 => repeat (first | exact (Kd.C_below HR0.out HB.out) | (with_reducible refine Kd.C_alloc ?_ _) | (with_reducible refine Kd.C_drewN ?_ _) | (with_reducible refine Kd.C_drew ?_))); (case side2 => exact HC0.out); rintro e w5 ⟨rfl, hb⟩; refine ⟨_, rfl, ?_⟩; have n0_ := Aside0.mk (blk_below (g := gb649) (o := .cells #[.slice none 0 0] 43 (0, 0)) (by (with_reducible repeat (first | refine blk_drewN ?_ _ | refine blk_drew ?_ | refine blk_alloc ?_ _)); exact BK649.out) hb); have n1_ := Aside0.mk (below_step (by repeat (first | (with_reducible first | exact HB.out | apply below_alloc | apply pw_below_drewN | apply below_drew1 | refine below_set ?_ GE649.out) | exact HB.out)) hb); clear BK649; clear HB; have BK649 := n0_; have HB := n1_; clear n0_ n1_; (try clear hb); (try clear hb2); (try clear hk); (try clear hi)) | ((with_reducible refine gate_callee (f := 32) rfl ?_); refine goesL_ (some 5) rfl rfl Tryd.func32 (by kernel_rfl) rfl #[.string t650] rfl (by (try simp only [List.map_toArray, List.map_cons, List.map_nil]); first | done | rfl | (simp only [List.length_drop, List.length_take]; rfl)) ?_; (with_reducible refine (strings_Fields.calls t650 t651 _ A3.out (by first | exact hT | exact tabs_below hT (by repeat (first | (with_reducible first | exact HB.out | apply below_alloc | apply pw_below_drewN | apply below_drew1) | exact HB.out)) | (repeat (first | exact hT | apply tabs_alloc | apply tabs_drewN | apply tabs_drew)))).mono ?_); rintro e w6 ⟨v652, rfl, ho0, hb⟩; refine ⟨_, rfl, ?_⟩; have n0_ := Aside0.mk (Kd.R_lower ho0 (below_size (by repeat (first | (with_reducible first | exact HB.out | apply below_alloc | apply pw_below_drewN | apply below_drew1 | refine below_set ?_ GE649.out) | exact HB.out)))); have n1_ := Aside0.mk (blk_below (g := gb649) (o := .cells #[.slice none 0 0] 43 (0, 0)) (by (with_reducible repeat (first | refine blk_drewN ?_ _ | refine blk_drew ?_ | refine blk_alloc ?_ _)); exact BK649.out) hb); have n2_ := Aside0.mk (below_step (by repeat (first | (with_reducible first | exact HB.out | apply below_alloc | apply pw_below_drewN | apply below_drew1 | refine below_set ?_ GE649.out) | exact HB.out)) hb); clear BK649; clear HB; have HO653 := n0_; have BK649 := n1_; have HB := n2_; clear n0_ n1_ n2_; (try clear hb); (try clear hb2); (try clear hk); (try clear hi); (try clear ho0); obtain ⟨Ao7, co7, eo7⟩ := Kd.R_slice HO653.out; subst eo7; have hcz8_0 : w6.cell? ⟨gb649, 0, none⟩ = some (.slice none 0 0) := (blk_cell BK649.out 0).trans rfl; have hfz8_0 := blk_frozen BK649.out 0))
  refine bodyPost_ret (results_cell_row rfl _ _ gb649 43 #[.slice Ao7 t651.length co7] (0, 0) _ rfl (by (with_reducible repeat (first | refine blk_drewN ?_ _ | refine blk_drew ?_ | refine blk_alloc ?_ _)); refine blk_put (cs := #[.slice none 0 0]) ?_ 0 _ rfl; (with_reducible repeat (first | refine blk_drewN ?_ _ | refine blk_drew ?_ | refine blk_alloc ?_ _)); exact BK649.out) Tryd.underlying43 rfl (by kernel_rfl)) rfl ?_
  exact ⟨_, by first | rfl | (simp [errW_none, errW_some] <;> rfl) | (simp [*, errW_none, errW_some] <;> rfl), by (with_reducible repeat (first | apply Kd.R_alloc | apply Kd.R_drewN | apply Kd.R_drew)); exact Kd.R_mono (Kd.R_far (p := ⟨gb649, 0, none⟩) (Kd.R_types HO653.out BK649.out (by decide)) (fun _ hk => hk.2) (.slice Ao7 t651.length co7)) (fun _ hk => trivial), by repeat (first | (with_reducible first | exact HB.out | apply below_alloc | apply pw_below_drewN | apply below_drew1 | refine below_set ?_ GE649.out) | exact HB.out)⟩

/-! ### zilog_Reserved: function 16 -/
def zilog_Reserved.f (k : Nat) (a0 : Int) (a1 : ByteArray) : Option (Bool) := if a0 = 0 then ((zilog_of.f (([(⟨#[79, 82, 32, 88, 79, 82, 32, 65, 78, 68, 32, 78, 79, 84, 32, 77, 79, 68, 32, 83, 72, 76, 32, 83, 72, 82]⟩ : ByteArray), (⟨#[65, 32, 66, 32, 67, 32, 68, 32, 69, 32, 72, 32, 76, 32, 77, 32, 83, 80, 32, 80, 83, 87]⟩ : ByteArray)] : List ByteArray))).bind fun t657 => ((zilog_list_has.f k t657 a1).bind fun t660 => (some t660))) else (if a0 = 1 then ((zilog_of.f (([(⟨#[79, 82, 32, 88, 79, 82, 32, 65, 78, 68, 32, 78, 79, 84, 32, 77, 79, 68, 32, 83, 72, 76, 32, 83, 72, 82]⟩ : ByteArray), (⟨#[65, 32, 66, 32, 67, 32, 68, 32, 69, 32, 72, 32, 76, 32, 65, 70, 32, 66, 67, 32, 68, 69, 32, 72, 76, 32, 83, 80]⟩ : ByteArray), (⟨#[78, 90, 32, 90, 32, 78, 67, 32, 80, 79, 32, 80, 69, 32, 80, 32, 77]⟩ : ByteArray)] : List ByteArray))).bind fun t664 => ((zilog_list_has.f k t664 a1).bind fun t667 => (some t667))) else (if a0 = 2 then ((zilog_of.f (([(⟨#[79, 82, 32, 88, 79, 82, 32, 65, 78, 68, 32, 78, 79, 84, 32, 77, 79, 68, 32, 83, 72, 76, 32, 83, 72, 82]⟩ : ByteArray), (⟨#[65, 76, 32, 67, 76, 32, 68, 76, 32, 66, 76, 32, 65, 72, 32, 67, 72, 32, 68, 72, 32, 66, 72]⟩ : ByteArray), (⟨#[65, 88, 32, 67, 88, 32, 68, 88, 32, 66, 88, 32, 83, 80, 32, 66, 80, 32, 83, 73, 32, 68, 73]⟩ : ByteArray)] : List ByteArray))).bind fun t671 => ((zilog_list_has.f k t671 a1).bind fun t674 => (some t674))) else (some false)))
theorem zilog_Reserved.mono : ∀ a0 a1 k, LeO (zilog_Reserved.f k a0 a1) (zilog_Reserved.f (k + 1) a0 a1) := by
  intro a0 a1 k
  unfold zilog_Reserved.f
  repeat' first
      | (with_reducible exact zilog_list_has.mono _ _ _)
      | (with_reducible exact LeO.refl _)
      | (with_reducible exact LeO.none _)
      | (with_reducible refine LeO.ite ?_ ?_)
      | (with_reducible refine LeO.bind ?_ (fun _ => ?_))
      | exact zilog_list_has.mono _ _ _
      | exact LeO.none _
      | refine LeO.ite ?_ ?_
      | refine LeO.bind ?_ (fun _ => ?_)
set_option maxHeartbeats 8000000 in
set_option maxRecDepth 100000 in
theorem zilog_Reserved.calls (k : Nat) (a0 : Int) (a1 : ByteArray) (r : Bool) (w : World) (h : zilog_Reserved.f k a0 a1 = some r) (hT : Tabs w) :
    Calls Tryd.prog 16 #[.int .i64 a0, .string a1] w fun e w' => e = .returned (.bool r) ∧ Below w.heap.size w w' := by
  have HB := Aside0.mk (Below.refl w.heap.size w)
  have H : (if a0 = 0 then ((zilog_of.f (([(⟨#[79, 82, 32, 88, 79, 82, 32, 65, 78, 68, 32, 78, 79, 84, 32, 77, 79, 68, 32, 83, 72, 76, 32, 83, 72, 82]⟩ : ByteArray), (⟨#[65, 32, 66, 32, 67, 32, 68, 32, 69, 32, 72, 32, 76, 32, 77, 32, 83, 80, 32, 80, 83, 87]⟩ : ByteArray)] : List ByteArray))).bind fun t657 => ((zilog_list_has.f k t657 a1).bind fun t660 => (some t660))) else (if a0 = 1 then ((zilog_of.f (([(⟨#[79, 82, 32, 88, 79, 82, 32, 65, 78, 68, 32, 78, 79, 84, 32, 77, 79, 68, 32, 83, 72, 76, 32, 83, 72, 82]⟩ : ByteArray), (⟨#[65, 32, 66, 32, 67, 32, 68, 32, 69, 32, 72, 32, 76, 32, 65, 70, 32, 66, 67, 32, 68, 69, 32, 72, 76, 32, 83, 80]⟩ : ByteArray), (⟨#[78, 90, 32, 90, 32, 78, 67, 32, 80, 79, 32, 80, 69, 32, 80, 32, 77]⟩ : ByteArray)] : List ByteArray))).bind fun t664 => ((zilog_list_has.f k t664 a1).bind fun t667 => (some t667))) else (if a0 = 2 then ((zilog_of.f (([(⟨#[79, 82, 32, 88, 79, 82, 32, 65, 78, 68, 32, 78, 79, 84, 32, 77, 79, 68, 32, 83, 72, 76, 32, 83, 72, 82]⟩ : ByteArray), (⟨#[65, 76, 32, 67, 76, 32, 68, 76, 32, 66, 76, 32, 65, 72, 32, 67, 72, 32, 68, 72, 32, 66, 72]⟩ : ByteArray), (⟨#[65, 88, 32, 67, 88, 32, 68, 88, 32, 66, 88, 32, 83, 80, 32, 66, 80, 32, 83, 73, 32, 68, 73]⟩ : ByteArray)] : List ByteArray))).bind fun t671 => ((zilog_list_has.f k t671 a1).bind fun t674 => (some t674))) else (some false)))) = some r := h
  clear h
  by_cases c3 : a0 = 0
  · rw [if_pos c3] at H
    have c3b0 : (a0 == 0) = true := beq_iff_eq.mpr c3
    have c3b1 : (a0 != 0) = false := bne_eq_false_iff_eq.mpr c3
    clear c3
    obtain ⟨y654, hy654⟩ : ∃ y_ : List ByteArray, y_ = (([(⟨#[79, 82, 32, 88, 79, 82, 32, 65, 78, 68, 32, 78, 79, 84, 32, 77, 79, 68, 32, 83, 72, 76, 32, 83, 72, 82]⟩ : ByteArray), (⟨#[65, 32, 66, 32, 67, 32, 68, 32, 69, 32, 72, 32, 76, 32, 77, 32, 83, 80, 32, 80, 83, 87]⟩ : ByteArray)] : List ByteArray)) := ⟨_, rfl⟩
    replace H : ((zilog_of.f y654).bind fun t657 => ((zilog_list_has.f k t657 a1).bind fun t660 => (some t660))) = some r := by first | (rw [hy654]; with_reducible exact H) | (have H2_ := (Option.bind_some _ _).symm.trans H; rw [hy654]; with_reducible exact H2_) | (have H2_ := (Option.bind_some _ _).symm.trans H; with_reducible exact H2_) | with_reducible exact H | (rw [hy654]; exact H) | exact H
    have Ny654 := Aside0.mk hy654
    clear hy654
    replace H := Option.bind_eq_some_iff.mp H
    obtain ⟨t657, A40, H⟩ := H
    replace H : ((zilog_list_has.f k t657 a1).bind fun t660 => (some t660)) = some r := H
    have A4 := Aside0.mk A40
    clear A40
    replace H := Option.bind_eq_some_iff.mp H
    obtain ⟨t660, A50, H⟩ := H
    replace H : (some t660) = some r := H
    have A5 := Aside0.mk A50
    clear A50
    obtain rfl := Option.some.inj H
    go_enter Tryd.func16, Tryd.ntmps16
    go_wp2_with (first | ((with_reducible refine gate_dst (N := 10) rfl ?_); refine Kd.R_lit Kd.string _ 9 ?hg (N := 10) ?hd (xs := ([(⟨#[79, 82, 32, 88, 79, 82, 32, 65, 78, 68, 32, 78, 79, 84, 32, 77, 79, 68, 32, 83, 72, 76, 32, 83, 72, 82]⟩ : ByteArray), (⟨#[65, 32, 66, 32, 67, 32, 68, 32, 69, 32, 72, 32, 76, 32, 77, 32, 83, 80, 32, 80, 83, 87]⟩ : ByteArray)] : List ByteArray)) (inner := [.string (⟨#[79, 82, 32, 88, 79, 82, 32, 65, 78, 68, 32, 78, 79, 84, 32, 77, 79, 68, 32, 83, 72, 76, 32, 83, 72, 82]⟩ : ByteArray), .string (⟨#[65, 32, 66, 32, 67, 32, 68, 32, 69, 32, 72, 32, 76, 32, 77, 32, 83, 80, 32, 80, 83, 87]⟩ : ByteArray)]) (ok := fun _ => True) (okp := fun _ => True) ?hr ?hp (fun _ hk => hk) trivial (Below.refl _ _) (Nat.le_refl _) (by simp) ?_; (case hd => rfl); (case hg => rfl); (case hr => first | (go_simp; done) | (go_simp; rfl)); (case hp => exact (Reps.one (show Kd.M Kd.string _ _ _ (⟨#[79, 82, 32, 88, 79, 82, 32, 65, 78, 68, 32, 78, 79, 84, 32, 77, 79, 68, 32, 83, 72, 76, 32, 83, 72, 82]⟩ : ByteArray) [.string (⟨#[79, 82, 32, 88, 79, 82, 32, 65, 78, 68, 32, 78, 79, 84, 32, 77, 79, 68, 32, 83, 72, 76, 32, 83, 72, 82]⟩ : ByteArray)] from rfl) (Reps.one (show Kd.M Kd.string _ _ _ (⟨#[65, 32, 66, 32, 67, 32, 68, 32, 69, 32, 72, 32, 76, 32, 77, 32, 83, 80, 32, 80, 83, 87]⟩ : ByteArray) [.string (⟨#[65, 32, 66, 32, 67, 32, 68, 32, 69, 32, 72, 32, 76, 32, 77, 32, 83, 80, 32, 80, 83, 87]⟩ : ByteArray)] from rfl) (Reps.none _ _)))); intro v655 w6 ho7 hb hg_ hnew_; clear hg_ hnew_; (first | rw [← Ny654.out] at ho7 | (simp only [Int.reduceToNat] at ho7; rw [← Ny654.out] at ho7)); have n0_ := Aside0.mk (Kd.R_lower ho7 (below_size (by repeat (first | (with_reducible first | exact HB.out | apply below_alloc | apply pw_below_drewN | apply below_drew1) | exact HB.out)))); have n1_ := Aside0.mk (below_step (by repeat (first | (with_reducible first | exact HB.out | apply below_alloc | apply pw_below_drewN | apply below_drew1) | exact HB.out)) hb); clear HB; have HO656 := n0_; have HB := n1_; clear n0_ n1_; clear hb ho7; obtain ⟨Ao8, co8, eo8⟩ := Kd.R_slice HO656.out; subst eo8) | ((with_reducible refine gate_callee (f := 27) rfl ?_); refine goesL_ (some 11) rfl rfl Tryd.func27 (by kernel_rfl) rfl #[.slice Ao8 y654.length co8] rfl (by (try simp only [List.map_toArray, List.map_cons, List.map_nil]); first | done | rfl | (simp only [List.length_drop, List.length_take]; rfl)) ?_; (with_reducible refine (zilog_of.calls _ _ y654 t657 _ ?side1 ?side2 A4.out (by first | exact hT | exact tabs_below hT (by repeat (first | (with_reducible first | exact HB.out | apply below_alloc | apply pw_below_drewN | apply below_drew1) | exact HB.out)) | (repeat (first | exact hT | apply tabs_alloc | apply tabs_drewN | apply tabs_drew)))).mono ?_); (case side1 => repeat (first | exact (Kd.R_reads' HO656.out).2.2 | (with_reducible refine Kd.C_alloc ?_ _) | (with_reducible refine Kd.C_drewN ?_ _) | (with_reducible refine Kd.C_drew ?_))); (case side2 => exact (Kd.R_reads' HO656.out).2.1); rintro e w9 ⟨v658, rfl, ho0, hb⟩; refine ⟨_, rfl, ?_⟩; have n0_ := Aside0.mk (Kd.R_elder' (by (with_reducible repeat (first | apply Kd.R_alloc | apply Kd.R_drewN | apply Kd.R_drew)); exact HO656.out) (Kd.R_base ho0) hb); have n1_ := Aside0.mk (Kd.R_lower (Kd.R_new' ho0 (Kd.R_lt (by (with_reducible repeat (first | apply Kd.R_alloc | apply Kd.R_drewN | apply Kd.R_drew)); exact HO656.out))) (below_size (by repeat (first | (with_reducible first | exact HB.out | apply below_alloc | apply pw_below_drewN | apply below_drew1) | exact HB.out)))); have n2_ := Aside0.mk (below_step (by repeat (first | (with_reducible first | exact HB.out | apply below_alloc | apply pw_below_drewN | apply below_drew1) | exact HB.out)) hb); clear HO656; clear HB; have HO656 := n0_; have HO659 := n1_; have HB := n2_; clear n0_ n1_ n2_; (try clear hb); (try clear hb2); (try clear hk); (try clear hi); (try clear ho0); obtain ⟨Ao10, co10, eo10⟩ := Kd.R_slice HO659.out; subst eo10) | ((with_reducible refine gate_callee (f := 26) rfl ?_); refine goesL_ (some 14) rfl rfl Tryd.func26 (by kernel_rfl) rfl #[.slice Ao10 t657.length co10, .string a1] rfl (by (try simp only [List.map_toArray, List.map_cons, List.map_nil]); first | done | rfl | (simp only [List.length_drop, List.length_take]; rfl)) ?_; (with_reducible refine (zilog_list_has.calls k _ _ t657 a1 t660 _ ?side1 ?side2 A5.out (by first | exact hT | exact tabs_below hT (by repeat (first | (with_reducible first | exact HB.out | apply below_alloc | apply pw_below_drewN | apply below_drew1) | exact HB.out)) | (repeat (first | exact hT | apply tabs_alloc | apply tabs_drewN | apply tabs_drew)))).mono ?_); (case side1 => repeat (first | exact (Kd.R_reads' HO659.out).2.2 | (with_reducible refine Kd.C_alloc ?_ _) | (with_reducible refine Kd.C_drewN ?_ _) | (with_reducible refine Kd.C_drew ?_))); (case side2 => exact (Kd.R_reads' HO659.out).2.1); rintro e w' ⟨rfl, ⟨nd, rfl⟩⟩; refine ⟨_, rfl, ?_⟩))
    go_ret
    exact ⟨by first | rfl | (simp [errW_none, errW_some] <;> rfl) | (simp [*, errW_none, errW_some] <;> rfl), by repeat (first | (with_reducible first | exact HB.out | apply below_alloc | apply pw_below_drewN | apply below_drew1) | exact HB.out)⟩
  · rw [if_neg c3] at H
    have c3b0 : (a0 == 0) = false := beq_eq_false_iff_ne.mpr c3
    have c3b1 : (a0 != 0) = true := bne_iff_ne.mpr c3
    by_cases c11 : a0 = 1
    · rw [if_pos c11] at H
      have c11b0 : (a0 == 1) = true := beq_iff_eq.mpr c11
      have c11b1 : (a0 != 1) = false := bne_eq_false_iff_eq.mpr c11
      clear c11
      obtain ⟨y661, hy661⟩ : ∃ y_ : List ByteArray, y_ = (([(⟨#[79, 82, 32, 88, 79, 82, 32, 65, 78, 68, 32, 78, 79, 84, 32, 77, 79, 68, 32, 83, 72, 76, 32, 83, 72, 82]⟩ : ByteArray), (⟨#[65, 32, 66, 32, 67, 32, 68, 32, 69, 32, 72, 32, 76, 32, 65, 70, 32, 66, 67, 32, 68, 69, 32, 72, 76, 32, 83, 80]⟩ : ByteArray), (⟨#[78, 90, 32, 90, 32, 78, 67, 32, 80, 79, 32, 80, 69, 32, 80, 32, 77]⟩ : ByteArray)] : List ByteArray)) := ⟨_, rfl⟩
      replace H : ((zilog_of.f y661).bind fun t664 => ((zilog_list_has.f k t664 a1).bind fun t667 => (some t667))) = some r := by first | (rw [hy661]; with_reducible exact H) | (have H2_ := (Option.bind_some _ _).symm.trans H; rw [hy661]; with_reducible exact H2_) | (have H2_ := (Option.bind_some _ _).symm.trans H; with_reducible exact H2_) | with_reducible exact H | (rw [hy661]; exact H) | exact H
      have Ny661 := Aside0.mk hy661
      clear hy661
      replace H := Option.bind_eq_some_iff.mp H
      obtain ⟨t664, A120, H⟩ := H
      replace H : ((zilog_list_has.f k t664 a1).bind fun t667 => (some t667)) = some r := H
      have A12 := Aside0.mk A120
      clear A120
      replace H := Option.bind_eq_some_iff.mp H
      obtain ⟨t667, A130, H⟩ := H
      replace H : (some t667) = some r := H
      have A13 := Aside0.mk A130
      clear A130
      obtain rfl := Option.some.inj H
      go_enter Tryd.func16, Tryd.ntmps16
      go_wp2_with (first | ((with_reducible refine gate_dst (N := 18) rfl ?_); refine Kd.R_lit Kd.string _ 9 ?hg (N := 18) ?hd (xs := ([(⟨#[79, 82, 32, 88, 79, 82, 32, 65, 78, 68, 32, 78, 79, 84, 32, 77, 79, 68, 32, 83, 72, 76, 32, 83, 72, 82]⟩ : ByteArray), (⟨#[65, 32, 66, 32, 67, 32, 68, 32, 69, 32, 72, 32, 76, 32, 65, 70, 32, 66, 67, 32, 68, 69, 32, 72, 76, 32, 83, 80]⟩ : ByteArray), (⟨#[78, 90, 32, 90, 32, 78, 67, 32, 80, 79, 32, 80, 69, 32, 80, 32, 77]⟩ : ByteArray)] : List ByteArray)) (inner := [.string (⟨#[79, 82, 32, 88, 79, 82, 32, 65, 78, 68, 32, 78, 79, 84, 32, 77, 79, 68, 32, 83, 72, 76, 32, 83, 72, 82]⟩ : ByteArray), .string (⟨#[65, 32, 66, 32, 67, 32, 68, 32, 69, 32, 72, 32, 76, 32, 65, 70, 32, 66, 67, 32, 68, 69, 32, 72, 76, 32, 83, 80]⟩ : ByteArray), .string (⟨#[78, 90, 32, 90, 32, 78, 67, 32, 80, 79, 32, 80, 69, 32, 80, 32, 77]⟩ : ByteArray)]) (ok := fun _ => True) (okp := fun _ => True) ?hr ?hp (fun _ hk => hk) trivial (Below.refl _ _) (Nat.le_refl _) (by simp) ?_; (case hd => rfl); (case hg => rfl); (case hr => first | (go_simp; done) | (go_simp; rfl)); (case hp => exact (Reps.one (show Kd.M Kd.string _ _ _ (⟨#[79, 82, 32, 88, 79, 82, 32, 65, 78, 68, 32, 78, 79, 84, 32, 77, 79, 68, 32, 83, 72, 76, 32, 83, 72, 82]⟩ : ByteArray) [.string (⟨#[79, 82, 32, 88, 79, 82, 32, 65, 78, 68, 32, 78, 79, 84, 32, 77, 79, 68, 32, 83, 72, 76, 32, 83, 72, 82]⟩ : ByteArray)] from rfl) (Reps.one (show Kd.M Kd.string _ _ _ (⟨#[65, 32, 66, 32, 67, 32, 68, 32, 69, 32, 72, 32, 76, 32, 65, 70, 32, 66, 67, 32, 68, 69, 32, 72, 76, 32, 83, 80]⟩ : ByteArray) [.string (⟨#[65, 32, 66, 32, 67, 32, 68, 32, 69, 32, 72, 32, 76, 32, 65, 70, 32, 66, 67, 32, 68, 69, 32, 72, 76, 32, 83, 80]⟩ : ByteArray)] from rfl) (Reps.one (show Kd.M Kd.string _ _ _ (⟨#[78, 90, 32, 90, 32, 78, 67, 32, 80, 79, 32, 80, 69, 32, 80, 32, 77]⟩ : ByteArray) [.string (⟨#[78, 90, 32, 90, 32, 78, 67, 32, 80, 79, 32, 80, 69, 32, 80, 32, 77]⟩ : ByteArray)] from rfl) (Reps.none _ _))))); intro v662 w14 ho15 hb hg_ hnew_; clear hg_ hnew_; (first | rw [← Ny661.out] at ho15 | (simp only [Int.reduceToNat] at ho15; rw [← Ny661.out] at ho15)); have n0_ := Aside0.mk (Kd.R_lower ho15 (below_size (by repeat (first | (with_reducible first | exact HB.out | apply below_alloc | apply pw_below_drewN | apply below_drew1) | exact HB.out)))); have n1_ := Aside0.mk (below_step (by repeat (first | (with_reducible first | exact HB.out | apply below_alloc | apply pw_below_drewN | apply below_drew1) | exact HB.out)) hb); clear HB; have HO663 := n0_; have HB := n1_; clear n0_ n1_; clear hb ho15; obtain ⟨Ao16, co16, eo16⟩ := Kd.R_slice HO663.out; subst eo16) | ((with_reducible refine gate_callee (f := 27) rfl ?_); refine goesL_ (some 19) rfl rfl Tryd.func27 (by kernel_rfl) rfl #[.slice Ao16 y661.length co16] rfl (by (try simp only [List.map_toArray, List.map_cons, List.map_nil]); first | done | rfl | (simp only [List.length_drop, List.length_take]; rfl)) ?_; (with_reducible refine (zilog_of.calls _ _ y661 t664 _ ?side1 ?side2 A12.out (by first | exact hT | exact tabs_below hT (by repeat (first | (with_reducible first | exact HB.out | apply below_alloc | apply pw_below_drewN | apply below_drew1) | exact HB.out)) | (repeat (first | exact hT | apply tabs_alloc | apply tabs_drewN | apply tabs_drew)))).mono ?_); (case side1 => repeat (first | exact (Kd.R_reads' HO663.out).2.2 | (with_reducible refine Kd.C_alloc ?_ _) | (with_reducible refine Kd.C_drewN ?_ _) | (with_reducible refine Kd.C_drew ?_))); (case side2 => exact (Kd.R_reads' HO663.out).2.1); rintro e w17 ⟨v665, rfl, ho0, hb⟩; refine ⟨_, rfl, ?_⟩; have n0_ := Aside0.mk (Kd.R_elder' (by (with_reducible repeat (first | apply Kd.R_alloc | apply Kd.R_drewN | apply Kd.R_drew)); exact HO663.out) (Kd.R_base ho0) hb); have n1_ := Aside0.mk (Kd.R_lower (Kd.R_new' ho0 (Kd.R_lt (by (with_reducible repeat (first | apply Kd.R_alloc | apply Kd.R_drewN | apply Kd.R_drew)); exact HO663.out))) (below_size (by repeat (first | (with_reducible first | exact HB.out | apply below_alloc | apply pw_below_drewN | apply below_drew1) | exact HB.out)))); have n2_ := Aside0.mk (below_step (by repeat (first | (with_reducible first | exact HB.out | apply below_alloc | apply pw_below_drewN | apply below_drew1) | exact HB.out)) hb); clear HO663; clear HB; have HO663 := n0_; have HO666 := n1_; have HB := n2_; clear n0_ n1_ n2_; (try clear hb); (try clear hb2); (try clear hk); (try clear hi); (try clear ho0); obtain ⟨Ao18, co18, eo18⟩ := Kd.R_slice HO666.out; subst eo18) | ((with_reducible refine gate_callee (f := 26) rfl ?_); refine goesL_ (some 22) rfl rfl Tryd.func26 (by kernel_rfl) rfl #[.slice Ao18 t664.length co18, .string a1] rfl (by (try simp only [List.map_toArray, List.map_cons, List.map_nil]); first | done | rfl | (simp only [List.length_drop, List.length_take]; rfl)) ?_; (with_reducible refine (zilog_list_has.calls k _ _ t664 a1 t667 _ ?side1 ?side2 A13.out (by first | exact hT | exact tabs_below hT (by repeat (first | (with_reducible first | exact HB.out | apply below_alloc | apply pw_below_drewN | apply below_drew1) | exact HB.out)) | (repeat (first | exact hT | apply tabs_alloc | apply tabs_drewN | apply tabs_drew)))).mono ?_); (case side1 => repeat (first | exact (Kd.R_reads' HO666.out).2.2 | (with_reducible refine Kd.C_alloc ?_ _) | (with_reducible refine Kd.C_drewN ?_ _) | (with_reducible refine Kd.C_drew ?_))); (case side2 => exact (Kd.R_reads' HO666.out).2.1); rintro e w' ⟨rfl, ⟨nd, rfl⟩⟩; refine ⟨_, rfl, ?_⟩))
      go_ret
      exact ⟨by first | rfl | (simp [errW_none, errW_some] <;> rfl) | (simp [*, errW_none, errW_some] <;> rfl), by repeat (first | (with_reducible first | exact HB.out | apply below_alloc | apply pw_below_drewN | apply below_drew1) | exact HB.out)⟩
    · rw [if_neg c11] at H
      have c11b0 : (a0 == 1) = false := beq_eq_false_iff_ne.mpr c11
      have c11b1 : (a0 != 1) = true := bne_iff_ne.mpr c11
      by_cases c19 : a0 = 2
      · rw [if_pos c19] at H
        have c19b0 : (a0 == 2) = true := beq_iff_eq.mpr c19
        have c19b1 : (a0 != 2) = false := bne_eq_false_iff_eq.mpr c19
        clear c19
        obtain ⟨y668, hy668⟩ : ∃ y_ : List ByteArray, y_ = (([(⟨#[79, 82, 32, 88, 79, 82, 32, 65, 78, 68, 32, 78, 79, 84, 32, 77, 79, 68, 32, 83, 72, 76, 32, 83, 72, 82]⟩ : ByteArray), (⟨#[65, 76, 32, 67, 76, 32, 68, 76, 32, 66, 76, 32, 65, 72, 32, 67, 72, 32, 68, 72, 32, 66, 72]⟩ : ByteArray), (⟨#[65, 88, 32, 67, 88, 32, 68, 88, 32, 66, 88, 32, 83, 80, 32, 66, 80, 32, 83, 73, 32, 68, 73]⟩ : ByteArray)] : List ByteArray)) := ⟨_, rfl⟩
        replace H : ((zilog_of.f y668).bind fun t671 => ((zilog_list_has.f k t671 a1).bind fun t674 => (some t674))) = some r := by first | (rw [hy668]; with_reducible exact H) | (have H2_ := (Option.bind_some _ _).symm.trans H; rw [hy668]; with_reducible exact H2_) | (have H2_ := (Option.bind_some _ _).symm.trans H; with_reducible exact H2_) | with_reducible exact H | (rw [hy668]; exact H) | exact H
        have Ny668 := Aside0.mk hy668
        clear hy668
        replace H := Option.bind_eq_some_iff.mp H
        obtain ⟨t671, A200, H⟩ := H
        replace H : ((zilog_list_has.f k t671 a1).bind fun t674 => (some t674)) = some r := H
        have A20 := Aside0.mk A200
        clear A200
        replace H := Option.bind_eq_some_iff.mp H
        obtain ⟨t674, A210, H⟩ := H
        replace H : (some t674) = some r := H
        have A21 := Aside0.mk A210
        clear A210
        obtain rfl := Option.some.inj H
        go_enter Tryd.func16, Tryd.ntmps16
        go_wp2_with (first | ((with_reducible refine gate_dst (N := 26) rfl ?_); refine Kd.R_lit Kd.string _ 9 ?hg (N := 26) ?hd (xs := ([(⟨#[79, 82, 32, 88, 79, 82, 32, 65, 78, 68, 32, 78, 79, 84, 32, 77, 79, 68, 32, 83, 72, 76, 32, 83, 72, 82]⟩ : ByteArray), (⟨#[65, 76, 32, 67, 76, 32, 68, 76, 32, 66, 76, 32, 65, 72, 32, 67, 72, 32, 68, 72, 32, 66, 72]⟩ : ByteArray), (⟨#[65, 88, 32, 67, 88, 32, 68, 88, 32, 66, 88, 32, 83, 80, 32, 66, 80, 32, 83, 73, 32, 68, 73]⟩ : ByteArray)] : List ByteArray)) (inner := [.string (⟨#[79, 82, 32, 88, 79, 82, 32, 65, 78, 68, 32, 78, 79, 84, 32, 77, 79, 68, 32, 83, 72, 76, 32, 83, 72, 82]⟩ : ByteArray), .string (⟨#[65, 76, 32, 67, 76, 32, 68, 76, 32, 66, 76, 32, 65, 72, 32, 67, 72, 32, 68, 72, 32, 66, 72]⟩ : ByteArray), .string (⟨#[65, 88, 32, 67, 88, 32, 68, 88, 32, 66, 88, 32, 83, 80, 32, 66, 80, 32, 83, 73, 32, 68, 73]⟩ : ByteArray)]) (ok := fun _ => True) (okp := fun _ => True) ?hr ?hp (fun _ hk => hk) trivial (Below.refl _ _) (Nat.le_refl _) (by simp) ?_; (case hd => rfl); (case hg => rfl); (case hr => first | (go_simp; done) | (go_simp; rfl)); (case hp => exact (Reps.one (show Kd.M Kd.string _ _ _ (⟨#[79, 82, 32, 88, 79, 82, 32, 65, 78, 68, 32, 78, 79, 84, 32, 77, 79, 68, 32, 83, 72, 76, 32, 83, 72, 82]⟩ : ByteArray) [.string (⟨#[79, 82, 32, 88, 79, 82, 32, 65, 78, 68, 32, 78, 79, 84, 32, 77, 79, 68, 32, 83, 72, 76, 32, 83, 72, 82]⟩ : ByteArray)] from rfl) (Reps.one (show Kd.M Kd.string _ _ _ (⟨#[65, 76, 32, 67, 76, 32, 68, 76, 32, 66, 76, 32, 65, 72, 32, 67, 72, 32, 68, 72, 32, 66, 72]⟩ : ByteArray) [.string (⟨#[65, 76, 32, 67, 76, 32, 68, 76, 32, 66, 76, 32, 65, 72, 32, 67, 72, 32, 68, 72, 32, 66, 72]⟩ : ByteArray)] from rfl) (Reps.one (show Kd.M Kd.string _ _ _ (⟨#[65, 88, 32, 67, 88, 32, 68, 88, 32, 66, 88, 32, 83, 80, 32, 66, 80, 32, 83, 73, 32, 68, 73]⟩ : ByteArray) [.string (⟨#[65, 88, 32, 67, 88, 32, 68, 88, 32, 66, 88, 32, 83, 80, 32, 66, 80, 32, 83, 73, 32, 68, 73]⟩ : ByteArray)] from rfl) (Reps.none _ _))))); intro v669 w22 ho23 hb hg_ hnew_; clear hg_ hnew_; (first | rw [← Ny668.out] at ho23 | (simp only [Int.reduceToNat] at ho23; rw [← Ny668.out] at ho23)); have n0_ := Aside0.mk (Kd.R_lower ho23 (below_size (by repeat (first | (with_reducible first | exact HB.out | apply below_alloc | apply pw_below_drewN | apply below_drew1) | exact HB.out)))); have n1_ := Aside0.mk (below_step (by repeat (first | (with_reducible first | exact HB.out | apply below_alloc | apply pw_below_drewN | apply below_drew1) | exact HB.out)) hb); clear HB; have HO670 := n0_; have HB := n1_; clear n0_ n1_; clear hb ho23; obtain ⟨Ao24, co24, eo24⟩ := Kd.R_slice HO670.out; subst eo24) | ((with_reducible refine gate_callee (f := 27) rfl ?_); refine goesL_ (some 27) rfl rfl Tryd.func27 (by kernel_rfl) rfl #[.slice Ao24 y668.length co24] rfl (by (try simp only [List.map_toArray, List.map_cons, List.map_nil]); first | done | rfl | (simp only [List.length_drop, List.length_take]; rfl)) ?_; (with_reducible refine (zilog_of.calls _ _ y668 t671 _ ?side1 ?side2 A20.out (by first | exact hT | exact tabs_below hT (by repeat (first | (with_reducible first | exact HB.out | apply below_alloc | apply pw_below_drewN | apply below_drew1) | exact HB.out)) | (repeat (first | exact hT | apply tabs_alloc | apply tabs_drewN | apply tabs_drew)))).mono ?_); (case side1 => repeat (first | exact (Kd.R_reads' HO670.out).2.2 | (with_reducible refine Kd.C_alloc ?_ _) | (with_reducible refine Kd.C_drewN ?_ _) | (with_reducible refine Kd.C_drew ?_))); (case side2 => exact (Kd.R_reads' HO670.out).2.1); rintro e w25 ⟨v672, rfl, ho0, hb⟩; refine ⟨_, rfl, ?_⟩; have n0_ := Aside0.mk (Kd.R_elder' (by (with_reducible repeat (first | apply Kd.R_alloc | apply Kd.R_drewN | apply Kd.R_drew)); exact HO670.out) (Kd.R_base ho0) hb); have n1_ := Aside0.mk (Kd.R_lower (Kd.R_new' ho0 (Kd.R_lt (by (with_reducible repeat (first | apply Kd.R_alloc | apply Kd.R_drewN | apply Kd.R_drew)); exact HO670.out))) (below_size (by repeat (first | (with_reducible first | exact HB.out | apply below_alloc | apply pw_below_drewN | apply below_drew1) | exact HB.out)))); have n2_ := Aside0.mk (below_step (by repeat (first | (with_reducible first | exact HB.out | apply below_alloc | apply pw_below_drewN | apply below_drew1) | exact HB.out)) hb); clear HO670; clear HB; have HO670 := n0_; have HO673 := n1_; have HB := n2_; clear n0_ n1_ n2_; (try clear hb); (try clear hb2); (try clear hk); (try clear hi); (try clear ho0); obtain ⟨Ao26, co26, eo26⟩ := Kd.R_slice HO673.out; subst eo26) | ((with_reducible refine gate_callee (f := 26) rfl ?_); refine goesL_ (some 30) rfl rfl Tryd.func26 (by kernel_rfl) rfl #[.slice Ao26 t671.length co26, .string a1] rfl (by (try simp only [List.map_toArray, List.map_cons, List.map_nil]); first | done | rfl | (simp only [List.length_drop, List.length_take]; rfl)) ?_; (with_reducible refine (zilog_list_has.calls k _ _ t671 a1 t674 _ ?side1 ?side2 A21.out (by first | exact hT | exact tabs_below hT (by repeat (first | (with_reducible first | exact HB.out | apply below_alloc | apply pw_below_drewN | apply below_drew1) | exact HB.out)) | (repeat (first | exact hT | apply tabs_alloc | apply tabs_drewN | apply tabs_drew)))).mono ?_); (case side1 => repeat (first | exact (Kd.R_reads' HO673.out).2.2 | (with_reducible refine Kd.C_alloc ?_ _) | (with_reducible refine Kd.C_drewN ?_ _) | (with_reducible refine Kd.C_drew ?_))); (case side2 => exact (Kd.R_reads' HO673.out).2.1); rintro e w' ⟨rfl, ⟨nd, rfl⟩⟩; refine ⟨_, rfl, ?_⟩))
        go_ret
        exact ⟨by first | rfl | (simp [errW_none, errW_some] <;> rfl) | (simp [*, errW_none, errW_some] <;> rfl), by repeat (first | (with_reducible first | exact HB.out | apply below_alloc | apply pw_below_drewN | apply below_drew1) | exact HB.out)⟩
      · rw [if_neg c19] at H
        have c19b0 : (a0 == 2) = false := beq_eq_false_iff_ne.mpr c19
        have c19b1 : (a0 != 2) = true := bne_iff_ne.mpr c19
        obtain rfl := Option.some.inj H
        go_enter Tryd.func16, Tryd.ntmps16
        go_wp2
        go_ret
        exact ⟨by first | rfl | (simp [errW_none, errW_some] <;> rfl) | (simp [*, errW_none, errW_some] <;> rfl), by repeat (first | (with_reducible first | exact HB.out | apply below_alloc | apply pw_below_drewN | apply below_drew1) | exact HB.out)⟩

end Go.Proofs.YtldmnenomcipcaaDoor.G

/- Written by a program of ours (wip/tools/gprint.py) over the kit's print: contracts of the program's functions, each as a plain function. -/
import Derived.Test.YtldmnenomcipcaaDoorG0
import Derived.Test.YtldmnenomcipcaaDoorG6
namespace Go.Proofs.YtldmnenomcipcaaDoor.G
open Go.RowKit Go.Proofs.YtldmnenomcipcaaDoorW.PrintWords Go.Proofs.YtldmnenomcipcaaDoorW.PrintLast Go.Proofs.YtldmnenomcipcaaDoorW.PrintMore
attribute [local go_sem] max2_int min2_int max_two min_two max_three min_three max_four min_four   -- for this text's walks alone
set_option linter.unusedVariables false
set_option linter.unusedSimpArgs false

/-! ### zilog_Rename: function 14 -/
def zilog_Rename.j0 : Nat → ByteArray → Bool → Option (ByteArray × Int)
  | 0, _, _ => none
  | k + 1, x0, x7 => if x7 = true then (some (x0, 0)) else (if (x0.size : Int) ≥ 16 then (some ((⟨#[]⟩ : ByteArray), 11)) else (if x0.size + 1 ≤ 9223372036854775807 then (some (x0 ++ (⟨#[95]⟩ : ByteArray), 0)) else (none)))
def zilog_Rename.f (k : Nat) (a0 : ByteArray) : Option (ByteArray × Int) := (strings_TrimRight.f a0 (⟨#[95]⟩ : ByteArray)).bind fun t675 => ((zilog_Reserved.f k 1 t675).bind fun t676 => (if t676 = true then ((zilog_Reserved.f k 0 t675).bind fun t677 => (zilog_Rename.j0 k a0 t677)) else (zilog_Rename.j0 k a0 true)))
theorem zilog_Rename.mono_l : ∀ k, (∀ y0 y1, LeO (zilog_Rename.j0 k y0 y1) (zilog_Rename.j0 (k + 1) y0 y1))
  | 0 => fun _ _ r h => by simp [zilog_Rename.j0] at h
  | k + 1 => by
    have ih0 := zilog_Rename.mono_l k
    · intro y0 y1
      unfold zilog_Rename.j0
      repeat' first
      | (with_reducible exact ih0 _ _)
      | (with_reducible exact zilog_Reserved.mono _ _ _)
      | (with_reducible exact LeO.refl _)
      | (with_reducible exact LeO.none _)
      | (with_reducible refine LeO.ite ?_ ?_)
      | (with_reducible refine LeO.bind ?_ (fun _ => ?_))
      | exact ih0 _ _
      | exact zilog_Reserved.mono _ _ _
      | exact LeO.none _
      | refine LeO.ite ?_ ?_
      | refine LeO.bind ?_ (fun _ => ?_)
theorem zilog_Rename.mono : ∀ a0 k, LeO (zilog_Rename.f k a0) (zilog_Rename.f (k + 1) a0) := by
  intro a0 k
  have ih0 := zilog_Rename.mono_l k
  unfold zilog_Rename.f
  repeat' first
      | (with_reducible exact ih0 _ _)
      | (with_reducible exact zilog_Reserved.mono _ _ _)
      | (with_reducible exact LeO.refl _)
      | (with_reducible exact LeO.none _)
      | (with_reducible refine LeO.ite ?_ ?_)
      | (with_reducible refine LeO.bind ?_ (fun _ => ?_))
      | exact ih0 _ _
      | exact zilog_Reserved.mono _ _ _
      | exact LeO.none _
      | refine LeO.ite ?_ ?_
      | refine LeO.bind ?_ (fun _ => ?_)
set_option maxHeartbeats 8000000 in
set_option maxRecDepth 100000 in
theorem zilog_Rename.calls (k : Nat) (a0 : ByteArray) (r1 : ByteArray) (r2 : Int) (w : World) (h : zilog_Rename.f k a0 = some (r1, r2)) (hT : Tabs w) :
    Calls Tryd.prog 14 #[.string a0] w fun e w' => e = .returned (.tuple #[.string r1, .int .i64 r2]) ∧ Below w.heap.size w w' := by
  have HB := Aside0.mk (Below.refl w.heap.size w)
  have H : ((strings_TrimRight.f a0 (⟨#[95]⟩ : ByteArray)).bind fun t675 => ((zilog_Reserved.f k 1 t675).bind fun t676 => (if t676 = true then ((zilog_Reserved.f k 0 t675).bind fun t677 => (zilog_Rename.j0 k a0 t677)) else (zilog_Rename.j0 k a0 true)))) = some (r1, r2) := h
  clear h
  replace H := Option.bind_eq_some_iff.mp H
  obtain ⟨t675, A20, H⟩ := H
  replace H : ((zilog_Reserved.f k 1 t675).bind fun t676 => (if t676 = true then ((zilog_Reserved.f k 0 t675).bind fun t677 => (zilog_Rename.j0 k a0 t677)) else (zilog_Rename.j0 k a0 true))) = some (r1, r2) := H
  have A2 := Aside0.mk A20
  clear A20
  have HC3 := Aside0.mk H
  clear H
  go_enter Tryd.func14, Tryd.ntmps14
  go_upto_region 2 with (first | ((with_reducible refine gate_callee (f := 25) rfl ?_); refine goesL_ (some 6) rfl rfl Tryd.func25 (by kernel_rfl) rfl #[.string a0, .string (⟨#[95]⟩ : ByteArray)] rfl (by (try simp only [List.map_toArray, List.map_cons, List.map_nil]); first | done | rfl | (simp only [List.length_drop, List.length_take]; rfl)) ?_; (with_reducible refine (strings_TrimRight.calls a0 (⟨#[95]⟩ : ByteArray) t675 _ A2.out (by first | exact hT | exact tabs_below hT (by repeat (first | (with_reducible first | exact HB.out | apply below_alloc | apply pw_below_drewN | apply below_drew1) | exact HB.out)) | (repeat (first | exact hT | apply tabs_alloc | apply tabs_drewN | apply tabs_drew)))).mono ?_); rintro e w' ⟨rfl, ⟨nd, rfl⟩⟩; refine ⟨_, rfl, ?_⟩))
  (try simp only [Act.put, List.setIfInBounds_toArray, List.set_cons_zero, List.set_cons_succ])
  go_cut [7] (fun v7 wc => ∃ (kq : Nat) (x7_2 : Bool), v7 = .bool x7_2 ∧ Aside0 (zilog_Rename.j0 kq a0 x7_2 = some (r1, r2)) ∧ Aside0 (kq ≤ k) ∧ Aside0 (Below w.heap.size w wc))
  case first =>
    have H := HC3.out
    clear HC3
    replace H := Option.bind_eq_some_iff.mp H
    obtain ⟨t676, A40, H⟩ := H
    replace H : (if t676 = true then ((zilog_Reserved.f k 0 t675).bind fun t677 => (zilog_Rename.j0 k a0 t677)) else (zilog_Rename.j0 k a0 true)) = some (r1, r2) := H
    have A4 := Aside0.mk A40
    clear A40
    by_cases c5 : t676 = true
    · subst c5
      have H1 : ((zilog_Reserved.f k 0 t675).bind fun t677 => (zilog_Rename.j0 k a0 t677)) = some (r1, r2) := by rw [if_pos rfl] at H; exact H
      clear H
      have H := H1
      clear H1
      replace H := Option.bind_eq_some_iff.mp H
      obtain ⟨t677, A60, H⟩ := H
      replace H : (zilog_Rename.j0 k a0 t677) = some (r1, r2) := H
      have A6 := Aside0.mk A60
      clear A60
      have H' := Aside0.mk H
      clear H
      go_wp2_with (first | ((with_reducible refine gate_callee (f := 16) rfl ?_); refine goesL_ (some 9) rfl rfl Tryd.func16 (by kernel_rfl) rfl #[.int .i64 1, .string t675] rfl (by (try simp only [List.map_toArray, List.map_cons, List.map_nil]); first | done | rfl | (simp only [List.length_drop, List.length_take]; rfl)) ?_; (with_reducible refine (zilog_Reserved.calls k 1 t675 true _ A4.out (by first | exact hT | exact tabs_below hT (by repeat (first | (with_reducible first | exact HB.out | apply below_alloc | apply pw_below_drewN | apply below_drew1) | exact HB.out)) | (repeat (first | exact hT | apply tabs_alloc | apply tabs_drewN | apply tabs_drew)))).mono ?_); rintro e w7 ⟨rfl, hb⟩; refine ⟨_, rfl, ?_⟩; have n0_ := Aside0.mk (below_step (by repeat (first | (with_reducible first | exact HB.out | apply below_alloc | apply pw_below_drewN | apply below_drew1) | exact HB.out)) hb); clear HB; have HB := n0_; clear n0_; (try clear hb); (try clear hb2); (try clear hk); (try clear hi)) | (go_at_call 16; (with_reducible refine (zilog_Reserved.calls k 0 t675 t677 _ A6.out (by first | exact hT | exact tabs_below hT (by repeat (first | (with_reducible first | exact HB.out | apply below_alloc | apply pw_below_drewN | apply below_drew1) | exact HB.out)) | (repeat (first | exact hT | apply tabs_alloc | apply tabs_drewN | apply tabs_drew)))).mono ?_); rintro e w8 ⟨rfl, hb⟩; have n0_ := Aside0.mk (below_step (by repeat (first | (with_reducible first | exact HB.out | apply below_alloc | apply pw_below_drewN | apply below_drew1) | exact HB.out)) hb); clear HB; have HB := n0_; clear n0_; (try clear hb); (try clear hb2); (try clear hk); (try clear hi)))
      go_meet
      case rel => exact ⟨_, (t677), (by first | rfl | (simp; done) | (simp [*]; done)), H', ⟨by first | omega | exact Nat.le_refl _⟩, ⟨by repeat (first | (with_reducible first | exact HB.out | apply below_alloc | apply pw_below_drewN | apply below_drew1) | exact HB.out)⟩⟩
    · replace c5 := Bool.eq_false_iff.mpr c5
      subst c5
      have H1 : (zilog_Rename.j0 k a0 true) = some (r1, r2) := by rw [if_neg (show ¬ (false = true) by decide)] at H; exact H
      clear H
      have H := H1
      clear H1
      have H' := Aside0.mk H
      clear H
      go_wp2_with (first | ((with_reducible refine gate_callee (f := 16) rfl ?_); refine goesL_ (some 9) rfl rfl Tryd.func16 (by kernel_rfl) rfl #[.int .i64 1, .string t675] rfl (by (try simp only [List.map_toArray, List.map_cons, List.map_nil]); first | done | rfl | (simp only [List.length_drop, List.length_take]; rfl)) ?_; (with_reducible refine (zilog_Reserved.calls k 1 t675 false _ A4.out (by first | exact hT | exact tabs_below hT (by repeat (first | (with_reducible first | exact HB.out | apply below_alloc | apply pw_below_drewN | apply below_drew1) | exact HB.out)) | (repeat (first | exact hT | apply tabs_alloc | apply tabs_drewN | apply tabs_drew)))).mono ?_); rintro e w9 ⟨rfl, hb⟩; refine ⟨_, rfl, ?_⟩; have n0_ := Aside0.mk (below_step (by repeat (first | (with_reducible first | exact HB.out | apply below_alloc | apply pw_below_drewN | apply below_drew1) | exact HB.out)) hb); clear HB; have HB := n0_; clear n0_; (try clear hb); (try clear hb2); (try clear hk); (try clear hi)))
      go_meet
      case rel => exact ⟨_, (true), (by first | rfl | (simp; done) | (simp [*]; done)), H', ⟨by first | omega | exact Nat.le_refl _⟩, ⟨by repeat (first | (with_reducible first | exact HB.out | apply below_alloc | apply pw_below_drewN | apply below_drew1) | exact HB.out)⟩⟩
  case rest =>
    clear HC3
    try clear c1
    try clear c2
    try clear p2
    try clear c5
    obtain ⟨kq, x7_2, rfl, HA, HJ2, HB⟩ := hcut
    cases kq with
    | zero => exact absurd HA.out (by simp [zilog_Rename.j0])
    | succ kj2 =>
      have H := HA.out
      clear HA
      simp only [zilog_Rename.j0] at H
      by_cases c10 : x7_2 = true
      · subst c10
        have H1 : (some (a0, 0)) = some (r1, r2) := by rw [if_pos rfl] at H; exact H
        clear H
        have H := H1
        clear H1
        simp only [Option.some.injEq, Prod.mk.injEq] at H
        obtain ⟨rfl, rfl⟩ := H
        go_wp2
        go_ret2
        exact ⟨by first | rfl | (simp [errW_none, errW_some] <;> rfl) | (simp [*, errW_none, errW_some] <;> rfl), by repeat (first | (with_reducible first | exact HB.out | apply below_alloc | apply pw_below_drewN | apply below_drew1) | exact HB.out)⟩
      · replace c10 := Bool.eq_false_iff.mpr c10
        subst c10
        have H1 : (if (a0.size : Int) ≥ 16 then (some ((⟨#[]⟩ : ByteArray), 11)) else (if a0.size + 1 ≤ 9223372036854775807 then (some (a0 ++ (⟨#[95]⟩ : ByteArray), 0)) else (none))) = some (r1, r2) := by rw [if_neg (show ¬ (false = true) by decide)] at H; exact H
        clear H
        have H := H1
        clear H1
        by_cases c11 : (a0.size : Int) ≥ 16
        · rw [if_pos c11] at H
          have c11b0 : decide (16 ≤ (a0.size : Int)) = true := decide_eq_true c11
          have c11b1 : decide (16 ≤ a0.size) = true := decide_eq_true (by omega)
          clear c11
          simp only [Option.some.injEq, Prod.mk.injEq] at H
          obtain ⟨rfl, rfl⟩ := H
          go_wp2
          go_ret2
          exact ⟨by first | rfl | (simp [errW_none, errW_some] <;> rfl) | (simp [*, errW_none, errW_some] <;> rfl), by repeat (first | (with_reducible first | exact HB.out | apply below_alloc | apply pw_below_drewN | apply below_drew1) | exact HB.out)⟩
        · rw [if_neg c11] at H
          have c11b0 : decide (16 ≤ (a0.size : Int)) = false := decide_eq_false c11
          have c11b1 : decide (16 ≤ a0.size) = false := decide_eq_false (by omega)
          clear c11
          by_cases c12 : a0.size + 1 ≤ 9223372036854775807
          · rw [if_pos c12] at H
            have c12b0 := eq_true c12
            have c12b1 : decide (a0.size + 1 ≤ 9223372036854775807) = true := decide_eq_true c12
            try have c12b2 : (9223372036854775807 < a0.size + 1) = False := eq_false (Nat.not_lt.2 c12)
            simp only [Option.some.injEq, Prod.mk.injEq] at H
            obtain ⟨rfl, rfl⟩ := H
            go_wp2
            go_ret2
            exact ⟨by first | rfl | (simp [errW_none, errW_some] <;> rfl) | (simp [*, errW_none, errW_some] <;> rfl), by repeat (first | (with_reducible first | exact HB.out | apply below_alloc | apply pw_below_drewN | apply below_drew1) | exact HB.out)⟩
          · rw [if_neg c12] at H
            exact absurd H (by simp)

/-! ### pidginlaw07_alive: function 13 -/
def pidginlaw07_alive.f (k : Nat)  : Option (Bool) := (zilog_Args.f k 126).bind fun t678 => ((zilog_Rename.f k (⟨#[78, 90, 95]⟩ : ByteArray)).bind fun bt681 => ((zilog_Name.f k 126).bind fun t683 => (if t683.toList = ([76, 68] : List UInt8) then (if (t678.length : Int) = 2 then (if 0 < (t678.length : Int) then (if (rdOf ByteArray.empty t678 0).toList = ([65] : List UInt8) then (if 1 < (t678.length : Int) then (if (rdOf ByteArray.empty t678 1).toList = ([40, 72, 76, 41] : List UInt8) then (if bt681.1.toList = ([78, 90, 95, 95] : List UInt8) then (some (bt681.2 == 0)) else (some false)) else (some false)) else (none)) else (some false)) else (none)) else (some false)) else (some false))))
theorem pidginlaw07_alive.mono : ∀ k, LeO (pidginlaw07_alive.f k ) (pidginlaw07_alive.f (k + 1) ) := by
  intro  k
  unfold pidginlaw07_alive.f
  repeat' first
      | (with_reducible exact zilog_Args.mono _ _)
      | (with_reducible exact zilog_Name.mono _ _)
      | (with_reducible exact zilog_Rename.mono _ _)
      | (with_reducible exact LeO.refl _)
      | (with_reducible exact LeO.none _)
      | (with_reducible refine LeO.ite ?_ ?_)
      | (with_reducible refine LeO.bind ?_ (fun _ => ?_))
      | exact zilog_Args.mono _ _
      | exact zilog_Name.mono _ _
      | exact zilog_Rename.mono _ _
      | exact LeO.none _
      | refine LeO.ite ?_ ?_
      | refine LeO.bind ?_ (fun _ => ?_)
set_option maxHeartbeats 8000000 in
set_option maxRecDepth 100000 in
theorem pidginlaw07_alive.calls (k : Nat)  (r : Bool) (w : World) (h : pidginlaw07_alive.f k  = some r) (hT : Tabs w) :
    Calls Tryd.prog 13 #[] w fun e w' => e = .returned (.bool r) ∧ Below w.heap.size w w' := by
  have HB := Aside0.mk (Below.refl w.heap.size w)
  have H : ((zilog_Args.f k 126).bind fun t678 => ((zilog_Rename.f k (⟨#[78, 90, 95]⟩ : ByteArray)).bind fun bt681 => ((zilog_Name.f k 126).bind fun t683 => (if t683.toList = ([76, 68] : List UInt8) then (if (t678.length : Int) = 2 then (if 0 < (t678.length : Int) then (if (rdOf ByteArray.empty t678 0).toList = ([65] : List UInt8) then (if 1 < (t678.length : Int) then (if (rdOf ByteArray.empty t678 1).toList = ([40, 72, 76, 41] : List UInt8) then (if bt681.1.toList = ([78, 90, 95, 95] : List UInt8) then (some (bt681.2 == 0)) else (some false)) else (some false)) else (none)) else (some false)) else (none)) else (some false)) else (some false))))) = some r := h
  clear h
  replace H := Option.bind_eq_some_iff.mp H
  obtain ⟨t678, A10, H⟩ := H
  replace H : ((zilog_Rename.f k (⟨#[78, 90, 95]⟩ : ByteArray)).bind fun bt681 => ((zilog_Name.f k 126).bind fun t683 => (if t683.toList = ([76, 68] : List UInt8) then (if (t678.length : Int) = 2 then (if 0 < (t678.length : Int) then (if (rdOf ByteArray.empty t678 0).toList = ([65] : List UInt8) then (if 1 < (t678.length : Int) then (if (rdOf ByteArray.empty t678 1).toList = ([40, 72, 76, 41] : List UInt8) then (if bt681.1.toList = ([78, 90, 95, 95] : List UInt8) then (some (bt681.2 == 0)) else (some false)) else (some false)) else (none)) else (some false)) else (none)) else (some false)) else (some false)))) = some r := H
  have A1 := Aside0.mk A10
  clear A10
  replace H := Option.bind_eq_some_iff.mp H
  obtain ⟨⟨t681, t682⟩, A20, H⟩ := H
  replace H : ((zilog_Name.f k 126).bind fun t683 => (if t683.toList = ([76, 68] : List UInt8) then (if (t678.length : Int) = 2 then (if 0 < (t678.length : Int) then (if (rdOf ByteArray.empty t678 0).toList = ([65] : List UInt8) then (if 1 < (t678.length : Int) then (if (rdOf ByteArray.empty t678 1).toList = ([40, 72, 76, 41] : List UInt8) then (if t681.toList = ([78, 90, 95, 95] : List UInt8) then (some (t682 == 0)) else (some false)) else (some false)) else (none)) else (some false)) else (none)) else (some false)) else (some false))) = some r := H
  have A2 := Aside0.mk A20
  clear A20
  replace H := Option.bind_eq_some_iff.mp H
  obtain ⟨t683, A30, H⟩ := H
  replace H : (if t683.toList = ([76, 68] : List UInt8) then (if (t678.length : Int) = 2 then (if 0 < (t678.length : Int) then (if (rdOf ByteArray.empty t678 0).toList = ([65] : List UInt8) then (if 1 < (t678.length : Int) then (if (rdOf ByteArray.empty t678 1).toList = ([40, 72, 76, 41] : List UInt8) then (if t681.toList = ([78, 90, 95, 95] : List UInt8) then (some (t682 == 0)) else (some false)) else (some false)) else (none)) else (some false)) else (none)) else (some false)) else (some false)) = some r := H
  have A3 := Aside0.mk A30
  clear A30
  by_cases c4 : t683.toList = ([76, 68] : List UInt8)
  · rw [if_pos c4] at H
    have c4b0 : (t683.toList == ([76, 68] : List UInt8)) = true := beq_iff_eq.mpr c4
    have c4b1 : (t683.toList != ([76, 68] : List UInt8)) = false := bne_eq_false_iff_eq.mpr c4
    clear c4
    by_cases c5 : (t678.length : Int) = 2
    · rw [if_pos c5] at H
      have c5b0 : ((t678.length : Int) == 2) = true := beq_iff_eq.mpr c5
      have c5b1 : ((t678.length : Int) != 2) = false := bne_eq_false_iff_eq.mpr c5
      clear c5
      by_cases c6 : 0 < (t678.length : Int)
      · rw [if_pos c6] at H
        have c6b0 : decide (0 < (t678.length : Int)) = true := decide_eq_true c6
        have c6b1 : decide (0 < t678.length) = true := decide_eq_true (by omega)
        clear c6
        by_cases c7 : (rdOf ByteArray.empty t678 0).toList = ([65] : List UInt8)
        · rw [if_pos c7] at H
          have c7b0 : ((rdOf ByteArray.empty t678 0).toList == ([65] : List UInt8)) = true := beq_iff_eq.mpr c7
          have c7b1 : ((rdOf ByteArray.empty t678 0).toList != ([65] : List UInt8)) = false := bne_eq_false_iff_eq.mpr c7
          clear c7
          by_cases c8 : 1 < (t678.length : Int)
          · rw [if_pos c8] at H
            have c8b0 : decide (1 < (t678.length : Int)) = true := decide_eq_true c8
            have c8b1 : decide (1 < t678.length) = true := decide_eq_true (by omega)
            clear c8
            by_cases c9 : (rdOf ByteArray.empty t678 1).toList = ([40, 72, 76, 41] : List UInt8)
            · rw [if_pos c9] at H
              have c9b0 : ((rdOf ByteArray.empty t678 1).toList == ([40, 72, 76, 41] : List UInt8)) = true := beq_iff_eq.mpr c9
              have c9b1 : ((rdOf ByteArray.empty t678 1).toList != ([40, 72, 76, 41] : List UInt8)) = false := bne_eq_false_iff_eq.mpr c9
              clear c9
              by_cases c10 : t681.toList = ([78, 90, 95, 95] : List UInt8)
              · rw [if_pos c10] at H
                have c10b0 : (t681.toList == ([78, 90, 95, 95] : List UInt8)) = true := beq_iff_eq.mpr c10
                have c10b1 : (t681.toList != ([78, 90, 95, 95] : List UInt8)) = false := bne_eq_false_iff_eq.mpr c10
                clear c10
                obtain rfl := Option.some.inj H
                go_enter Tryd.func13, Tryd.ntmps13
                go_wp2_with (first | ((with_reducible refine gate_callee (f := 11) rfl ?_); refine goesL_ (some 4) rfl rfl Tryd.func11 (by kernel_rfl) rfl #[.int .u8 126] rfl (by (try simp only [List.map_toArray, List.map_cons, List.map_nil]); first | done | rfl | (simp only [List.length_drop, List.length_take]; rfl)) ?_; (with_reducible refine (zilog_Args.calls k 126 t678 _ A1.out (by first | exact hT | exact tabs_below hT (by repeat (first | (with_reducible first | exact HB.out | apply below_alloc | apply pw_below_drewN | apply below_drew1) | exact HB.out)) | (repeat (first | exact hT | apply tabs_alloc | apply tabs_drewN | apply tabs_drew)))).mono ?_); rintro e w11 ⟨v679, rfl, ho0, hb⟩; refine ⟨_, rfl, ?_⟩; have n0_ := Aside0.mk (Kd.Q_lower ho0 (below_size (by repeat (first | (with_reducible first | exact HB.out | apply below_alloc | apply pw_below_drewN | apply below_drew1) | exact HB.out)))); have n1_ := Aside0.mk (below_step (by repeat (first | (with_reducible first | exact HB.out | apply below_alloc | apply pw_below_drewN | apply below_drew1) | exact HB.out)) hb); clear HB; have HO680 := n0_; have HB := n1_; clear n0_ n1_; (try clear hb); (try clear hb2); (try clear hk); (try clear hi); (try clear ho0)) | ((with_reducible refine gate_callee (f := 14) rfl ?_); refine goesL_ (some 6) rfl rfl Tryd.func14 (by kernel_rfl) rfl #[.string (⟨#[78, 90, 95]⟩ : ByteArray)] rfl (by (try simp only [List.map_toArray, List.map_cons, List.map_nil]); first | done | rfl | (simp only [List.length_drop, List.length_take]; rfl)) ?_; (with_reducible refine (zilog_Rename.calls k (⟨#[78, 90, 95]⟩ : ByteArray) t681 t682 _ A2.out (by first | exact hT | exact tabs_below hT (by repeat (first | (with_reducible first | exact HB.out | apply below_alloc | apply pw_below_drewN | apply below_drew1) | exact HB.out)) | (repeat (first | exact hT | apply tabs_alloc | apply tabs_drewN | apply tabs_drew)))).mono ?_); rintro e w12 ⟨rfl, hb⟩; refine ⟨_, rfl, ?_⟩; have n0_ := Aside0.mk (Kd.Q_below (by (with_reducible repeat (first | apply Kd.Q_alloc | apply Kd.Q_drewN | apply Kd.Q_drew)); exact HO680.out) hb); have n1_ := Aside0.mk (below_step (by repeat (first | (with_reducible first | exact HB.out | apply below_alloc | apply pw_below_drewN | apply below_drew1) | exact HB.out)) hb); clear HO680; clear HB; have HO680 := n0_; have HB := n1_; clear n0_ n1_; (try clear hb); (try clear hb2); (try clear hk); (try clear hi)) | ((with_reducible refine gate_callee (f := 8) rfl ?_); refine goesL_ (some 9) rfl rfl Tryd.func8 (by kernel_rfl) rfl #[.int .u8 126] rfl (by (try simp only [List.map_toArray, List.map_cons, List.map_nil]); first | done | rfl | (simp only [List.length_drop, List.length_take]; rfl)) ?_; (with_reducible refine (zilog_Name.calls k 126 t683 _ A3.out (by first | exact hT | exact tabs_below hT (by repeat (first | (with_reducible first | exact HB.out | apply below_alloc | apply pw_below_drewN | apply below_drew1) | exact HB.out)) | (repeat (first | exact hT | apply tabs_alloc | apply tabs_drewN | apply tabs_drew)))).mono ?_); rintro e w13 ⟨rfl, hb⟩; refine ⟨_, rfl, ?_⟩; have n0_ := Aside0.mk (Kd.Q_below (by (with_reducible repeat (first | apply Kd.Q_alloc | apply Kd.Q_drewN | apply Kd.Q_drew)); exact HO680.out) hb); have n1_ := Aside0.mk (below_step (by repeat (first | (with_reducible first | exact HB.out | apply below_alloc | apply pw_below_drewN | apply below_drew1) | exact HB.out)) hb); clear HO680; clear HB; have HO680 := n0_; have HB := n1_; clear n0_ n1_; (try clear hb); (try clear hb2); (try clear hk); (try clear hi); obtain ⟨Ao14, co14, eo14, _⟩ := Kd.Q_slice HO680.out; subst eo14; have p684 : 0 ≤ (0 : Int) := (by omega); have q684 : 0 < (t678.length : Int) := of_decide_eq_true (by first | (with_reducible assumption) | assumption); obtain ⟨ad684, e684, hx684_0⟩ := Kd.at_string (Kd.Q_reads' HO680.out).2.2 0 p684 q684; cases e684; have qi684 : (0 < t678.length) = True := eq_true (by omega); (try rw [show ((0 : Int)).toNat = 0 from rfl] at hx684_0); (try rw [Addr.add_zero'] at hx684_0); replace p684 := eq_true p684; replace q684 := eq_true q684; have p685 : 0 ≤ (1 : Int) := (by omega); have q685 : 1 < (t678.length : Int) := of_decide_eq_true (by first | (with_reducible assumption) | assumption); obtain ⟨ad685, e685, hx685_0⟩ := Kd.at_string (Kd.Q_reads' HO680.out).2.2 1 p685 q685; obtain rfl : ad684 = ad685 := (by injection e685); (try simp only [show (1 : Int).toNat = 1 from rfl, Nat.reduceMul, Nat.reduceEqDiff, Go.Addr.add, ↓reduceIte] at hx685_0); have qi685 : (1 < t678.length) = True := eq_true (by omega); (try rw [show ((1 : Int)).toNat = 1 from rfl] at hx685_0); replace p685 := eq_true p685; replace q685 := eq_true q685))
                go_ret
                exact ⟨by first | rfl | (simp [errW_none, errW_some] <;> rfl) | (simp [*, errW_none, errW_some] <;> rfl), by repeat (first | (with_reducible first | exact HB.out | apply below_alloc | apply pw_below_drewN | apply below_drew1) | exact HB.out)⟩
              · rw [if_neg c10] at H
                have c10b0 : (t681.toList == ([78, 90, 95, 95] : List UInt8)) = false := beq_eq_false_iff_ne.mpr c10
                have c10b1 : (t681.toList != ([78, 90, 95, 95] : List UInt8)) = true := bne_iff_ne.mpr c10
                obtain rfl := Option.some.inj H
                go_enter Tryd.func13, Tryd.ntmps13
                go_wp2_with (first | ((with_reducible refine gate_callee (f := 11) rfl ?_); refine goesL_ (some 4) rfl rfl Tryd.func11 (by kernel_rfl) rfl #[.int .u8 126] rfl (by (try simp only [List.map_toArray, List.map_cons, List.map_nil]); first | done | rfl | (simp only [List.length_drop, List.length_take]; rfl)) ?_; (with_reducible refine (zilog_Args.calls k 126 t678 _ A1.out (by first | exact hT | exact tabs_below hT (by repeat (first | (with_reducible first | exact HB.out | apply below_alloc | apply pw_below_drewN | apply below_drew1) | exact HB.out)) | (repeat (first | exact hT | apply tabs_alloc | apply tabs_drewN | apply tabs_drew)))).mono ?_); rintro e w15 ⟨v679, rfl, ho0, hb⟩; refine ⟨_, rfl, ?_⟩; have n0_ := Aside0.mk (Kd.Q_lower ho0 (below_size (by repeat (first | (with_reducible first | exact HB.out | apply below_alloc | apply pw_below_drewN | apply below_drew1) | exact HB.out)))); have n1_ := Aside0.mk (below_step (by repeat (first | (with_reducible first | exact HB.out | apply below_alloc | apply pw_below_drewN | apply below_drew1) | exact HB.out)) hb); clear HB; have HO680 := n0_; have HB := n1_; clear n0_ n1_; (try clear hb); (try clear hb2); (try clear hk); (try clear hi); (try clear ho0)) | ((with_reducible refine gate_callee (f := 14) rfl ?_); refine goesL_ (some 6) rfl rfl Tryd.func14 (by kernel_rfl) rfl #[.string (⟨#[78, 90, 95]⟩ : ByteArray)] rfl (by (try simp only [List.map_toArray, List.map_cons, List.map_nil]); first | done | rfl | (simp only [List.length_drop, List.length_take]; rfl)) ?_; (with_reducible refine (zilog_Rename.calls k (⟨#[78, 90, 95]⟩ : ByteArray) t681 t682 _ A2.out (by first | exact hT | exact tabs_below hT (by repeat (first | (with_reducible first | exact HB.out | apply below_alloc | apply pw_below_drewN | apply below_drew1) | exact HB.out)) | (repeat (first | exact hT | apply tabs_alloc | apply tabs_drewN | apply tabs_drew)))).mono ?_); rintro e w16 ⟨rfl, hb⟩; refine ⟨_, rfl, ?_⟩; have n0_ := Aside0.mk (Kd.Q_below (by (with_reducible repeat (first | apply Kd.Q_alloc | apply Kd.Q_drewN | apply Kd.Q_drew)); exact HO680.out) hb); have n1_ := Aside0.mk (below_step (by repeat (first | (with_reducible first | exact HB.out | apply below_alloc | apply pw_below_drewN | apply below_drew1) | exact HB.out)) hb); clear HO680; clear HB; have HO680 := n0_; have HB := n1_; clear n0_ n1_; (try clear hb); (try clear hb2); (try clear hk); (try clear hi)) | ((with_reducible refine gate_callee (f := 8) rfl ?_); refine goesL_ (some 9) rfl rfl Tryd.func8 (by kernel_rfl) rfl #[.int .u8 126] rfl (by (try simp only [List.map_toArray, List.map_cons, List.map_nil]); first | done | rfl | (simp only [List.length_drop, List.length_take]; rfl)) ?_; (with_reducible refine (zilog_Name.calls k 126 t683 _ A3.out (by first | exact hT | exact tabs_below hT (by repeat (first | (with_reducible first | exact HB.out | apply below_alloc | apply pw_below_drewN | apply below_drew1) | exact HB.out)) | (repeat (first | exact hT | apply tabs_alloc | apply tabs_drewN | apply tabs_drew)))).mono ?_); rintro e w17 ⟨rfl, hb⟩; refine ⟨_, rfl, ?_⟩; have n0_ := Aside0.mk (Kd.Q_below (by (with_reducible repeat (first | apply Kd.Q_alloc | apply Kd.Q_drewN | apply Kd.Q_drew)); exact HO680.out) hb); have n1_ := Aside0.mk (below_step (by repeat (first | (with_reducible first | exact HB.out | apply below_alloc | apply pw_below_drewN | apply below_drew1) | exact HB.out)) hb); clear HO680; clear HB; have HO680 := n0_; have HB := n1_; clear n0_ n1_; (try clear hb); (try clear hb2); (try clear hk); (try clear hi); obtain ⟨Ao18, co18, eo18, _⟩ := Kd.Q_slice HO680.out; subst eo18; have p684 : 0 ≤ (0 : Int) := (by omega); have q684 : 0 < (t678.length : Int) := of_decide_eq_true (by first | (with_reducible assumption) | assumption); obtain ⟨ad684, e684, hx684_0⟩ := Kd.at_string (Kd.Q_reads' HO680.out).2.2 0 p684 q684; cases e684; have qi684 : (0 < t678.length) = True := eq_true (by omega); (try rw [show ((0 : Int)).toNat = 0 from rfl] at hx684_0); (try rw [Addr.add_zero'] at hx684_0); replace p684 := eq_true p684; replace q684 := eq_true q684; have p685 : 0 ≤ (1 : Int) := (by omega); have q685 : 1 < (t678.length : Int) := of_decide_eq_true (by first | (with_reducible assumption) | assumption); obtain ⟨ad685, e685, hx685_0⟩ := Kd.at_string (Kd.Q_reads' HO680.out).2.2 1 p685 q685; obtain rfl : ad684 = ad685 := (by injection e685); (try simp only [show (1 : Int).toNat = 1 from rfl, Nat.reduceMul, Nat.reduceEqDiff, Go.Addr.add, ↓reduceIte] at hx685_0); have qi685 : (1 < t678.length) = True := eq_true (by omega); (try rw [show ((1 : Int)).toNat = 1 from rfl] at hx685_0); replace p685 := eq_true p685; replace q685 := eq_true q685))
                go_ret
                exact ⟨by first | rfl | (simp [errW_none, errW_some] <;> rfl) | (simp [*, errW_none, errW_some] <;> rfl), by repeat (first | (with_reducible first | exact HB.out | apply below_alloc | apply pw_below_drewN | apply below_drew1) | exact HB.out)⟩
            · rw [if_neg c9] at H
              have c9b0 : ((rdOf ByteArray.empty t678 1).toList == ([40, 72, 76, 41] : List UInt8)) = false := beq_eq_false_iff_ne.mpr c9
              have c9b1 : ((rdOf ByteArray.empty t678 1).toList != ([40, 72, 76, 41] : List UInt8)) = true := bne_iff_ne.mpr c9
              obtain rfl := Option.some.inj H
              go_enter Tryd.func13, Tryd.ntmps13
              go_wp2_with (first | ((with_reducible refine gate_callee (f := 11) rfl ?_); refine goesL_ (some 4) rfl rfl Tryd.func11 (by kernel_rfl) rfl #[.int .u8 126] rfl (by (try simp only [List.map_toArray, List.map_cons, List.map_nil]); first | done | rfl | (simp only [List.length_drop, List.length_take]; rfl)) ?_; (with_reducible refine (zilog_Args.calls k 126 t678 _ A1.out (by first | exact hT | exact tabs_below hT (by repeat (first | (with_reducible first | exact HB.out | apply below_alloc | apply pw_below_drewN | apply below_drew1) | exact HB.out)) | (repeat (first | exact hT | apply tabs_alloc | apply tabs_drewN | apply tabs_drew)))).mono ?_); rintro e w19 ⟨v679, rfl, ho0, hb⟩; refine ⟨_, rfl, ?_⟩; have n0_ := Aside0.mk (Kd.Q_lower ho0 (below_size (by repeat (first | (with_reducible first | exact HB.out | apply below_alloc | apply pw_below_drewN | apply below_drew1) | exact HB.out)))); have n1_ := Aside0.mk (below_step (by repeat (first | (with_reducible first | exact HB.out | apply below_alloc | apply pw_below_drewN | apply below_drew1) | exact HB.out)) hb); clear HB; have HO680 := n0_; have HB := n1_; clear n0_ n1_; (try clear hb); (try clear hb2); (try clear hk); (try clear hi); (try clear ho0)) | ((with_reducible refine gate_callee (f := 14) rfl ?_); refine goesL_ (some 6) rfl rfl Tryd.func14 (by kernel_rfl) rfl #[.string (⟨#[78, 90, 95]⟩ : ByteArray)] rfl (by (try simp only [List.map_toArray, List.map_cons, List.map_nil]); first | done | rfl | (simp only [List.length_drop, List.length_take]; rfl)) ?_; (with_reducible refine (zilog_Rename.calls k (⟨#[78, 90, 95]⟩ : ByteArray) t681 t682 _ A2.out (by first | exact hT | exact tabs_below hT (by repeat (first | (with_reducible first | exact HB.out | apply below_alloc | apply pw_below_drewN | apply below_drew1) | exact HB.out)) | (repeat (first | exact hT | apply tabs_alloc | apply tabs_drewN | apply tabs_drew)))).mono ?_); rintro e w20 ⟨rfl, hb⟩; refine ⟨_, rfl, ?_⟩; have n0_ := Aside0.mk (Kd.Q_below (by (with_reducible repeat (first | apply Kd.Q_alloc | apply Kd.Q_drewN | apply Kd.Q_drew)); exact HO680.out) hb); have n1_ := Aside0.mk (below_step (by repeat (first | (with_reducible first | exact HB.out | apply below_alloc | apply pw_below_drewN | apply below_drew1) | exact HB.out)) hb); clear HO680; clear HB; have HO680 := n0_; have HB := n1_; clear n0_ n1_; (try clear hb); (try clear hb2); (try clear hk); (try clear hi)) | ((with_reducible refine gate_callee (f := 8) rfl ?_); refine goesL_ (some 9) rfl rfl Tryd.func8 (by kernel_rfl) rfl #[.int .u8 126] rfl (by (try simp only [List.map_toArray, List.map_cons, List.map_nil]); first | done | rfl | (simp only [List.length_drop, List.length_take]; rfl)) ?_; (with_reducible refine (zilog_Name.calls k 126 t683 _ A3.out (by first | exact hT | exact tabs_below hT (by repeat (first | (with_reducible first | exact HB.out | apply below_alloc | apply pw_below_drewN | apply below_drew1) | exact HB.out)) | (repeat (first | exact hT | apply tabs_alloc | apply tabs_drewN | apply tabs_drew)))).mono ?_); rintro e w21 ⟨rfl, hb⟩; refine ⟨_, rfl, ?_⟩; have n0_ := Aside0.mk (Kd.Q_below (by (with_reducible repeat (first | apply Kd.Q_alloc | apply Kd.Q_drewN | apply Kd.Q_drew)); exact HO680.out) hb); have n1_ := Aside0.mk (below_step (by repeat (first | (with_reducible first | exact HB.out | apply below_alloc | apply pw_below_drewN | apply below_drew1) | exact HB.out)) hb); clear HO680; clear HB; have HO680 := n0_; have HB := n1_; clear n0_ n1_; (try clear hb); (try clear hb2); (try clear hk); (try clear hi); obtain ⟨Ao22, co22, eo22, _⟩ := Kd.Q_slice HO680.out; subst eo22; have p684 : 0 ≤ (0 : Int) := (by omega); have q684 : 0 < (t678.length : Int) := of_decide_eq_true (by first | (with_reducible assumption) | assumption); obtain ⟨ad684, e684, hx684_0⟩ := Kd.at_string (Kd.Q_reads' HO680.out).2.2 0 p684 q684; cases e684; have qi684 : (0 < t678.length) = True := eq_true (by omega); (try rw [show ((0 : Int)).toNat = 0 from rfl] at hx684_0); (try rw [Addr.add_zero'] at hx684_0); replace p684 := eq_true p684; replace q684 := eq_true q684; have p685 : 0 ≤ (1 : Int) := (by omega); have q685 : 1 < (t678.length : Int) := of_decide_eq_true (by first | (with_reducible assumption) | assumption); obtain ⟨ad685, e685, hx685_0⟩ := Kd.at_string (Kd.Q_reads' HO680.out).2.2 1 p685 q685; obtain rfl : ad684 = ad685 := (by injection e685); (try simp only [show (1 : Int).toNat = 1 from rfl, Nat.reduceMul, Nat.reduceEqDiff, Go.Addr.add, ↓reduceIte] at hx685_0); have qi685 : (1 < t678.length) = True := eq_true (by omega); (try rw [show ((1 : Int)).toNat = 1 from rfl] at hx685_0); replace p685 := eq_true p685; replace q685 := eq_true q685))
              go_ret
              exact ⟨by first | rfl | (simp [errW_none, errW_some] <;> rfl) | (simp [*, errW_none, errW_some] <;> rfl), by repeat (first | (with_reducible first | exact HB.out | apply below_alloc | apply pw_below_drewN | apply below_drew1) | exact HB.out)⟩
          · rw [if_neg c8] at H
            exact absurd H (by simp)
        · rw [if_neg c7] at H
          have c7b0 : ((rdOf ByteArray.empty t678 0).toList == ([65] : List UInt8)) = false := beq_eq_false_iff_ne.mpr c7
          have c7b1 : ((rdOf ByteArray.empty t678 0).toList != ([65] : List UInt8)) = true := bne_iff_ne.mpr c7
          obtain rfl := Option.some.inj H
          go_enter Tryd.func13, Tryd.ntmps13
          go_wp2_with (first | ((with_reducible refine gate_callee (f := 11) rfl ?_); refine goesL_ (some 4) rfl rfl Tryd.func11 (by kernel_rfl) rfl #[.int .u8 126] rfl (by (try simp only [List.map_toArray, List.map_cons, List.map_nil]); first | done | rfl | (simp only [List.length_drop, List.length_take]; rfl)) ?_; (with_reducible refine (zilog_Args.calls k 126 t678 _ A1.out (by first | exact hT | exact tabs_below hT (by repeat (first | (with_reducible first | exact HB.out | apply below_alloc | apply pw_below_drewN | apply below_drew1) | exact HB.out)) | (repeat (first | exact hT | apply tabs_alloc | apply tabs_drewN | apply tabs_drew)))).mono ?_); rintro e w23 ⟨v679, rfl, ho0, hb⟩; refine ⟨_, rfl, ?_⟩; have n0_ := Aside0.mk (Kd.Q_lower ho0 (below_size (by repeat (first | (with_reducible first | exact HB.out | apply below_alloc | apply pw_below_drewN | apply below_drew1) | exact HB.out)))); have n1_ := Aside0.mk (below_step (by repeat (first | (with_reducible first | exact HB.out | apply below_alloc | apply pw_below_drewN | apply below_drew1) | exact HB.out)) hb); clear HB; have HO680 := n0_; have HB := n1_; clear n0_ n1_; (try clear hb); (try clear hb2); (try clear hk); (try clear hi); (try clear ho0)) | ((with_reducible refine gate_callee (f := 14) rfl ?_); refine goesL_ (some 6) rfl rfl Tryd.func14 (by kernel_rfl) rfl #[.string (⟨#[78, 90, 95]⟩ : ByteArray)] rfl (by (try simp only [List.map_toArray, List.map_cons, List.map_nil]); first | done | rfl | (simp only [List.length_drop, List.length_take]; rfl)) ?_; (with_reducible refine (zilog_Rename.calls k (⟨#[78, 90, 95]⟩ : ByteArray) t681 t682 _ A2.out (by first | exact hT | exact tabs_below hT (by repeat (first | (with_reducible first | exact HB.out | apply below_alloc | apply pw_below_drewN | apply below_drew1) | exact HB.out)) | (repeat (first | exact hT | apply tabs_alloc | apply tabs_drewN | apply tabs_drew)))).mono ?_); rintro e w24 ⟨rfl, hb⟩; refine ⟨_, rfl, ?_⟩; have n0_ := Aside0.mk (Kd.Q_below (by (with_reducible repeat (first | apply Kd.Q_alloc | apply Kd.Q_drewN | apply Kd.Q_drew)); exact HO680.out) hb); have n1_ := Aside0.mk (below_step (by repeat (first | (with_reducible first | exact HB.out | apply below_alloc | apply pw_below_drewN | apply below_drew1) | exact HB.out)) hb); clear HO680; clear HB; have HO680 := n0_; have HB := n1_; clear n0_ n1_; (try clear hb); (try clear hb2); (try clear hk); (try clear hi)) | ((with_reducible refine gate_callee (f := 8) rfl ?_); refine goesL_ (some 9) rfl rfl Tryd.func8 (by kernel_rfl) rfl #[.int .u8 126] rfl (by (try simp only [List.map_toArray, List.map_cons, List.map_nil]); first | done | rfl | (simp only [List.length_drop, List.length_take]; rfl)) ?_; (with_reducible refine (zilog_Name.calls k 126 t683 _ A3.out (by first | exact hT | exact tabs_below hT (by repeat (first | (with_reducible first | exact HB.out | apply below_alloc | apply pw_below_drewN | apply below_drew1) | exact HB.out)) | (repeat (first | exact hT | apply tabs_alloc | apply tabs_drewN | apply tabs_drew)))).mono ?_); rintro e w25 ⟨rfl, hb⟩; refine ⟨_, rfl, ?_⟩; have n0_ := Aside0.mk (Kd.Q_below (by (with_reducible repeat (first | apply Kd.Q_alloc | apply Kd.Q_drewN | apply Kd.Q_drew)); exact HO680.out) hb); have n1_ := Aside0.mk (below_step (by repeat (first | (with_reducible first | exact HB.out | apply below_alloc | apply pw_below_drewN | apply below_drew1) | exact HB.out)) hb); clear HO680; clear HB; have HO680 := n0_; have HB := n1_; clear n0_ n1_; (try clear hb); (try clear hb2); (try clear hk); (try clear hi); obtain ⟨Ao26, co26, eo26, _⟩ := Kd.Q_slice HO680.out; subst eo26; have p684 : 0 ≤ (0 : Int) := (by omega); have q684 : 0 < (t678.length : Int) := of_decide_eq_true (by first | (with_reducible assumption) | assumption); obtain ⟨ad684, e684, hx684_0⟩ := Kd.at_string (Kd.Q_reads' HO680.out).2.2 0 p684 q684; cases e684; have qi684 : (0 < t678.length) = True := eq_true (by omega); (try rw [show ((0 : Int)).toNat = 0 from rfl] at hx684_0); (try rw [Addr.add_zero'] at hx684_0); replace p684 := eq_true p684; replace q684 := eq_true q684))
          go_ret
          exact ⟨by first | rfl | (simp [errW_none, errW_some] <;> rfl) | (simp [*, errW_none, errW_some] <;> rfl), by repeat (first | (with_reducible first | exact HB.out | apply below_alloc | apply pw_below_drewN | apply below_drew1) | exact HB.out)⟩
      · rw [if_neg c6] at H
        exact absurd H (by simp)
    · rw [if_neg c5] at H
      have c5b0 : ((t678.length : Int) == 2) = false := beq_eq_false_iff_ne.mpr c5
      have c5b1 : ((t678.length : Int) != 2) = true := bne_iff_ne.mpr c5
      obtain rfl := Option.some.inj H
      go_enter Tryd.func13, Tryd.ntmps13
      go_wp2_with (first | ((with_reducible refine gate_callee (f := 11) rfl ?_); refine goesL_ (some 4) rfl rfl Tryd.func11 (by kernel_rfl) rfl #[.int .u8 126] rfl (by (try simp only [List.map_toArray, List.map_cons, List.map_nil]); first | done | rfl | (simp only [List.length_drop, List.length_take]; rfl)) ?_; (with_reducible refine (zilog_Args.calls k 126 t678 _ A1.out (by first | exact hT | exact tabs_below hT (by repeat (first | (with_reducible first | exact HB.out | apply below_alloc | apply pw_below_drewN | apply below_drew1) | exact HB.out)) | (repeat (first | exact hT | apply tabs_alloc | apply tabs_drewN | apply tabs_drew)))).mono ?_); rintro e w27 ⟨v679, rfl, ho0, hb⟩; refine ⟨_, rfl, ?_⟩; have n0_ := Aside0.mk (Kd.Q_lower ho0 (below_size (by repeat (first | (with_reducible first | exact HB.out | apply below_alloc | apply pw_below_drewN | apply below_drew1) | exact HB.out)))); have n1_ := Aside0.mk (below_step (by repeat (first | (with_reducible first | exact HB.out | apply below_alloc | apply pw_below_drewN | apply below_drew1) | exact HB.out)) hb); clear HB; have HO680 := n0_; have HB := n1_; clear n0_ n1_; (try clear hb); (try clear hb2); (try clear hk); (try clear hi); (try clear ho0)) | ((with_reducible refine gate_callee (f := 14) rfl ?_); refine goesL_ (some 6) rfl rfl Tryd.func14 (by kernel_rfl) rfl #[.string (⟨#[78, 90, 95]⟩ : ByteArray)] rfl (by (try simp only [List.map_toArray, List.map_cons, List.map_nil]); first | done | rfl | (simp only [List.length_drop, List.length_take]; rfl)) ?_; (with_reducible refine (zilog_Rename.calls k (⟨#[78, 90, 95]⟩ : ByteArray) t681 t682 _ A2.out (by first | exact hT | exact tabs_below hT (by repeat (first | (with_reducible first | exact HB.out | apply below_alloc | apply pw_below_drewN | apply below_drew1) | exact HB.out)) | (repeat (first | exact hT | apply tabs_alloc | apply tabs_drewN | apply tabs_drew)))).mono ?_); rintro e w28 ⟨rfl, hb⟩; refine ⟨_, rfl, ?_⟩; have n0_ := Aside0.mk (Kd.Q_below (by (with_reducible repeat (first | apply Kd.Q_alloc | apply Kd.Q_drewN | apply Kd.Q_drew)); exact HO680.out) hb); have n1_ := Aside0.mk (below_step (by repeat (first | (with_reducible first | exact HB.out | apply below_alloc | apply pw_below_drewN | apply below_drew1) | exact HB.out)) hb); clear HO680; clear HB; have HO680 := n0_; have HB := n1_; clear n0_ n1_; (try clear hb); (try clear hb2); (try clear hk); (try clear hi)) | ((with_reducible refine gate_callee (f := 8) rfl ?_); refine goesL_ (some 9) rfl rfl Tryd.func8 (by kernel_rfl) rfl #[.int .u8 126] rfl (by (try simp only [List.map_toArray, List.map_cons, List.map_nil]); first | done | rfl | (simp only [List.length_drop, List.length_take]; rfl)) ?_; (with_reducible refine (zilog_Name.calls k 126 t683 _ A3.out (by first | exact hT | exact tabs_below hT (by repeat (first | (with_reducible first | exact HB.out | apply below_alloc | apply pw_below_drewN | apply below_drew1) | exact HB.out)) | (repeat (first | exact hT | apply tabs_alloc | apply tabs_drewN | apply tabs_drew)))).mono ?_); rintro e w29 ⟨rfl, hb⟩; refine ⟨_, rfl, ?_⟩; have n0_ := Aside0.mk (Kd.Q_below (by (with_reducible repeat (first | apply Kd.Q_alloc | apply Kd.Q_drewN | apply Kd.Q_drew)); exact HO680.out) hb); have n1_ := Aside0.mk (below_step (by repeat (first | (with_reducible first | exact HB.out | apply below_alloc | apply pw_below_drewN | apply below_drew1) | exact HB.out)) hb); clear HO680; clear HB; have HO680 := n0_; have HB := n1_; clear n0_ n1_; (try clear hb); (try clear hb2); (try clear hk); (try clear hi); obtain ⟨Ao30, co30, eo30, _⟩ := Kd.Q_slice HO680.out; subst eo30))
      go_ret
      exact ⟨by first | rfl | (simp [errW_none, errW_some] <;> rfl) | (simp [*, errW_none, errW_some] <;> rfl), by repeat (first | (with_reducible first | exact HB.out | apply below_alloc | apply pw_below_drewN | apply below_drew1) | exact HB.out)⟩
  · rw [if_neg c4] at H
    have c4b0 : (t683.toList == ([76, 68] : List UInt8)) = false := beq_eq_false_iff_ne.mpr c4
    have c4b1 : (t683.toList != ([76, 68] : List UInt8)) = true := bne_iff_ne.mpr c4
    obtain rfl := Option.some.inj H
    go_enter Tryd.func13, Tryd.ntmps13
    go_wp2_with (first | ((with_reducible refine gate_callee (f := 11) rfl ?_); refine goesL_ (some 4) rfl rfl Tryd.func11 (by kernel_rfl) rfl #[.int .u8 126] rfl (by (try simp only [List.map_toArray, List.map_cons, List.map_nil]); first | done | rfl | (simp only [List.length_drop, List.length_take]; rfl)) ?_; (with_reducible refine (zilog_Args.calls k 126 t678 _ A1.out (by first | exact hT | exact tabs_below hT (by repeat (first | (with_reducible first | exact HB.out | apply below_alloc | apply pw_below_drewN | apply below_drew1) | exact HB.out)) | (repeat (first | exact hT | apply tabs_alloc | apply tabs_drewN | apply tabs_drew)))).mono ?_); rintro e w31 ⟨v679, rfl, ho0, hb⟩; refine ⟨_, rfl, ?_⟩; have n0_ := Aside0.mk (Kd.Q_lower ho0 (below_size (by repeat (first | (with_reducible first | exact HB.out | apply below_alloc | apply pw_below_drewN | apply below_drew1) | exact HB.out)))); have n1_ := Aside0.mk (below_step (by repeat (first | (with_reducible first | exact HB.out | apply below_alloc | apply pw_below_drewN | apply below_drew1) | exact HB.out)) hb); clear HB; have HO680 := n0_; have HB := n1_; clear n0_ n1_; (try clear hb); (try clear hb2); (try clear hk); (try clear hi); (try clear ho0)) | ((with_reducible refine gate_callee (f := 14) rfl ?_); refine goesL_ (some 6) rfl rfl Tryd.func14 (by kernel_rfl) rfl #[.string (⟨#[78, 90, 95]⟩ : ByteArray)] rfl (by (try simp only [List.map_toArray, List.map_cons, List.map_nil]); first | done | rfl | (simp only [List.length_drop, List.length_take]; rfl)) ?_; (with_reducible refine (zilog_Rename.calls k (⟨#[78, 90, 95]⟩ : ByteArray) t681 t682 _ A2.out (by first | exact hT | exact tabs_below hT (by repeat (first | (with_reducible first | exact HB.out | apply below_alloc | apply pw_below_drewN | apply below_drew1) | exact HB.out)) | (repeat (first | exact hT | apply tabs_alloc | apply tabs_drewN | apply tabs_drew)))).mono ?_); rintro e w32 ⟨rfl, hb⟩; refine ⟨_, rfl, ?_⟩; have n0_ := Aside0.mk (Kd.Q_below (by (with_reducible repeat (first | apply Kd.Q_alloc | apply Kd.Q_drewN | apply Kd.Q_drew)); exact HO680.out) hb); have n1_ := Aside0.mk (below_step (by repeat (first | (with_reducible first | exact HB.out | apply below_alloc | apply pw_below_drewN | apply below_drew1) | exact HB.out)) hb); clear HO680; clear HB; have HO680 := n0_; have HB := n1_; clear n0_ n1_; (try clear hb); (try clear hb2); (try clear hk); (try clear hi)) | ((with_reducible refine gate_callee (f := 8) rfl ?_); refine goesL_ (some 9) rfl rfl Tryd.func8 (by kernel_rfl) rfl #[.int .u8 126] rfl (by (try simp only [List.map_toArray, List.map_cons, List.map_nil]); first | done | rfl | (simp only [List.length_drop, List.length_take]; rfl)) ?_; (with_reducible refine (zilog_Name.calls k 126 t683 _ A3.out (by first | exact hT | exact tabs_below hT (by repeat (first | (with_reducible first | exact HB.out | apply below_alloc | apply pw_below_drewN | apply below_drew1) | exact HB.out)) | (repeat (first | exact hT | apply tabs_alloc | apply tabs_drewN | apply tabs_drew)))).mono ?_); rintro e w33 ⟨rfl, hb⟩; refine ⟨_, rfl, ?_⟩; have n0_ := Aside0.mk (Kd.Q_below (by (with_reducible repeat (first | apply Kd.Q_alloc | apply Kd.Q_drewN | apply Kd.Q_drew)); exact HO680.out) hb); have n1_ := Aside0.mk (below_step (by repeat (first | (with_reducible first | exact HB.out | apply below_alloc | apply pw_below_drewN | apply below_drew1) | exact HB.out)) hb); clear HO680; clear HB; have HO680 := n0_; have HB := n1_; clear n0_ n1_; (try clear hb); (try clear hb2); (try clear hk); (try clear hi)))
    go_ret
    exact ⟨by first | rfl | (simp [errW_none, errW_some] <;> rfl) | (simp [*, errW_none, errW_some] <;> rfl), by repeat (first | (with_reducible first | exact HB.out | apply below_alloc | apply pw_below_drewN | apply below_drew1) | exact HB.out)⟩

end Go.Proofs.YtldmnenomcipcaaDoor.G

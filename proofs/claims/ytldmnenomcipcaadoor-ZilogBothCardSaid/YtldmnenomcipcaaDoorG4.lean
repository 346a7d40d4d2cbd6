/- Written by a program of ours (wip/tools/gprint.py) over the kit's print: contracts of the program's functions, each as a plain function. -/
import Derived.Test.YtldmnenomcipcaaDoorG0
import Derived.Test.YtldmnenomcipcaaDoorG3
namespace Go.Proofs.YtldmnenomcipcaaDoor.G
open Go.RowKit Go.Proofs.YtldmnenomcipcaaDoorW.PrintWords Go.Proofs.YtldmnenomcipcaaDoorW.PrintLast Go.Proofs.YtldmnenomcipcaaDoorW.PrintMore
attribute [local go_sem] max2_int min2_int max_two min_two max_three min_three max_four min_four   -- for this text's walks alone
set_option linter.unusedVariables false
set_option linter.unusedSimpArgs false

/-! ### zilog_loads: function 37 -/
mutual
def zilog_loads.j0 : Nat → ByteArray → List ByteArray → ByteArray → Bool → Option (List ByteArray)
  | 0, _, _, _, _ => none
  | k + 1, x0, x1, x5, x6 => if x6 = true then (if 0 < (x1.length : Int) then ((zilog_arg.f (rdOf ByteArray.empty x1 0)).bind fun t396 => (if 1 < (x1.length : Int) then ((zilog_arg.f (rdOf ByteArray.empty x1 1)).bind fun t398 => ((zilog_words.f (([(⟨#[76, 68]⟩ : ByteArray), t396, t398] : List ByteArray))).bind fun t402 => (some t402))) else (none))) else (none)) else (if x5.toList = ([76, 88, 73] : List UInt8) then (if 0 < (x1.length : Int) then ((zilog_pair.f (rdOf ByteArray.empty x1 0)).bind fun t406 => ((zilog_words.f (([(⟨#[76, 68]⟩ : ByteArray), t406, (⟨#[110, 110]⟩ : ByteArray)] : List ByteArray))).bind fun t410 => (some t410))) else (none)) else (if x5.toList = ([83, 84, 65, 88] : List UInt8) then (if 0 < (x1.length : Int) then ((zilog_pair.f (rdOf ByteArray.empty x1 0)).bind fun t414 => (if 1 + t414.size ≤ 9223372036854775807 then (if ((⟨#[40]⟩ : ByteArray) ++ t414).size + 1 ≤ 9223372036854775807 then ((zilog_words.f (([(⟨#[76, 68]⟩ : ByteArray), ((⟨#[40]⟩ : ByteArray) ++ t414) ++ (⟨#[41]⟩ : ByteArray), (⟨#[65]⟩ : ByteArray)] : List ByteArray))).bind fun t418 => (some t418)) else (none)) else (none))) else (none)) else (if x5.toList = ([76, 68, 65, 88] : List UInt8) then (if 0 < (x1.length : Int) then ((zilog_pair.f (rdOf ByteArray.empty x1 0)).bind fun t422 => (if 1 + t422.size ≤ 9223372036854775807 then (if ((⟨#[40]⟩ : ByteArray) ++ t422).size + 1 ≤ 9223372036854775807 then ((zilog_words.f (([(⟨#[76, 68]⟩ : ByteArray), (⟨#[65]⟩ : ByteArray), ((⟨#[40]⟩ : ByteArray) ++ t422) ++ (⟨#[41]⟩ : ByteArray)] : List ByteArray))).bind fun t426 => (some t426)) else (none)) else (none))) else (none)) else (if x5.toList = ([73, 78, 88] : List UInt8) then (if 0 < (x1.length : Int) then ((zilog_pair.f (rdOf ByteArray.empty x1 0)).bind fun t430 => ((zilog_words.f (([(⟨#[73, 78, 67]⟩ : ByteArray), t430] : List ByteArray))).bind fun t434 => (some t434))) else (none)) else (if x5.toList = ([68, 67, 88] : List UInt8) then (if 0 < (x1.length : Int) then ((zilog_pair.f (rdOf ByteArray.empty x1 0)).bind fun t438 => ((zilog_words.f (([(⟨#[68, 69, 67]⟩ : ByteArray), t438] : List ByteArray))).bind fun t442 => (some t442))) else (none)) else (if x5.toList = ([68, 65, 68] : List UInt8) then (if 0 < (x1.length : Int) then ((zilog_pair.f (rdOf ByteArray.empty x1 0)).bind fun t446 => ((zilog_words.f (([(⟨#[65, 68, 68]⟩ : ByteArray), (⟨#[72, 76]⟩ : ByteArray), t446] : List ByteArray))).bind fun t450 => (some t450))) else (none)) else (if x5.toList = ([73, 78, 82] : List UInt8) then (if 0 < (x1.length : Int) then ((zilog_arg.f (rdOf ByteArray.empty x1 0)).bind fun t454 => ((zilog_words.f (([(⟨#[73, 78, 67]⟩ : ByteArray), t454] : List ByteArray))).bind fun t458 => (some t458))) else (none)) else (if x5.toList = ([68, 67, 82] : List UInt8) then (if 0 < (x1.length : Int) then ((zilog_arg.f (rdOf ByteArray.empty x1 0)).bind fun t462 => ((zilog_words.f (([(⟨#[68, 69, 67]⟩ : ByteArray), t462] : List ByteArray))).bind fun t466 => (some t466))) else (none)) else (if x5.toList = ([80, 79, 80] : List UInt8) then (zilog_loads.j1 k x0 x1 (x5.toList == ([80, 79, 80] : List UInt8))) else (zilog_loads.j1 k x0 x1 (x5.toList == ([80, 85, 83, 72] : List UInt8))))))))))))
def zilog_loads.j1 : Nat → ByteArray → List ByteArray → Bool → Option (List ByteArray)
  | 0, _, _, _ => none
  | k + 1, x0, x1, x87 => if x87 = true then (if 0 < (x1.length : Int) then ((zilog_pair.f (rdOf ByteArray.empty x1 0)).bind fun t470 => ((zilog_words.f (([x0, t470] : List ByteArray))).bind fun t474 => (some t474))) else (none)) else (some ([] : List ByteArray))
end
def zilog_loads.f (k : Nat) (a0 : ByteArray) (l1 : List ByteArray) : Option (List ByteArray) := if a0.toList = ([77, 79, 86] : List UInt8) then (zilog_loads.j0 k a0 l1 a0 (a0.toList == ([77, 79, 86] : List UInt8))) else (zilog_loads.j0 k a0 l1 a0 (a0.toList == ([77, 86, 73] : List UInt8)))
theorem zilog_loads.mono_l : ∀ k, (∀ y0 y1 y2 y3, LeO (zilog_loads.j0 k y0 y1 y2 y3) (zilog_loads.j0 (k + 1) y0 y1 y2 y3)) ∧ (∀ y0 y1 y2, LeO (zilog_loads.j1 k y0 y1 y2) (zilog_loads.j1 (k + 1) y0 y1 y2))
  | 0 => ⟨fun _ _ _ _ r h => by simp [zilog_loads.j0] at h, fun _ _ _ r h => by simp [zilog_loads.j1] at h⟩
  | k + 1 => by
    obtain ⟨ih0, ih1⟩ := zilog_loads.mono_l k
    refine ⟨?_, ?_⟩
    · intro y0 y1 y2 y3
      unfold zilog_loads.j0
      repeat' first
      | (with_reducible exact ih0 _ _ _ _)
      | (with_reducible exact ih1 _ _ _)
      | (with_reducible exact LeO.refl _)
      | (with_reducible exact LeO.none _)
      | (with_reducible refine LeO.ite ?_ ?_)
      | (with_reducible refine LeO.bind ?_ (fun _ => ?_))
      | exact ih0 _ _ _ _
      | exact ih1 _ _ _
      | exact LeO.none _
      | refine LeO.ite ?_ ?_
      | refine LeO.bind ?_ (fun _ => ?_)
    · intro y0 y1 y2
      unfold zilog_loads.j1
      repeat' first
      | (with_reducible exact ih0 _ _ _ _)
      | (with_reducible exact ih1 _ _ _)
      | (with_reducible exact LeO.refl _)
      | (with_reducible exact LeO.none _)
      | (with_reducible refine LeO.ite ?_ ?_)
      | (with_reducible refine LeO.bind ?_ (fun _ => ?_))
      | exact ih0 _ _ _ _
      | exact ih1 _ _ _
      | exact LeO.none _
      | refine LeO.ite ?_ ?_
      | refine LeO.bind ?_ (fun _ => ?_)
theorem zilog_loads.mono : ∀ a0 a1 k, LeO (zilog_loads.f k a0 a1) (zilog_loads.f (k + 1) a0 a1) := by
  intro a0 a1 k
  obtain ⟨ih0, ih1⟩ := zilog_loads.mono_l k
  unfold zilog_loads.f
  repeat' first
      | (with_reducible exact ih0 _ _ _ _)
      | (with_reducible exact ih1 _ _ _)
      | (with_reducible exact LeO.refl _)
      | (with_reducible exact LeO.none _)
      | (with_reducible refine LeO.ite ?_ ?_)
      | (with_reducible refine LeO.bind ?_ (fun _ => ?_))
      | exact ih0 _ _ _ _
      | exact ih1 _ _ _
      | exact LeO.none _
      | refine LeO.ite ?_ ?_
      | refine LeO.bind ?_ (fun _ => ?_)
def zilog_loads.T4 : Bool × List (List Nat × List Nat) := (true, [([], []), ([0], [0]), ([1], [1]), ([2], [2]), ([], []), ([4], [4]), ([5], [5]), ([6, 3], [6]), ([3, 7], [3, 7]), ([8, 7], [8]), ([9, 9, 0, 1, 2, 3, 4, 5, 6, 7, 8, 9], [9])])
def zilog_loads.B4 : List Nat := [0, 1, 3, 7, 0, 16, 48, 127, 255, 511, 1023]
theorem zilog_loads.tab4 : rtab .any (opsOf Tryd.f37 4) = zilog_loads.T4 := by kernel_rfl
theorem zilog_loads.bits4 : waitsOk zilog_loads.T4.2 zilog_loads.B4 = true := by kernel_rfl
set_option maxHeartbeats 8000000 in
set_option maxRecDepth 100000 in
theorem zilog_loads.calls (k : Nat) (a0 : ByteArray) (A1 : Option Addr) (c1 : Nat) (l1 : List ByteArray) (r : List ByteArray) (w : World) (hr1 : Kd.C Kd.string w A1 l1.length l1) (hc1 : l1.length ≤ c1) (h : zilog_loads.f k a0 l1 = some r) (hT : Tabs w) :
    Calls Tryd.prog 37 #[.string a0, .slice A1 l1.length c1] w fun e w' => ∃ v0_ : Value, e = .returned (v0_) ∧ Kd.R Kd.string 9 w' w.heap.size (fun _ => True) v0_ r ∧ Below w.heap.size w w' := by
  have HR1 := Aside0.mk hr1
  have HC1 := Aside0.mk hc1
  clear hr1 hc1
  have HB := Aside0.mk (Below.refl w.heap.size w)
  have H : (if a0.toList = ([77, 79, 86] : List UInt8) then (zilog_loads.j0 k a0 l1 a0 (a0.toList == ([77, 79, 86] : List UInt8))) else (zilog_loads.j0 k a0 l1 a0 (a0.toList == ([77, 86, 73] : List UInt8)))) = some r := h
  clear h
  have HC3 := Aside0.mk H
  clear H
  go_enter Tryd.func37, Tryd.ntmps37
  go_upto_if 6 with (fail)
  go_cut [6] (fun v6 wc => ∃ (kq : Nat) (x6_2 : Bool), v6 = .bool x6_2 ∧ Aside0 (zilog_loads.j0 kq a0 l1 a0 x6_2 = some r) ∧ Aside0 (kq ≤ k) ∧ Aside0 (Below w.heap.size w wc))
  case first =>
    have H := HC3.out
    clear HC3
    by_cases c4 : a0.toList = ([77, 79, 86] : List UInt8)
    · rw [if_pos c4] at H
      have c4b0 : (a0.toList == ([77, 79, 86] : List UInt8)) = true := beq_iff_eq.mpr c4
      have c4b1 : (a0.toList != ([77, 79, 86] : List UInt8)) = false := bne_eq_false_iff_eq.mpr c4
      clear c4
      (first | rw [c4b0] | (simp only [i64_w, i32_w]; rw [c4b0]) | skip)
      have H' := Aside0.mk H
      clear H
      go_wp2
      go_meet
      case rel => exact ⟨_, ((a0.toList == ([77, 79, 86] : List UInt8))), (by first | rfl | (simp; done) | (simp [*]; done)), H', ⟨by first | omega | exact Nat.le_refl _⟩, ⟨by repeat (first | (with_reducible first | exact HB.out | apply below_alloc | apply pw_below_drewN | apply below_drew1) | exact HB.out)⟩⟩
    · rw [if_neg c4] at H
      have c4b0 : (a0.toList == ([77, 79, 86] : List UInt8)) = false := beq_eq_false_iff_ne.mpr c4
      have c4b1 : (a0.toList != ([77, 79, 86] : List UInt8)) = true := bne_iff_ne.mpr c4
      (first | rw [c4b0] | (simp only [i64_w, i32_w]; rw [c4b0]) | skip)
      have H' := Aside0.mk H
      clear H
      go_wp2
      go_meet
      case rel => exact ⟨_, ((a0.toList == ([77, 86, 73] : List UInt8))), (by first | rfl | (simp; done) | (simp [*]; done)), H', ⟨by first | omega | exact Nat.le_refl _⟩, ⟨by repeat (first | (with_reducible first | exact HB.out | apply below_alloc | apply pw_below_drewN | apply below_drew1) | exact HB.out)⟩⟩
  case rest =>
    clear HC3
    try clear c1
    try clear p2
    try clear c3
    try clear c4
    try clear c4b0
    try clear c4b1
    obtain ⟨kq, x6_2, rfl, HA, HJ2, HB⟩ := hcut
    cases kq with
    | zero => exact absurd HA.out (by simp [zilog_loads.j0])
    | succ kj2 =>
      have H := HA.out
      clear HA
      simp only [zilog_loads.j0] at H
      by_cases c5 : x6_2 = true
      · subst c5
        have H1 : (if 0 < (l1.length : Int) then ((zilog_arg.f (rdOf ByteArray.empty l1 0)).bind fun t396 => (if 1 < (l1.length : Int) then ((zilog_arg.f (rdOf ByteArray.empty l1 1)).bind fun t398 => ((zilog_words.f (([(⟨#[76, 68]⟩ : ByteArray), t396, t398] : List ByteArray))).bind fun t402 => (some t402))) else (none))) else (none)) = some r := by rw [if_pos rfl] at H; exact H
        clear H
        have H := H1
        clear H1
        by_cases c6 : 0 < (l1.length : Int)
        · rw [if_pos c6] at H
          have c6b0 : decide (0 < (l1.length : Int)) = true := decide_eq_true c6
          have c6b1 : decide (0 < l1.length) = true := decide_eq_true (by omega)
          clear c6
          replace H := Option.bind_eq_some_iff.mp H
          obtain ⟨t396, A70, H⟩ := H
          replace H : (if 1 < (l1.length : Int) then ((zilog_arg.f (rdOf ByteArray.empty l1 1)).bind fun t398 => ((zilog_words.f (([(⟨#[76, 68]⟩ : ByteArray), t396, t398] : List ByteArray))).bind fun t402 => (some t402))) else (none)) = some r := H
          have A7 := Aside0.mk A70
          clear A70
          by_cases c8 : 1 < (l1.length : Int)
          · rw [if_pos c8] at H
            have c8b0 : decide (1 < (l1.length : Int)) = true := decide_eq_true c8
            have c8b1 : decide (1 < l1.length) = true := decide_eq_true (by omega)
            clear c8
            replace H := Option.bind_eq_some_iff.mp H
            obtain ⟨t398, A90, H⟩ := H
            replace H : ((zilog_words.f (([(⟨#[76, 68]⟩ : ByteArray), t396, t398] : List ByteArray))).bind fun t402 => (some t402)) = some r := H
            have A9 := Aside0.mk A90
            clear A90
            obtain ⟨y399, hy399⟩ : ∃ y_ : List ByteArray, y_ = (([(⟨#[76, 68]⟩ : ByteArray), t396, t398] : List ByteArray)) := ⟨_, rfl⟩
            replace H : ((zilog_words.f y399).bind fun t402 => (some t402)) = some r := by first | (rw [hy399]; with_reducible exact H) | (have H2_ := (Option.bind_some _ _).symm.trans H; rw [hy399]; with_reducible exact H2_) | (have H2_ := (Option.bind_some _ _).symm.trans H; with_reducible exact H2_) | with_reducible exact H | (rw [hy399]; exact H) | exact H
            have Ny399 := Aside0.mk hy399
            clear hy399
            replace H := Option.bind_eq_some_iff.mp H
            obtain ⟨t402, A100, H⟩ := H
            replace H : (some t402) = some r := H
            have A10 := Aside0.mk A100
            clear A100
            obtain rfl := Option.some.inj H
            try go_wp2
            have n0_ := Aside0.mk (below_drew1 HB.out)
            clear HB
            have HB := n0_
            clear n0_
            have p395 : 0 ≤ (0 : Int) := (by omega)
            have q395 : 0 < (l1.length : Int) := of_decide_eq_true (by first | (with_reducible assumption) | assumption)
            obtain ⟨ad395, e395, hx395_0⟩ := Kd.at_string HR1.out 0 p395 q395
            have hw395_0 := hx395_0
            (try rw [show ((0 : Int)).toNat = 0 from rfl] at hw395_0)
            (try rw [show 0 * 1 = 0 from rfl] at hw395_0)
            (try rw [Addr.add_zero'] at hw395_0)
            cases e395
            have qi395 : (0 < l1.length) = True := eq_true (by omega)
            (try rw [show ((0 : Int)).toNat = 0 from rfl] at hx395_0)
            (try rw [Addr.add_zero'] at hx395_0)
            replace hx395_0 := (HB.out.cell (World.block_lt_of_cell? w _ hx395_0)).trans hx395_0
            replace p395 := eq_true p395
            replace q395 := eq_true q395
            have p397 : 0 ≤ (1 : Int) := (by omega)
            have q397 : 1 < (l1.length : Int) := of_decide_eq_true (by first | (with_reducible assumption) | assumption)
            obtain ⟨ad397, e397, hx397_0⟩ := Kd.at_string HR1.out 1 p397 q397
            have hw397_0 := hx397_0
            (try rw [show ((1 : Int)).toNat = 1 from rfl] at hw397_0)
            (try rw [show 1 * 1 = 1 from rfl] at hw397_0)
            (try simp only [Nat.reduceMul, Nat.reduceEqDiff, Go.Addr.add, ↓reduceIte] at hw397_0)
            obtain rfl : ad395 = ad397 := (by injection e397)
            (try simp only [show (1 : Int).toNat = 1 from rfl, Nat.reduceMul, Nat.reduceEqDiff, Go.Addr.add, ↓reduceIte] at hx397_0)
            have qi397 : (1 < l1.length) = True := eq_true (by omega)
            (try rw [show ((1 : Int)).toNat = 1 from rfl] at hx397_0)
            replace hx397_0 := (HB.out.cell (World.block_lt_of_cell? w _ hx397_0)).trans hx397_0
            replace p397 := eq_true p397
            replace q397 := eq_true q397
            refine start_ (n := 11) (S := fun w' => w'.cell? ad395 = some (.string (rdOf ByteArray.empty l1 0)) ∧ w'.cell? ⟨ad395.block, ad395.off + 1, none⟩ = some (.string (rdOf ByteArray.empty l1 1))) (ds := []) #[false, false, false, false, false, false, false, false, false, false, false] (by kernel_rfl) rfl rfl ⟨((HB.out.cell (World.block_lt_of_cell? w _ hw395_0)).trans hw395_0), ((HB.out.cell (World.block_lt_of_cell? w _ hw397_0)).trans hw397_0)⟩ (fun hHeld => ?_); refine with_tabW zilog_loads.tab4 zilog_loads.bits4 (fun HT_ HW_ => ?_)
            generalize wc.drew = w11 at HB hx395_0 hx397_0 hHeld ⊢
            refine pure_ (i := 0) (N := some 9) (v := ?_) (a' := ?_) #[true, false, false, false, false, false, false, false, false, false, false] rfl rfl (any_of HT_.out (by kernel_rfl)) (fun _ _ _ h => h) (Or.inl ⟨by rfl, ?_⟩) ?_ ?_
            rotate_left
            · intro w'
              go_simp
              with_reducible rfl
            rotate_left
            · simp only [Act.put, List.setIfInBounds_toArray, List.set_cons_zero, List.set_cons_succ, i64_w, i32_w]
              rfl
            refine pure_ (i := 1) (N := some 10) (v := ?_) (a' := ?_) #[true, true, false, false, false, false, false, false, false, false, false] rfl rfl (any_of HT_.out (by kernel_rfl)) (fun _ _ _ h => h) (Or.inl ⟨by rfl, ?_⟩) ?_ ?_
            rotate_left
            · intro w'
              go_simp
              with_reducible rfl
            rotate_left
            · simp only [Act.put, List.setIfInBounds_toArray, List.set_cons_zero, List.set_cons_succ, i64_w, i32_w]
              rfl
            refine pure_ (i := 4) (N := some 13) (v := ?_) (a' := ?_) #[true, true, false, false, true, false, false, false, false, false, false] rfl rfl (any_of HT_.out (by kernel_rfl)) (fun _ _ _ h => h) (Or.inl ⟨by rfl, ?_⟩) ?_ ?_
            rotate_left
            · intro w'
              go_simp
              with_reducible rfl
            rotate_left
            · simp only [Act.put, List.setIfInBounds_toArray, List.set_cons_zero, List.set_cons_succ, i64_w, i32_w]
              rfl
            refine pure_ (i := 5) (N := some 14) (v := ?_) (a' := ?_) #[true, true, false, false, true, true, false, false, false, false, false] rfl rfl (any_of HT_.out (by kernel_rfl)) (fun _ _ _ h => h) (Or.inl ⟨by rfl, ?_⟩) ?_ ?_
            rotate_left
            · intro w'
              go_simp
              with_reducible rfl
            rotate_left
            · simp only [Act.put, List.setIfInBounds_toArray, List.set_cons_zero, List.set_cons_succ, i64_w, i32_w]
              rfl
            refine take_ (i := 2) (N := some 11) (v := ?_) (a' := ?_) #[true, true, true, false, true, true, false, false, false, false, false] rfl rfl (take_ofW HT_.out HW_.out (by kernel_rfl)) (fun _ _ _ h => h) (Or.inl ⟨by rfl, ?_⟩) hHeld ?_ ?_
            rotate_left
            · rintro w' ⟨s0, s1⟩
              go_simp
              with_reducible rfl
            rotate_left
            · simp only [Act.put, List.setIfInBounds_toArray, List.set_cons_zero, List.set_cons_succ, i64_w, i32_w]
              rfl
            refine take_ (i := 6) (N := some 15) (v := ?_) (a' := ?_) #[true, true, true, false, true, true, true, false, false, false, false] rfl rfl (take_ofW HT_.out HW_.out (by kernel_rfl)) (fun _ _ _ h => h) (Or.inl ⟨by rfl, ?_⟩) hHeld ?_ ?_
            rotate_left
            · rintro w' ⟨s0, s1⟩
              go_simp
              with_reducible rfl
            rotate_left
            · simp only [Act.put, List.setIfInBounds_toArray, List.set_cons_zero, List.set_cons_succ, i64_w, i32_w]
              rfl
            refine one_ (i := 3) (N := some 12) #[true, true, true, true, true, true, true, false, false, false, false] rfl rfl (one_of HT_.out (by kernel_rfl)) (by decide) (fun K hK => ?_)
            refine goes_ Tryd.func36 (by kernel_rfl) rfl #[.string (rdOf ByteArray.empty l1 0)] (by rfl) rfl rfl (by (try simp only [List.map_toArray, List.map_cons, List.map_nil]); first | done | rfl | (simp only [List.length_drop, List.length_take]; rfl)) ?_
            with_reducible refine (zilog_arg.calls (rdOf ByteArray.empty l1 0) t396 _ A7.out (by first | exact hT | exact tabs_below hT (by repeat (first | (with_reducible first | exact HB.out | apply below_alloc | apply pw_below_drewN | apply below_drew1) | exact HB.out)) | (repeat (first | exact hT | apply tabs_alloc | apply tabs_drewN | apply tabs_drew)))).mono ?_
            rintro e w' ⟨rfl, ⟨nd, rfl⟩⟩
            refine ⟨_, rfl, ?_⟩
            refine hK.out _ _ ⟨((HB.out.cell (World.block_lt_of_cell? w _ hw395_0)).trans hw395_0), ((HB.out.cell (World.block_lt_of_cell? w _ hw397_0)).trans hw397_0)⟩ (fun hHeld => ?_)
            clear hK K
            refine norm_ (a' := ?_) ?_ ?_
            rotate_left
            · show Act.put _ (some 12) _ = _
              simp only [Act.put, List.setIfInBounds_toArray, List.set_cons_zero, List.set_cons_succ, i64_w, i32_w]
              rfl
            refine one_ (i := 7) (N := some 16) #[true, true, true, true, true, true, true, true, false, false, false] rfl rfl (one_of HT_.out (by kernel_rfl)) (by decide) (fun K hK => ?_)
            refine goes_ Tryd.func36 (by kernel_rfl) rfl #[.string (rdOf ByteArray.empty l1 1)] (by rfl) rfl rfl (by (try simp only [List.map_toArray, List.map_cons, List.map_nil]); first | done | rfl | (simp only [List.length_drop, List.length_take]; rfl)) ?_
            with_reducible refine (zilog_arg.calls (rdOf ByteArray.empty l1 1) t398 _ A9.out (by first | exact hT | exact tabs_below hT (by repeat (first | (with_reducible first | exact HB.out | apply below_alloc | apply pw_below_drewN | apply below_drew1) | exact HB.out)) | (repeat (first | exact hT | apply tabs_alloc | apply tabs_drewN | apply tabs_drew)))).mono ?_
            rintro e w' ⟨rfl, ⟨nd, rfl⟩⟩
            refine ⟨_, rfl, ?_⟩
            refine hK.out _ _ ⟨((HB.out.cell (World.block_lt_of_cell? w _ hw395_0)).trans hw395_0), ((HB.out.cell (World.block_lt_of_cell? w _ hw397_0)).trans hw397_0)⟩ (fun hHeld => ?_)
            clear hK K
            refine norm_ (a' := ?_) ?_ ?_
            rotate_left
            · show Act.put _ (some 16) _ = _
              simp only [Act.put, List.setIfInBounds_toArray, List.set_cons_zero, List.set_cons_succ, i64_w, i32_w]
              rfl
            refine one_ (i := 8) (N := some 17) #[true, true, true, true, true, true, true, true, true, false, false] rfl rfl (one_of HT_.out (by kernel_rfl)) (by decide) (fun K hK => ?_)
            refine Kd.R_lit_step Kd.string _ 9 ?hg (N := 17) ?hd (xs := ([(⟨#[76, 68]⟩ : ByteArray), t396, t398] : List ByteArray)) (inner := [.string (⟨#[76, 68]⟩ : ByteArray), .string t396, .string t398]) (ok := fun _ => True) (okp := fun _ => True) ?hr ?hp (fun _ hk => hk) trivial (Below.refl _ _) (Nat.le_refl _) (by simp) ?_; (case hd => rfl); (case hg => rfl); (case hr => first | (go_simp; done) | (go_simp; rfl)); (case hp => exact (Reps.one (show Kd.M Kd.string _ _ _ (⟨#[76, 68]⟩ : ByteArray) [.string (⟨#[76, 68]⟩ : ByteArray)] from rfl) (Reps.one (show Kd.M Kd.string _ _ _ t396 [.string t396] from rfl) (Reps.one (show Kd.M Kd.string _ _ _ t398 [.string t398] from rfl) (Reps.none _ _)))))
            intro v400 w12 ho13 hb hg_ hnew_
            clear hg_ hnew_
            (first | rw [← Ny399.out] at ho13 | (simp only [Int.reduceToNat] at ho13; rw [← Ny399.out] at ho13))
            have n0_ := Aside0.mk (Kd.R_lower ho13 (below_size (by repeat (first | (with_reducible first | exact HB.out | apply below_alloc | apply pw_below_drewN | apply below_drew1) | exact HB.out))))
            have n1_ := Aside0.mk (below_step (by repeat (first | (with_reducible first | exact HB.out | apply below_alloc | apply pw_below_drewN | apply below_drew1) | exact HB.out)) hb)
            clear HB
            have HO401 := n0_
            have HB := n1_
            clear n0_ n1_
            clear hb ho13
            obtain ⟨Ao14, co14, eo14⟩ := Kd.R_slice HO401.out
            (first | subst eo14 | (injection eo14 with f1_ f2_ f3_; have f4_ := f1_.symm; have f5_ := f3_.symm; clear f1_ f2_ f3_; subst f4_; subst f5_))
            refine hK.out _ _ ⟨((HB.out.cell (World.block_lt_of_cell? w _ hw395_0)).trans hw395_0), ((HB.out.cell (World.block_lt_of_cell? w _ hw397_0)).trans hw397_0)⟩ (fun hHeld => ?_)
            clear hK K
            refine norm_ (a' := ?_) ?_ ?_
            rotate_left
            · show Act.put _ (some 17) _ = _
              simp only [Act.put, List.setIfInBounds_toArray, List.set_cons_zero, List.set_cons_succ, i64_w, i32_w]
              rfl
            refine one_ (i := 9) (N := some 18) #[true, true, true, true, true, true, true, true, true, true, false] rfl rfl (one_of HT_.out (by kernel_rfl)) (by decide) (fun K hK => ?_)
            refine goes_ Tryd.func33 (by kernel_rfl) rfl #[.slice Ao14 y399.length co14] (by rfl) rfl rfl (by (try simp only [List.map_toArray, List.map_cons, List.map_nil]); first | done | rfl | (simp only [List.length_drop, List.length_take]; rfl)) ?_
            with_reducible refine (zilog_words.calls (fun k_ => some k_ = (.slice Ao14 y399.length co14 : Value).ownBlock) (.slice Ao14 y399.length co14) y399 t402 w _ ?side1 ?side2 A10.out (by first | exact hT | exact tabs_below hT (by repeat (first | (with_reducible first | exact HB.out | apply below_alloc | apply pw_below_drewN | apply below_drew1) | exact HB.out)) | (repeat (first | exact hT | apply tabs_alloc | apply tabs_drewN | apply tabs_drew)))).mono ?_
            (case side1 => repeat (first | (with_reducible first | exact HB.out | apply below_alloc | apply pw_below_drewN | apply below_drew1) | exact HB.out))
            (case side2 => exact Kd.R_tight rfl HO401.out)
            rintro e w15 ⟨v403, rfl, ho0, hb, hkp⟩
            refine ⟨_, rfl, ?_⟩
            have n0_ := Aside0.mk (Kd.R_mono (ok' := fun k_ => True) ho0 (fun k_ hk_ => trivial))
            have n1_ := Aside0.mk (hb)
            clear HB
            clear HO401
            have HO404 := n0_
            have HB := n1_
            clear n0_ n1_
            (try clear hb)
            (try clear hkp)
            (try clear ho0)
            refine hK.out _ _ ⟨((HB.out.cell (World.block_lt_of_cell? w _ hw395_0)).trans hw395_0), ((HB.out.cell (World.block_lt_of_cell? w _ hw397_0)).trans hw397_0)⟩ (fun hHeld => ?_)
            clear hK K
            refine norm_ (a' := ?_) ?_ ?_
            rotate_left
            · show Act.put _ (some 18) _ = _
              simp only [Act.put, List.setIfInBounds_toArray, List.set_cons_zero, List.set_cons_succ, i64_w, i32_w]
              rfl
            refine pure_ (i := 10) (N := some 4) (v := ?_) (a' := ?_) #[true, true, true, true, true, true, true, true, true, true, true] rfl rfl (any_of HT_.out (by kernel_rfl)) (fun _ _ _ h => h) (Or.inl ⟨by rfl, ?_⟩) ?_ ?_
            rotate_left
            · intro w'
              go_simp
              with_reducible rfl
            rotate_left
            · simp only [Act.put, List.setIfInBounds_toArray, List.set_cons_zero, List.set_cons_succ, i64_w, i32_w]
              rfl
            refine done_ (done_of HT_.out (by kernel_rfl)) ?_
            try go_wp2
            go_ret
            exact ⟨_, by first | rfl | (simp [errW_none, errW_some] <;> rfl) | (simp [*, errW_none, errW_some] <;> rfl), by (with_reducible repeat (first | apply Kd.R_alloc | apply Kd.R_drewN | apply Kd.R_drew)); exact HO404.out, by repeat (first | (with_reducible first | exact HB.out | apply below_alloc | apply pw_below_drewN | apply below_drew1) | exact HB.out)⟩
          · rw [if_neg c8] at H
            exact absurd H (by simp)
        · rw [if_neg c6] at H
          exact absurd H (by simp)
      · replace c5 := Bool.eq_false_iff.mpr c5
        subst c5
        have H1 : (if a0.toList = ([76, 88, 73] : List UInt8) then (if 0 < (l1.length : Int) then ((zilog_pair.f (rdOf ByteArray.empty l1 0)).bind fun t406 => ((zilog_words.f (([(⟨#[76, 68]⟩ : ByteArray), t406, (⟨#[110, 110]⟩ : ByteArray)] : List ByteArray))).bind fun t410 => (some t410))) else (none)) else (if a0.toList = ([83, 84, 65, 88] : List UInt8) then (if 0 < (l1.length : Int) then ((zilog_pair.f (rdOf ByteArray.empty l1 0)).bind fun t414 => (if 1 + t414.size ≤ 9223372036854775807 then (if ((⟨#[40]⟩ : ByteArray) ++ t414).size + 1 ≤ 9223372036854775807 then ((zilog_words.f (([(⟨#[76, 68]⟩ : ByteArray), ((⟨#[40]⟩ : ByteArray) ++ t414) ++ (⟨#[41]⟩ : ByteArray), (⟨#[65]⟩ : ByteArray)] : List ByteArray))).bind fun t418 => (some t418)) else (none)) else (none))) else (none)) else (if a0.toList = ([76, 68, 65, 88] : List UInt8) then (if 0 < (l1.length : Int) then ((zilog_pair.f (rdOf ByteArray.empty l1 0)).bind fun t422 => (if 1 + t422.size ≤ 9223372036854775807 then (if ((⟨#[40]⟩ : ByteArray) ++ t422).size + 1 ≤ 9223372036854775807 then ((zilog_words.f (([(⟨#[76, 68]⟩ : ByteArray), (⟨#[65]⟩ : ByteArray), ((⟨#[40]⟩ : ByteArray) ++ t422) ++ (⟨#[41]⟩ : ByteArray)] : List ByteArray))).bind fun t426 => (some t426)) else (none)) else (none))) else (none)) else (if a0.toList = ([73, 78, 88] : List UInt8) then (if 0 < (l1.length : Int) then ((zilog_pair.f (rdOf ByteArray.empty l1 0)).bind fun t430 => ((zilog_words.f (([(⟨#[73, 78, 67]⟩ : ByteArray), t430] : List ByteArray))).bind fun t434 => (some t434))) else (none)) else (if a0.toList = ([68, 67, 88] : List UInt8) then (if 0 < (l1.length : Int) then ((zilog_pair.f (rdOf ByteArray.empty l1 0)).bind fun t438 => ((zilog_words.f (([(⟨#[68, 69, 67]⟩ : ByteArray), t438] : List ByteArray))).bind fun t442 => (some t442))) else (none)) else (if a0.toList = ([68, 65, 68] : List UInt8) then (if 0 < (l1.length : Int) then ((zilog_pair.f (rdOf ByteArray.empty l1 0)).bind fun t446 => ((zilog_words.f (([(⟨#[65, 68, 68]⟩ : ByteArray), (⟨#[72, 76]⟩ : ByteArray), t446] : List ByteArray))).bind fun t450 => (some t450))) else (none)) else (if a0.toList = ([73, 78, 82] : List UInt8) then (if 0 < (l1.length : Int) then ((zilog_arg.f (rdOf ByteArray.empty l1 0)).bind fun t454 => ((zilog_words.f (([(⟨#[73, 78, 67]⟩ : ByteArray), t454] : List ByteArray))).bind fun t458 => (some t458))) else (none)) else (if a0.toList = ([68, 67, 82] : List UInt8) then (if 0 < (l1.length : Int) then ((zilog_arg.f (rdOf ByteArray.empty l1 0)).bind fun t462 => ((zilog_words.f (([(⟨#[68, 69, 67]⟩ : ByteArray), t462] : List ByteArray))).bind fun t466 => (some t466))) else (none)) else (if a0.toList = ([80, 79, 80] : List UInt8) then (zilog_loads.j1 kj2 a0 l1 (a0.toList == ([80, 79, 80] : List UInt8))) else (zilog_loads.j1 kj2 a0 l1 (a0.toList == ([80, 85, 83, 72] : List UInt8)))))))))))) = some r := by rw [if_neg (show ¬ (false = true) by decide)] at H; exact H
        clear H
        have H := H1
        clear H1
        by_cases c16 : a0.toList = ([76, 88, 73] : List UInt8)
        · rw [if_pos c16] at H
          have c16b0 : (a0.toList == ([76, 88, 73] : List UInt8)) = true := beq_iff_eq.mpr c16
          have c16b1 : (a0.toList != ([76, 88, 73] : List UInt8)) = false := bne_eq_false_iff_eq.mpr c16
          clear c16
          by_cases c17 : 0 < (l1.length : Int)
          · rw [if_pos c17] at H
            have c17b0 : decide (0 < (l1.length : Int)) = true := decide_eq_true c17
            have c17b1 : decide (0 < l1.length) = true := decide_eq_true (by omega)
            clear c17
            replace H := Option.bind_eq_some_iff.mp H
            obtain ⟨t406, A180, H⟩ := H
            replace H : ((zilog_words.f (([(⟨#[76, 68]⟩ : ByteArray), t406, (⟨#[110, 110]⟩ : ByteArray)] : List ByteArray))).bind fun t410 => (some t410)) = some r := H
            have A18 := Aside0.mk A180
            clear A180
            obtain ⟨y407, hy407⟩ : ∃ y_ : List ByteArray, y_ = (([(⟨#[76, 68]⟩ : ByteArray), t406, (⟨#[110, 110]⟩ : ByteArray)] : List ByteArray)) := ⟨_, rfl⟩
            replace H : ((zilog_words.f y407).bind fun t410 => (some t410)) = some r := by first | (rw [hy407]; with_reducible exact H) | (have H2_ := (Option.bind_some _ _).symm.trans H; rw [hy407]; with_reducible exact H2_) | (have H2_ := (Option.bind_some _ _).symm.trans H; with_reducible exact H2_) | with_reducible exact H | (rw [hy407]; exact H) | exact H
            have Ny407 := Aside0.mk hy407
            clear hy407
            replace H := Option.bind_eq_some_iff.mp H
            obtain ⟨t410, A190, H⟩ := H
            replace H : (some t410) = some r := H
            have A19 := Aside0.mk A190
            clear A190
            obtain rfl := Option.some.inj H
            have p405 : 0 ≤ (0 : Int) := (by omega)
            have q405 : 0 < (l1.length : Int) := of_decide_eq_true (by first | (with_reducible assumption) | assumption)
            obtain ⟨ad405, e405, hx405_0⟩ := Kd.at_string HR1.out 0 p405 q405
            cases e405
            have qi405 : (0 < l1.length) = True := eq_true (by omega)
            (try rw [show ((0 : Int)).toNat = 0 from rfl] at hx405_0)
            (try rw [Addr.add_zero'] at hx405_0)
            replace hx405_0 := (HB.out.cell (World.block_lt_of_cell? w _ hx405_0)).trans hx405_0
            replace p405 := eq_true p405
            replace q405 := eq_true q405
            go_wp2_with (first | ((with_reducible refine gate_callee (f := 53) rfl ?_); refine goesL_ (some 24) rfl rfl Tryd.func53 (by kernel_rfl) rfl #[.string (rdOf ByteArray.empty l1 0)] rfl (by (try simp only [List.map_toArray, List.map_cons, List.map_nil]); first | done | rfl | (simp only [List.length_drop, List.length_take]; rfl)) ?_; (with_reducible refine (zilog_pair.calls (rdOf ByteArray.empty l1 0) t406 _ A18.out (by first | exact hT | exact tabs_below hT (by repeat (first | (with_reducible first | exact HB.out | apply below_alloc | apply pw_below_drewN | apply below_drew1) | exact HB.out)) | (repeat (first | exact hT | apply tabs_alloc | apply tabs_drewN | apply tabs_drew)))).mono ?_); rintro e w' ⟨rfl, ⟨nd, rfl⟩⟩; refine ⟨_, rfl, ?_⟩) | ((with_reducible refine gate_dst (N := 25) rfl ?_); refine Kd.R_lit Kd.string _ 9 ?hg (N := 25) ?hd (xs := ([(⟨#[76, 68]⟩ : ByteArray), t406, (⟨#[110, 110]⟩ : ByteArray)] : List ByteArray)) (inner := [.string (⟨#[76, 68]⟩ : ByteArray), .string t406, .string (⟨#[110, 110]⟩ : ByteArray)]) (ok := fun _ => True) (okp := fun _ => True) ?hr ?hp (fun _ hk => hk) trivial (Below.refl _ _) (Nat.le_refl _) (by simp) ?_; (case hd => rfl); (case hg => rfl); (case hr => first | (go_simp; done) | (go_simp; rfl)); (case hp => exact (Reps.one (show Kd.M Kd.string _ _ _ (⟨#[76, 68]⟩ : ByteArray) [.string (⟨#[76, 68]⟩ : ByteArray)] from rfl) (Reps.one (show Kd.M Kd.string _ _ _ t406 [.string t406] from rfl) (Reps.one (show Kd.M Kd.string _ _ _ (⟨#[110, 110]⟩ : ByteArray) [.string (⟨#[110, 110]⟩ : ByteArray)] from rfl) (Reps.none _ _))))); intro v408 w20 ho21 hb hg_ hnew_; clear hg_ hnew_; (first | rw [← Ny407.out] at ho21 | (simp only [Int.reduceToNat] at ho21; rw [← Ny407.out] at ho21)); have n0_ := Aside0.mk (Kd.R_lower ho21 (below_size (by repeat (first | (with_reducible first | exact HB.out | apply below_alloc | apply pw_below_drewN | apply below_drew1) | exact HB.out)))); have n1_ := Aside0.mk (below_step (by repeat (first | (with_reducible first | exact HB.out | apply below_alloc | apply pw_below_drewN | apply below_drew1) | exact HB.out)) hb); clear HB; have HO409 := n0_; have HB := n1_; clear n0_ n1_; clear hb ho21; obtain ⟨Ao22, co22, eo22⟩ := Kd.R_slice HO409.out; subst eo22) | ((with_reducible refine gate_callee (f := 33) rfl ?_); refine goesL_ (some 26) rfl rfl Tryd.func33 (by kernel_rfl) rfl #[.slice Ao22 y407.length co22] rfl (by (try simp only [List.map_toArray, List.map_cons, List.map_nil]); first | done | rfl | (simp only [List.length_drop, List.length_take]; rfl)) ?_; (with_reducible refine (zilog_words.calls (fun k_ => some k_ = (.slice Ao22 y407.length co22 : Value).ownBlock) (.slice Ao22 y407.length co22) y407 t410 w _ ?side1 ?side2 A19.out (by first | exact hT | exact tabs_below hT (by repeat (first | (with_reducible first | exact HB.out | apply below_alloc | apply pw_below_drewN | apply below_drew1) | exact HB.out)) | (repeat (first | exact hT | apply tabs_alloc | apply tabs_drewN | apply tabs_drew)))).mono ?_); (case side1 => repeat (first | (with_reducible first | exact HB.out | apply below_alloc | apply pw_below_drewN | apply below_drew1) | exact HB.out)); (case side2 => exact Kd.R_tight rfl HO409.out); rintro e w23 ⟨v411, rfl, ho0, hb, hkp⟩; refine ⟨_, rfl, ?_⟩; have n0_ := Aside0.mk (Kd.R_mono (ok' := fun k_ => True) ho0 (fun k_ hk_ => trivial)); have n1_ := Aside0.mk (hb); clear HB; clear HO409; have HO412 := n0_; have HB := n1_; clear n0_ n1_; (try clear hb); (try clear hkp); (try clear ho0)))
            go_ret
            exact ⟨_, by first | rfl | (simp [errW_none, errW_some] <;> rfl) | (simp [*, errW_none, errW_some] <;> rfl), by (with_reducible repeat (first | apply Kd.R_alloc | apply Kd.R_drewN | apply Kd.R_drew)); exact HO412.out, by repeat (first | (with_reducible first | exact HB.out | apply below_alloc | apply pw_below_drewN | apply below_drew1) | exact HB.out)⟩
          · rw [if_neg c17] at H
            exact absurd H (by simp)
        · rw [if_neg c16] at H
          have c16b0 : (a0.toList == ([76, 88, 73] : List UInt8)) = false := beq_eq_false_iff_ne.mpr c16
          have c16b1 : (a0.toList != ([76, 88, 73] : List UInt8)) = true := bne_iff_ne.mpr c16
          by_cases c24 : a0.toList = ([83, 84, 65, 88] : List UInt8)
          · rw [if_pos c24] at H
            have c24b0 : (a0.toList == ([83, 84, 65, 88] : List UInt8)) = true := beq_iff_eq.mpr c24
            have c24b1 : (a0.toList != ([83, 84, 65, 88] : List UInt8)) = false := bne_eq_false_iff_eq.mpr c24
            clear c24
            by_cases c25 : 0 < (l1.length : Int)
            · rw [if_pos c25] at H
              have c25b0 : decide (0 < (l1.length : Int)) = true := decide_eq_true c25
              have c25b1 : decide (0 < l1.length) = true := decide_eq_true (by omega)
              clear c25
              replace H := Option.bind_eq_some_iff.mp H
              obtain ⟨t414, A260, H⟩ := H
              replace H : (if 1 + t414.size ≤ 9223372036854775807 then (if ((⟨#[40]⟩ : ByteArray) ++ t414).size + 1 ≤ 9223372036854775807 then ((zilog_words.f (([(⟨#[76, 68]⟩ : ByteArray), ((⟨#[40]⟩ : ByteArray) ++ t414) ++ (⟨#[41]⟩ : ByteArray), (⟨#[65]⟩ : ByteArray)] : List ByteArray))).bind fun t418 => (some t418)) else (none)) else (none)) = some r := H
              have A26 := Aside0.mk A260
              clear A260
              by_cases c27 : 1 + t414.size ≤ 9223372036854775807
              · rw [if_pos c27] at H
                have c27b0 := eq_true c27
                have c27b1 : decide (1 + t414.size ≤ 9223372036854775807) = true := decide_eq_true c27
                try have c27b2 : (9223372036854775807 < 1 + t414.size) = False := eq_false (Nat.not_lt.2 c27)
                by_cases c28 : ((⟨#[40]⟩ : ByteArray) ++ t414).size + 1 ≤ 9223372036854775807
                · rw [if_pos c28] at H
                  have c28b0 := eq_true c28
                  have c28b1 : decide (((⟨#[40]⟩ : ByteArray) ++ t414).size + 1 ≤ 9223372036854775807) = true := decide_eq_true c28
                  try have c28b2 : (9223372036854775807 < ((⟨#[40]⟩ : ByteArray) ++ t414).size + 1) = False := eq_false (Nat.not_lt.2 c28)
                  try have c28b3 : (9223372036854775807 < 1 + t414.size + 1) = False := eq_false (Nat.not_lt.2 (by have h_ := c28; simp only [ByteArray.size_append] at h_; exact h_))
                  obtain ⟨y415, hy415⟩ : ∃ y_ : List ByteArray, y_ = (([(⟨#[76, 68]⟩ : ByteArray), ((⟨#[40]⟩ : ByteArray) ++ t414) ++ (⟨#[41]⟩ : ByteArray), (⟨#[65]⟩ : ByteArray)] : List ByteArray)) := ⟨_, rfl⟩
                  replace H : ((zilog_words.f y415).bind fun t418 => (some t418)) = some r := by first | (rw [hy415]; with_reducible exact H) | (have H2_ := (Option.bind_some _ _).symm.trans H; rw [hy415]; with_reducible exact H2_) | (have H2_ := (Option.bind_some _ _).symm.trans H; with_reducible exact H2_) | with_reducible exact H | (rw [hy415]; exact H) | exact H
                  have Ny415 := Aside0.mk hy415
                  clear hy415
                  replace H := Option.bind_eq_some_iff.mp H
                  obtain ⟨t418, A290, H⟩ := H
                  replace H : (some t418) = some r := H
                  have A29 := Aside0.mk A290
                  clear A290
                  obtain rfl := Option.some.inj H
                  have p413 : 0 ≤ (0 : Int) := (by omega)
                  have q413 : 0 < (l1.length : Int) := of_decide_eq_true (by first | (with_reducible assumption) | assumption)
                  obtain ⟨ad413, e413, hx413_0⟩ := Kd.at_string HR1.out 0 p413 q413
                  cases e413
                  have qi413 : (0 < l1.length) = True := eq_true (by omega)
                  (try rw [show ((0 : Int)).toNat = 0 from rfl] at hx413_0)
                  (try rw [Addr.add_zero'] at hx413_0)
                  replace hx413_0 := (HB.out.cell (World.block_lt_of_cell? w _ hx413_0)).trans hx413_0
                  replace p413 := eq_true p413
                  replace q413 := eq_true q413
                  go_wp2_with (first | ((with_reducible refine gate_callee (f := 53) rfl ?_); refine goesL_ (some 32) rfl rfl Tryd.func53 (by kernel_rfl) rfl #[.string (rdOf ByteArray.empty l1 0)] rfl (by (try simp only [List.map_toArray, List.map_cons, List.map_nil]); first | done | rfl | (simp only [List.length_drop, List.length_take]; rfl)) ?_; (with_reducible refine (zilog_pair.calls (rdOf ByteArray.empty l1 0) t414 _ A26.out (by first | exact hT | exact tabs_below hT (by repeat (first | (with_reducible first | exact HB.out | apply below_alloc | apply pw_below_drewN | apply below_drew1) | exact HB.out)) | (repeat (first | exact hT | apply tabs_alloc | apply tabs_drewN | apply tabs_drew)))).mono ?_); rintro e w' ⟨rfl, ⟨nd, rfl⟩⟩; refine ⟨_, rfl, ?_⟩) | ((with_reducible refine gate_dst (N := 35) rfl ?_); refine Kd.R_lit Kd.string _ 9 ?hg (N := 35) ?hd (xs := ([(⟨#[76, 68]⟩ : ByteArray), ((⟨#[40]⟩ : ByteArray) ++ t414) ++ (⟨#[41]⟩ : ByteArray), (⟨#[65]⟩ : ByteArray)] : List ByteArray)) (inner := [.string (⟨#[76, 68]⟩ : ByteArray), .string (((⟨#[40]⟩ : ByteArray) ++ t414) ++ (⟨#[41]⟩ : ByteArray)), .string (⟨#[65]⟩ : ByteArray)]) (ok := fun _ => True) (okp := fun _ => True) ?hr ?hp (fun _ hk => hk) trivial (Below.refl _ _) (Nat.le_refl _) (by simp) ?_; (case hd => rfl); (case hg => rfl); (case hr => first | (go_simp; done) | (go_simp; rfl)); (case hp => exact (Reps.one (show Kd.M Kd.string _ _ _ (⟨#[76, 68]⟩ : ByteArray) [.string (⟨#[76, 68]⟩ : ByteArray)] from rfl) (Reps.one (show Kd.M Kd.string _ _ _ (((⟨#[40]⟩ : ByteArray) ++ t414) ++ (⟨#[41]⟩ : ByteArray)) [.string (((⟨#[40]⟩ : ByteArray) ++ t414) ++ (⟨#[41]⟩ : ByteArray))] from rfl) (Reps.one (show Kd.M Kd.string _ _ _ (⟨#[65]⟩ : ByteArray) [.string (⟨#[65]⟩ : ByteArray)] from rfl) (Reps.none _ _))))); intro v416 w30 ho31 hb hg_ hnew_; clear hg_ hnew_; (first | rw [← Ny415.out] at ho31 | (simp only [Int.reduceToNat] at ho31; rw [← Ny415.out] at ho31)); have n0_ := Aside0.mk (Kd.R_lower ho31 (below_size (by repeat (first | (with_reducible first | exact HB.out | apply below_alloc | apply pw_below_drewN | apply below_drew1) | exact HB.out)))); have n1_ := Aside0.mk (below_step (by repeat (first | (with_reducible first | exact HB.out | apply below_alloc | apply pw_below_drewN | apply below_drew1) | exact HB.out)) hb); clear HB; have HO417 := n0_; have HB := n1_; clear n0_ n1_; clear hb ho31; obtain ⟨Ao32, co32, eo32⟩ := Kd.R_slice HO417.out; subst eo32) | ((with_reducible refine gate_callee (f := 33) rfl ?_); refine goesL_ (some 36) rfl rfl Tryd.func33 (by kernel_rfl) rfl #[.slice Ao32 y415.length co32] rfl (by (try simp only [List.map_toArray, List.map_cons, List.map_nil]); first | done | rfl | (simp only [List.length_drop, List.length_take]; rfl)) ?_; (with_reducible refine (zilog_words.calls (fun k_ => some k_ = (.slice Ao32 y415.length co32 : Value).ownBlock) (.slice Ao32 y415.length co32) y415 t418 w _ ?side1 ?side2 A29.out (by first | exact hT | exact tabs_below hT (by repeat (first | (with_reducible first | exact HB.out | apply below_alloc | apply pw_below_drewN | apply below_drew1) | exact HB.out)) | (repeat (first | exact hT | apply tabs_alloc | apply tabs_drewN | apply tabs_drew)))).mono ?_); (case side1 => repeat (first | (with_reducible first | exact HB.out | apply below_alloc | apply pw_below_drewN | apply below_drew1) | exact HB.out)); (case side2 => exact Kd.R_tight rfl HO417.out); rintro e w33 ⟨v419, rfl, ho0, hb, hkp⟩; refine ⟨_, rfl, ?_⟩; have n0_ := Aside0.mk (Kd.R_mono (ok' := fun k_ => True) ho0 (fun k_ hk_ => trivial)); have n1_ := Aside0.mk (hb); clear HB; clear HO417; have HO420 := n0_; have HB := n1_; clear n0_ n1_; (try clear hb); (try clear hkp); (try clear ho0)))
                  go_ret
                  exact ⟨_, by first | rfl | (simp [errW_none, errW_some] <;> rfl) | (simp [*, errW_none, errW_some] <;> rfl), by (with_reducible repeat (first | apply Kd.R_alloc | apply Kd.R_drewN | apply Kd.R_drew)); exact HO420.out, by repeat (first | (with_reducible first | exact HB.out | apply below_alloc | apply pw_below_drewN | apply below_drew1) | exact HB.out)⟩
                · rw [if_neg c28] at H
                  exact absurd H (by simp)
              · rw [if_neg c27] at H
                exact absurd H (by simp)
            · rw [if_neg c25] at H
              exact absurd H (by simp)
          · rw [if_neg c24] at H
            have c24b0 : (a0.toList == ([83, 84, 65, 88] : List UInt8)) = false := beq_eq_false_iff_ne.mpr c24
            have c24b1 : (a0.toList != ([83, 84, 65, 88] : List UInt8)) = true := bne_iff_ne.mpr c24
            by_cases c34 : a0.toList = ([76, 68, 65, 88] : List UInt8)
            · rw [if_pos c34] at H
              have c34b0 : (a0.toList == ([76, 68, 65, 88] : List UInt8)) = true := beq_iff_eq.mpr c34
              have c34b1 : (a0.toList != ([76, 68, 65, 88] : List UInt8)) = false := bne_eq_false_iff_eq.mpr c34
              clear c34
              by_cases c35 : 0 < (l1.length : Int)
              · rw [if_pos c35] at H
                have c35b0 : decide (0 < (l1.length : Int)) = true := decide_eq_true c35
                have c35b1 : decide (0 < l1.length) = true := decide_eq_true (by omega)
                clear c35
                replace H := Option.bind_eq_some_iff.mp H
                obtain ⟨t422, A360, H⟩ := H
                replace H : (if 1 + t422.size ≤ 9223372036854775807 then (if ((⟨#[40]⟩ : ByteArray) ++ t422).size + 1 ≤ 9223372036854775807 then ((zilog_words.f (([(⟨#[76, 68]⟩ : ByteArray), (⟨#[65]⟩ : ByteArray), ((⟨#[40]⟩ : ByteArray) ++ t422) ++ (⟨#[41]⟩ : ByteArray)] : List ByteArray))).bind fun t426 => (some t426)) else (none)) else (none)) = some r := H
                have A36 := Aside0.mk A360
                clear A360
                by_cases c37 : 1 + t422.size ≤ 9223372036854775807
                · rw [if_pos c37] at H
                  have c37b0 := eq_true c37
                  have c37b1 : decide (1 + t422.size ≤ 9223372036854775807) = true := decide_eq_true c37
                  try have c37b2 : (9223372036854775807 < 1 + t422.size) = False := eq_false (Nat.not_lt.2 c37)
                  by_cases c38 : ((⟨#[40]⟩ : ByteArray) ++ t422).size + 1 ≤ 9223372036854775807
                  · rw [if_pos c38] at H
                    have c38b0 := eq_true c38
                    have c38b1 : decide (((⟨#[40]⟩ : ByteArray) ++ t422).size + 1 ≤ 9223372036854775807) = true := decide_eq_true c38
                    try have c38b2 : (9223372036854775807 < ((⟨#[40]⟩ : ByteArray) ++ t422).size + 1) = False := eq_false (Nat.not_lt.2 c38)
                    try have c38b3 : (9223372036854775807 < 1 + t422.size + 1) = False := eq_false (Nat.not_lt.2 (by have h_ := c38; simp only [ByteArray.size_append] at h_; exact h_))
                    obtain ⟨y423, hy423⟩ : ∃ y_ : List ByteArray, y_ = (([(⟨#[76, 68]⟩ : ByteArray), (⟨#[65]⟩ : ByteArray), ((⟨#[40]⟩ : ByteArray) ++ t422) ++ (⟨#[41]⟩ : ByteArray)] : List ByteArray)) := ⟨_, rfl⟩
                    replace H : ((zilog_words.f y423).bind fun t426 => (some t426)) = some r := by first | (rw [hy423]; with_reducible exact H) | (have H2_ := (Option.bind_some _ _).symm.trans H; rw [hy423]; with_reducible exact H2_) | (have H2_ := (Option.bind_some _ _).symm.trans H; with_reducible exact H2_) | with_reducible exact H | (rw [hy423]; exact H) | exact H
                    have Ny423 := Aside0.mk hy423
                    clear hy423
                    replace H := Option.bind_eq_some_iff.mp H
                    obtain ⟨t426, A390, H⟩ := H
                    replace H : (some t426) = some r := H
                    have A39 := Aside0.mk A390
                    clear A390
                    obtain rfl := Option.some.inj H
                    have p421 : 0 ≤ (0 : Int) := (by omega)
                    have q421 : 0 < (l1.length : Int) := of_decide_eq_true (by first | (with_reducible assumption) | assumption)
                    obtain ⟨ad421, e421, hx421_0⟩ := Kd.at_string HR1.out 0 p421 q421
                    cases e421
                    have qi421 : (0 < l1.length) = True := eq_true (by omega)
                    (try rw [show ((0 : Int)).toNat = 0 from rfl] at hx421_0)
                    (try rw [Addr.add_zero'] at hx421_0)
                    replace hx421_0 := (HB.out.cell (World.block_lt_of_cell? w _ hx421_0)).trans hx421_0
                    replace p421 := eq_true p421
                    replace q421 := eq_true q421
                    go_wp2_with (first | ((with_reducible refine gate_callee (f := 53) rfl ?_); refine goesL_ (some 42) rfl rfl Tryd.func53 (by kernel_rfl) rfl #[.string (rdOf ByteArray.empty l1 0)] rfl (by (try simp only [List.map_toArray, List.map_cons, List.map_nil]); first | done | rfl | (simp only [List.length_drop, List.length_take]; rfl)) ?_; (with_reducible refine (zilog_pair.calls (rdOf ByteArray.empty l1 0) t422 _ A36.out (by first | exact hT | exact tabs_below hT (by repeat (first | (with_reducible first | exact HB.out | apply below_alloc | apply pw_below_drewN | apply below_drew1) | exact HB.out)) | (repeat (first | exact hT | apply tabs_alloc | apply tabs_drewN | apply tabs_drew)))).mono ?_); rintro e w' ⟨rfl, ⟨nd, rfl⟩⟩; refine ⟨_, rfl, ?_⟩) | ((with_reducible refine gate_dst (N := 45) rfl ?_); refine Kd.R_lit Kd.string _ 9 ?hg (N := 45) ?hd (xs := ([(⟨#[76, 68]⟩ : ByteArray), (⟨#[65]⟩ : ByteArray), ((⟨#[40]⟩ : ByteArray) ++ t422) ++ (⟨#[41]⟩ : ByteArray)] : List ByteArray)) (inner := [.string (⟨#[76, 68]⟩ : ByteArray), .string (⟨#[65]⟩ : ByteArray), .string (((⟨#[40]⟩ : ByteArray) ++ t422) ++ (⟨#[41]⟩ : ByteArray))]) (ok := fun _ => True) (okp := fun _ => True) ?hr ?hp (fun _ hk => hk) trivial (Below.refl _ _) (Nat.le_refl _) (by simp) ?_; (case hd => rfl); (case hg => rfl); (case hr => first | (go_simp; done) | (go_simp; rfl)); (case hp => exact (Reps.one (show Kd.M Kd.string _ _ _ (⟨#[76, 68]⟩ : ByteArray) [.string (⟨#[76, 68]⟩ : ByteArray)] from rfl) (Reps.one (show Kd.M Kd.string _ _ _ (⟨#[65]⟩ : ByteArray) [.string (⟨#[65]⟩ : ByteArray)] from rfl) (Reps.one (show Kd.M Kd.string _ _ _ (((⟨#[40]⟩ : ByteArray) ++ t422) ++ (⟨#[41]⟩ : ByteArray)) [.string (((⟨#[40]⟩ : ByteArray) ++ t422) ++ (⟨#[41]⟩ : ByteArray))] from rfl) (Reps.none _ _))))); intro v424 w40 ho41 hb hg_ hnew_; clear hg_ hnew_; (first | rw [← Ny423.out] at ho41 | (simp only [Int.reduceToNat] at ho41; rw [← Ny423.out] at ho41)); have n0_ := Aside0.mk (Kd.R_lower ho41 (below_size (by repeat (first | (with_reducible first | exact HB.out | apply below_alloc | apply pw_below_drewN | apply below_drew1) | exact HB.out)))); have n1_ := Aside0.mk (below_step (by repeat (first | (with_reducible first | exact HB.out | apply below_alloc | apply pw_below_drewN | apply below_drew1) | exact HB.out)) hb); clear HB; have HO425 := n0_; have HB := n1_; clear n0_ n1_; clear hb ho41; obtain ⟨Ao42, co42, eo42⟩ := Kd.R_slice HO425.out; subst eo42) | ((with_reducible refine gate_callee (f := 33) rfl ?_); refine goesL_ (some 46) rfl rfl Tryd.func33 (by kernel_rfl) rfl #[.slice Ao42 y423.length co42] rfl (by (try simp only [List.map_toArray, List.map_cons, List.map_nil]); first | done | rfl | (simp only [List.length_drop, List.length_take]; rfl)) ?_; (with_reducible refine (zilog_words.calls (fun k_ => some k_ = (.slice Ao42 y423.length co42 : Value).ownBlock) (.slice Ao42 y423.length co42) y423 t426 w _ ?side1 ?side2 A39.out (by first | exact hT | exact tabs_below hT (by repeat (first | (with_reducible first | exact HB.out | apply below_alloc | apply pw_below_drewN | apply below_drew1) | exact HB.out)) | (repeat (first | exact hT | apply tabs_alloc | apply tabs_drewN | apply tabs_drew)))).mono ?_); (case side1 => repeat (first | (with_reducible first | exact HB.out | apply below_alloc | apply pw_below_drewN | apply below_drew1) | exact HB.out)); (case side2 => exact Kd.R_tight rfl HO425.out); rintro e w43 ⟨v427, rfl, ho0, hb, hkp⟩; refine ⟨_, rfl, ?_⟩; have n0_ := Aside0.mk (Kd.R_mono (ok' := fun k_ => True) ho0 (fun k_ hk_ => trivial)); have n1_ := Aside0.mk (hb); clear HB; clear HO425; have HO428 := n0_; have HB := n1_; clear n0_ n1_; (try clear hb); (try clear hkp); (try clear ho0)))
                    go_ret
                    exact ⟨_, by first | rfl | (simp [errW_none, errW_some] <;> rfl) | (simp [*, errW_none, errW_some] <;> rfl), by (with_reducible repeat (first | apply Kd.R_alloc | apply Kd.R_drewN | apply Kd.R_drew)); exact HO428.out, by repeat (first | (with_reducible first | exact HB.out | apply below_alloc | apply pw_below_drewN | apply below_drew1) | exact HB.out)⟩
                  · rw [if_neg c38] at H
                    exact absurd H (by simp)
                · rw [if_neg c37] at H
                  exact absurd H (by simp)
              · rw [if_neg c35] at H
                exact absurd H (by simp)
            · rw [if_neg c34] at H
              have c34b0 : (a0.toList == ([76, 68, 65, 88] : List UInt8)) = false := beq_eq_false_iff_ne.mpr c34
              have c34b1 : (a0.toList != ([76, 68, 65, 88] : List UInt8)) = true := bne_iff_ne.mpr c34
              by_cases c44 : a0.toList = ([73, 78, 88] : List UInt8)
              · rw [if_pos c44] at H
                have c44b0 : (a0.toList == ([73, 78, 88] : List UInt8)) = true := beq_iff_eq.mpr c44
                have c44b1 : (a0.toList != ([73, 78, 88] : List UInt8)) = false := bne_eq_false_iff_eq.mpr c44
                clear c44
                by_cases c45 : 0 < (l1.length : Int)
                · rw [if_pos c45] at H
                  have c45b0 : decide (0 < (l1.length : Int)) = true := decide_eq_true c45
                  have c45b1 : decide (0 < l1.length) = true := decide_eq_true (by omega)
                  clear c45
                  replace H := Option.bind_eq_some_iff.mp H
                  obtain ⟨t430, A460, H⟩ := H
                  replace H : ((zilog_words.f (([(⟨#[73, 78, 67]⟩ : ByteArray), t430] : List ByteArray))).bind fun t434 => (some t434)) = some r := H
                  have A46 := Aside0.mk A460
                  clear A460
                  obtain ⟨y431, hy431⟩ : ∃ y_ : List ByteArray, y_ = (([(⟨#[73, 78, 67]⟩ : ByteArray), t430] : List ByteArray)) := ⟨_, rfl⟩
                  replace H : ((zilog_words.f y431).bind fun t434 => (some t434)) = some r := by first | (rw [hy431]; with_reducible exact H) | (have H2_ := (Option.bind_some _ _).symm.trans H; rw [hy431]; with_reducible exact H2_) | (have H2_ := (Option.bind_some _ _).symm.trans H; with_reducible exact H2_) | with_reducible exact H | (rw [hy431]; exact H) | exact H
                  have Ny431 := Aside0.mk hy431
                  clear hy431
                  replace H := Option.bind_eq_some_iff.mp H
                  obtain ⟨t434, A470, H⟩ := H
                  replace H : (some t434) = some r := H
                  have A47 := Aside0.mk A470
                  clear A470
                  obtain rfl := Option.some.inj H
                  have p429 : 0 ≤ (0 : Int) := (by omega)
                  have q429 : 0 < (l1.length : Int) := of_decide_eq_true (by first | (with_reducible assumption) | assumption)
                  obtain ⟨ad429, e429, hx429_0⟩ := Kd.at_string HR1.out 0 p429 q429
                  cases e429
                  have qi429 : (0 < l1.length) = True := eq_true (by omega)
                  (try rw [show ((0 : Int)).toNat = 0 from rfl] at hx429_0)
                  (try rw [Addr.add_zero'] at hx429_0)
                  replace hx429_0 := (HB.out.cell (World.block_lt_of_cell? w _ hx429_0)).trans hx429_0
                  replace p429 := eq_true p429
                  replace q429 := eq_true q429
                  go_wp2_with (first | ((with_reducible refine gate_callee (f := 53) rfl ?_); refine goesL_ (some 52) rfl rfl Tryd.func53 (by kernel_rfl) rfl #[.string (rdOf ByteArray.empty l1 0)] rfl (by (try simp only [List.map_toArray, List.map_cons, List.map_nil]); first | done | rfl | (simp only [List.length_drop, List.length_take]; rfl)) ?_; (with_reducible refine (zilog_pair.calls (rdOf ByteArray.empty l1 0) t430 _ A46.out (by first | exact hT | exact tabs_below hT (by repeat (first | (with_reducible first | exact HB.out | apply below_alloc | apply pw_below_drewN | apply below_drew1) | exact HB.out)) | (repeat (first | exact hT | apply tabs_alloc | apply tabs_drewN | apply tabs_drew)))).mono ?_); rintro e w' ⟨rfl, ⟨nd, rfl⟩⟩; refine ⟨_, rfl, ?_⟩) | ((with_reducible refine gate_dst (N := 53) rfl ?_); refine Kd.R_lit Kd.string _ 9 ?hg (N := 53) ?hd (xs := ([(⟨#[73, 78, 67]⟩ : ByteArray), t430] : List ByteArray)) (inner := [.string (⟨#[73, 78, 67]⟩ : ByteArray), .string t430]) (ok := fun _ => True) (okp := fun _ => True) ?hr ?hp (fun _ hk => hk) trivial (Below.refl _ _) (Nat.le_refl _) (by simp) ?_; (case hd => rfl); (case hg => rfl); (case hr => first | (go_simp; done) | (go_simp; rfl)); (case hp => exact (Reps.one (show Kd.M Kd.string _ _ _ (⟨#[73, 78, 67]⟩ : ByteArray) [.string (⟨#[73, 78, 67]⟩ : ByteArray)] from rfl) (Reps.one (show Kd.M Kd.string _ _ _ t430 [.string t430] from rfl) (Reps.none _ _)))); intro v432 w48 ho49 hb hg_ hnew_; clear hg_ hnew_; (first | rw [← Ny431.out] at ho49 | (simp only [Int.reduceToNat] at ho49; rw [← Ny431.out] at ho49)); have n0_ := Aside0.mk (Kd.R_lower ho49 (below_size (by repeat (first | (with_reducible first | exact HB.out | apply below_alloc | apply pw_below_drewN | apply below_drew1) | exact HB.out)))); have n1_ := Aside0.mk (below_step (by repeat (first | (with_reducible first | exact HB.out | apply below_alloc | apply pw_below_drewN | apply below_drew1) | exact HB.out)) hb); clear HB; have HO433 := n0_; have HB := n1_; clear n0_ n1_; clear hb ho49; obtain ⟨Ao50, co50, eo50⟩ := Kd.R_slice HO433.out; subst eo50) | ((with_reducible refine gate_callee (f := 33) rfl ?_); refine goesL_ (some 54) rfl rfl Tryd.func33 (by kernel_rfl) rfl #[.slice Ao50 y431.length co50] rfl (by (try simp only [List.map_toArray, List.map_cons, List.map_nil]); first | done | rfl | (simp only [List.length_drop, List.length_take]; rfl)) ?_; (with_reducible refine (zilog_words.calls (fun k_ => some k_ = (.slice Ao50 y431.length co50 : Value).ownBlock) (.slice Ao50 y431.length co50) y431 t434 w _ ?side1 ?side2 A47.out (by first | exact hT | exact tabs_below hT (by repeat (first | (with_reducible first | exact HB.out | apply below_alloc | apply pw_below_drewN | apply below_drew1) | exact HB.out)) | (repeat (first | exact hT | apply tabs_alloc | apply tabs_drewN | apply tabs_drew)))).mono ?_); (case side1 => repeat (first | (with_reducible first | exact HB.out | apply below_alloc | apply pw_below_drewN | apply below_drew1) | exact HB.out)); (case side2 => exact Kd.R_tight rfl HO433.out); rintro e w51 ⟨v435, rfl, ho0, hb, hkp⟩; refine ⟨_, rfl, ?_⟩; have n0_ := Aside0.mk (Kd.R_mono (ok' := fun k_ => True) ho0 (fun k_ hk_ => trivial)); have n1_ := Aside0.mk (hb); clear HB; clear HO433; have HO436 := n0_; have HB := n1_; clear n0_ n1_; (try clear hb); (try clear hkp); (try clear ho0)))
                  go_ret
                  exact ⟨_, by first | rfl | (simp [errW_none, errW_some] <;> rfl) | (simp [*, errW_none, errW_some] <;> rfl), by (with_reducible repeat (first | apply Kd.R_alloc | apply Kd.R_drewN | apply Kd.R_drew)); exact HO436.out, by repeat (first | (with_reducible first | exact HB.out | apply below_alloc | apply pw_below_drewN | apply below_drew1) | exact HB.out)⟩
                · rw [if_neg c45] at H
                  exact absurd H (by simp)
              · rw [if_neg c44] at H
                have c44b0 : (a0.toList == ([73, 78, 88] : List UInt8)) = false := beq_eq_false_iff_ne.mpr c44
                have c44b1 : (a0.toList != ([73, 78, 88] : List UInt8)) = true := bne_iff_ne.mpr c44
                by_cases c52 : a0.toList = ([68, 67, 88] : List UInt8)
                · rw [if_pos c52] at H
                  have c52b0 : (a0.toList == ([68, 67, 88] : List UInt8)) = true := beq_iff_eq.mpr c52
                  have c52b1 : (a0.toList != ([68, 67, 88] : List UInt8)) = false := bne_eq_false_iff_eq.mpr c52
                  clear c52
                  by_cases c53 : 0 < (l1.length : Int)
                  · rw [if_pos c53] at H
                    have c53b0 : decide (0 < (l1.length : Int)) = true := decide_eq_true c53
                    have c53b1 : decide (0 < l1.length) = true := decide_eq_true (by omega)
                    clear c53
                    replace H := Option.bind_eq_some_iff.mp H
                    obtain ⟨t438, A540, H⟩ := H
                    replace H : ((zilog_words.f (([(⟨#[68, 69, 67]⟩ : ByteArray), t438] : List ByteArray))).bind fun t442 => (some t442)) = some r := H
                    have A54 := Aside0.mk A540
                    clear A540
                    obtain ⟨y439, hy439⟩ : ∃ y_ : List ByteArray, y_ = (([(⟨#[68, 69, 67]⟩ : ByteArray), t438] : List ByteArray)) := ⟨_, rfl⟩
                    replace H : ((zilog_words.f y439).bind fun t442 => (some t442)) = some r := by first | (rw [hy439]; with_reducible exact H) | (have H2_ := (Option.bind_some _ _).symm.trans H; rw [hy439]; with_reducible exact H2_) | (have H2_ := (Option.bind_some _ _).symm.trans H; with_reducible exact H2_) | with_reducible exact H | (rw [hy439]; exact H) | exact H
                    have Ny439 := Aside0.mk hy439
                    clear hy439
                    replace H := Option.bind_eq_some_iff.mp H
                    obtain ⟨t442, A550, H⟩ := H
                    replace H : (some t442) = some r := H
                    have A55 := Aside0.mk A550
                    clear A550
                    obtain rfl := Option.some.inj H
                    have p437 : 0 ≤ (0 : Int) := (by omega)
                    have q437 : 0 < (l1.length : Int) := of_decide_eq_true (by first | (with_reducible assumption) | assumption)
                    obtain ⟨ad437, e437, hx437_0⟩ := Kd.at_string HR1.out 0 p437 q437
                    cases e437
                    have qi437 : (0 < l1.length) = True := eq_true (by omega)
                    (try rw [show ((0 : Int)).toNat = 0 from rfl] at hx437_0)
                    (try rw [Addr.add_zero'] at hx437_0)
                    replace hx437_0 := (HB.out.cell (World.block_lt_of_cell? w _ hx437_0)).trans hx437_0
                    replace p437 := eq_true p437
                    replace q437 := eq_true q437
                    go_wp2_with (first | ((with_reducible refine gate_callee (f := 53) rfl ?_); refine goesL_ (some 60) rfl rfl Tryd.func53 (by kernel_rfl) rfl #[.string (rdOf ByteArray.empty l1 0)] rfl (by (try simp only [List.map_toArray, List.map_cons, List.map_nil]); first | done | rfl | (simp only [List.length_drop, List.length_take]; rfl)) ?_; (with_reducible refine (zilog_pair.calls (rdOf ByteArray.empty l1 0) t438 _ A54.out (by first | exact hT | exact tabs_below hT (by repeat (first | (with_reducible first | exact HB.out | apply below_alloc | apply pw_below_drewN | apply below_drew1) | exact HB.out)) | (repeat (first | exact hT | apply tabs_alloc | apply tabs_drewN | apply tabs_drew)))).mono ?_); rintro e w' ⟨rfl, ⟨nd, rfl⟩⟩; refine ⟨_, rfl, ?_⟩) | ((with_reducible refine gate_dst (N := 61) rfl ?_); refine Kd.R_lit Kd.string _ 9 ?hg (N := 61) ?hd (xs := ([(⟨#[68, 69, 67]⟩ : ByteArray), t438] : List ByteArray)) (inner := [.string (⟨#[68, 69, 67]⟩ : ByteArray), .string t438]) (ok := fun _ => True) (okp := fun _ => True) ?hr ?hp (fun _ hk => hk) trivial (Below.refl _ _) (Nat.le_refl _) (by simp) ?_; (case hd => rfl); (case hg => rfl); (case hr => first | (go_simp; done) | (go_simp; rfl)); (case hp => exact (Reps.one (show Kd.M Kd.string _ _ _ (⟨#[68, 69, 67]⟩ : ByteArray) [.string (⟨#[68, 69, 67]⟩ : ByteArray)] from rfl) (Reps.one (show Kd.M Kd.string _ _ _ t438 [.string t438] from rfl) (Reps.none _ _)))); intro v440 w56 ho57 hb hg_ hnew_; clear hg_ hnew_; (first | rw [← Ny439.out] at ho57 | (simp only [Int.reduceToNat] at ho57; rw [← Ny439.out] at ho57)); have n0_ := Aside0.mk (Kd.R_lower ho57 (below_size (by repeat (first | (with_reducible first | exact HB.out | apply below_alloc | apply pw_below_drewN | apply below_drew1) | exact HB.out)))); have n1_ := Aside0.mk (below_step (by repeat (first | (with_reducible first | exact HB.out | apply below_alloc | apply pw_below_drewN | apply below_drew1) | exact HB.out)) hb); clear HB; have HO441 := n0_; have HB := n1_; clear n0_ n1_; clear hb ho57; obtain ⟨Ao58, co58, eo58⟩ := Kd.R_slice HO441.out; subst eo58) | ((with_reducible refine gate_callee (f := 33) rfl ?_); refine goesL_ (some 62) rfl rfl Tryd.func33 (by kernel_rfl) rfl #[.slice Ao58 y439.length co58] rfl (by (try simp only [List.map_toArray, List.map_cons, List.map_nil]); first | done | rfl | (simp only [List.length_drop, List.length_take]; rfl)) ?_; (with_reducible refine (zilog_words.calls (fun k_ => some k_ = (.slice Ao58 y439.length co58 : Value).ownBlock) (.slice Ao58 y439.length co58) y439 t442 w _ ?side1 ?side2 A55.out (by first | exact hT | exact tabs_below hT (by repeat (first | (with_reducible first | exact HB.out | apply below_alloc | apply pw_below_drewN | apply below_drew1) | exact HB.out)) | (repeat (first | exact hT | apply tabs_alloc | apply tabs_drewN | apply tabs_drew)))).mono ?_); (case side1 => repeat (first | (with_reducible first | exact HB.out | apply below_alloc | apply pw_below_drewN | apply below_drew1) | exact HB.out)); (case side2 => exact Kd.R_tight rfl HO441.out); rintro e w59 ⟨v443, rfl, ho0, hb, hkp⟩; refine ⟨_, rfl, ?_⟩; have n0_ := Aside0.mk (Kd.R_mono (ok' := fun k_ => True) ho0 (fun k_ hk_ => trivial)); have n1_ := Aside0.mk (hb); clear HB; clear HO441; have HO444 := n0_; have HB := n1_; clear n0_ n1_; (try clear hb); (try clear hkp); (try clear ho0)))
                    go_ret
                    exact ⟨_, by first | rfl | (simp [errW_none, errW_some] <;> rfl) | (simp [*, errW_none, errW_some] <;> rfl), by (with_reducible repeat (first | apply Kd.R_alloc | apply Kd.R_drewN | apply Kd.R_drew)); exact HO444.out, by repeat (first | (with_reducible first | exact HB.out | apply below_alloc | apply pw_below_drewN | apply below_drew1) | exact HB.out)⟩
                  · rw [if_neg c53] at H
                    exact absurd H (by simp)
                · rw [if_neg c52] at H
                  have c52b0 : (a0.toList == ([68, 67, 88] : List UInt8)) = false := beq_eq_false_iff_ne.mpr c52
                  have c52b1 : (a0.toList != ([68, 67, 88] : List UInt8)) = true := bne_iff_ne.mpr c52
                  by_cases c60 : a0.toList = ([68, 65, 68] : List UInt8)
                  · rw [if_pos c60] at H
                    have c60b0 : (a0.toList == ([68, 65, 68] : List UInt8)) = true := beq_iff_eq.mpr c60
                    have c60b1 : (a0.toList != ([68, 65, 68] : List UInt8)) = false := bne_eq_false_iff_eq.mpr c60
                    clear c60
                    by_cases c61 : 0 < (l1.length : Int)
                    · rw [if_pos c61] at H
                      have c61b0 : decide (0 < (l1.length : Int)) = true := decide_eq_true c61
                      have c61b1 : decide (0 < l1.length) = true := decide_eq_true (by omega)
                      clear c61
                      replace H := Option.bind_eq_some_iff.mp H
                      obtain ⟨t446, A620, H⟩ := H
                      replace H : ((zilog_words.f (([(⟨#[65, 68, 68]⟩ : ByteArray), (⟨#[72, 76]⟩ : ByteArray), t446] : List ByteArray))).bind fun t450 => (some t450)) = some r := H
                      have A62 := Aside0.mk A620
                      clear A620
                      obtain ⟨y447, hy447⟩ : ∃ y_ : List ByteArray, y_ = (([(⟨#[65, 68, 68]⟩ : ByteArray), (⟨#[72, 76]⟩ : ByteArray), t446] : List ByteArray)) := ⟨_, rfl⟩
                      replace H : ((zilog_words.f y447).bind fun t450 => (some t450)) = some r := by first | (rw [hy447]; with_reducible exact H) | (have H2_ := (Option.bind_some _ _).symm.trans H; rw [hy447]; with_reducible exact H2_) | (have H2_ := (Option.bind_some _ _).symm.trans H; with_reducible exact H2_) | with_reducible exact H | (rw [hy447]; exact H) | exact H
                      have Ny447 := Aside0.mk hy447
                      clear hy447
                      replace H := Option.bind_eq_some_iff.mp H
                      obtain ⟨t450, A630, H⟩ := H
                      replace H : (some t450) = some r := H
                      have A63 := Aside0.mk A630
                      clear A630
                      obtain rfl := Option.some.inj H
                      have p445 : 0 ≤ (0 : Int) := (by omega)
                      have q445 : 0 < (l1.length : Int) := of_decide_eq_true (by first | (with_reducible assumption) | assumption)
                      obtain ⟨ad445, e445, hx445_0⟩ := Kd.at_string HR1.out 0 p445 q445
                      cases e445
                      have qi445 : (0 < l1.length) = True := eq_true (by omega)
                      (try rw [show ((0 : Int)).toNat = 0 from rfl] at hx445_0)
                      (try rw [Addr.add_zero'] at hx445_0)
                      replace hx445_0 := (HB.out.cell (World.block_lt_of_cell? w _ hx445_0)).trans hx445_0
                      replace p445 := eq_true p445
                      replace q445 := eq_true q445
                      go_wp2_with (first | ((with_reducible refine gate_callee (f := 53) rfl ?_); refine goesL_ (some 68) rfl rfl Tryd.func53 (by kernel_rfl) rfl #[.string (rdOf ByteArray.empty l1 0)] rfl (by (try simp only [List.map_toArray, List.map_cons, List.map_nil]); first | done | rfl | (simp only [List.length_drop, List.length_take]; rfl)) ?_; (with_reducible refine (zilog_pair.calls (rdOf ByteArray.empty l1 0) t446 _ A62.out (by first | exact hT | exact tabs_below hT (by repeat (first | (with_reducible first | exact HB.out | apply below_alloc | apply pw_below_drewN | apply below_drew1) | exact HB.out)) | (repeat (first | exact hT | apply tabs_alloc | apply tabs_drewN | apply tabs_drew)))).mono ?_); rintro e w' ⟨rfl, ⟨nd, rfl⟩⟩; refine ⟨_, rfl, ?_⟩) | ((with_reducible refine gate_dst (N := 69) rfl ?_); refine Kd.R_lit Kd.string _ 9 ?hg (N := 69) ?hd (xs := ([(⟨#[65, 68, 68]⟩ : ByteArray), (⟨#[72, 76]⟩ : ByteArray), t446] : List ByteArray)) (inner := [.string (⟨#[65, 68, 68]⟩ : ByteArray), .string (⟨#[72, 76]⟩ : ByteArray), .string t446]) (ok := fun _ => True) (okp := fun _ => True) ?hr ?hp (fun _ hk => hk) trivial (Below.refl _ _) (Nat.le_refl _) (by simp) ?_; (case hd => rfl); (case hg => rfl); (case hr => first | (go_simp; done) | (go_simp; rfl)); (case hp => exact (Reps.one (show Kd.M Kd.string _ _ _ (⟨#[65, 68, 68]⟩ : ByteArray) [.string (⟨#[65, 68, 68]⟩ : ByteArray)] from rfl) (Reps.one (show Kd.M Kd.string _ _ _ (⟨#[72, 76]⟩ : ByteArray) [.string (⟨#[72, 76]⟩ : ByteArray)] from rfl) (Reps.one (show Kd.M Kd.string _ _ _ t446 [.string t446] from rfl) (Reps.none _ _))))); intro v448 w64 ho65 hb hg_ hnew_; clear hg_ hnew_; (first | rw [← Ny447.out] at ho65 | (simp only [Int.reduceToNat] at ho65; rw [← Ny447.out] at ho65)); have n0_ := Aside0.mk (Kd.R_lower ho65 (below_size (by repeat (first | (with_reducible first | exact HB.out | apply below_alloc | apply pw_below_drewN | apply below_drew1) | exact HB.out)))); have n1_ := Aside0.mk (below_step (by repeat (first | (with_reducible first | exact HB.out | apply below_alloc | apply pw_below_drewN | apply below_drew1) | exact HB.out)) hb); clear HB; have HO449 := n0_; have HB := n1_; clear n0_ n1_; clear hb ho65; obtain ⟨Ao66, co66, eo66⟩ := Kd.R_slice HO449.out; subst eo66) | ((with_reducible refine gate_callee (f := 33) rfl ?_); refine goesL_ (some 70) rfl rfl Tryd.func33 (by kernel_rfl) rfl #[.slice Ao66 y447.length co66] rfl (by (try simp only [List.map_toArray, List.map_cons, List.map_nil]); first | done | rfl | (simp only [List.length_drop, List.length_take]; rfl)) ?_; (with_reducible refine (zilog_words.calls (fun k_ => some k_ = (.slice Ao66 y447.length co66 : Value).ownBlock) (.slice Ao66 y447.length co66) y447 t450 w _ ?side1 ?side2 A63.out (by first | exact hT | exact tabs_below hT (by repeat (first | (with_reducible first | exact HB.out | apply below_alloc | apply pw_below_drewN | apply below_drew1) | exact HB.out)) | (repeat (first | exact hT | apply tabs_alloc | apply tabs_drewN | apply tabs_drew)))).mono ?_); (case side1 => repeat (first | (with_reducible first | exact HB.out | apply below_alloc | apply pw_below_drewN | apply below_drew1) | exact HB.out)); (case side2 => exact Kd.R_tight rfl HO449.out); rintro e w67 ⟨v451, rfl, ho0, hb, hkp⟩; refine ⟨_, rfl, ?_⟩; have n0_ := Aside0.mk (Kd.R_mono (ok' := fun k_ => True) ho0 (fun k_ hk_ => trivial)); have n1_ := Aside0.mk (hb); clear HB; clear HO449; have HO452 := n0_; have HB := n1_; clear n0_ n1_; (try clear hb); (try clear hkp); (try clear ho0)))
                      go_ret
                      exact ⟨_, by first | rfl | (simp [errW_none, errW_some] <;> rfl) | (simp [*, errW_none, errW_some] <;> rfl), by (with_reducible repeat (first | apply Kd.R_alloc | apply Kd.R_drewN | apply Kd.R_drew)); exact HO452.out, by repeat (first | (with_reducible first | exact HB.out | apply below_alloc | apply pw_below_drewN | apply below_drew1) | exact HB.out)⟩
                    · rw [if_neg c61] at H
                      exact absurd H (by simp)
                  · rw [if_neg c60] at H
                    have c60b0 : (a0.toList == ([68, 65, 68] : List UInt8)) = false := beq_eq_false_iff_ne.mpr c60
                    have c60b1 : (a0.toList != ([68, 65, 68] : List UInt8)) = true := bne_iff_ne.mpr c60
                    by_cases c68 : a0.toList = ([73, 78, 82] : List UInt8)
                    · rw [if_pos c68] at H
                      have c68b0 : (a0.toList == ([73, 78, 82] : List UInt8)) = true := beq_iff_eq.mpr c68
                      have c68b1 : (a0.toList != ([73, 78, 82] : List UInt8)) = false := bne_eq_false_iff_eq.mpr c68
                      clear c68
                      by_cases c69 : 0 < (l1.length : Int)
                      · rw [if_pos c69] at H
                        have c69b0 : decide (0 < (l1.length : Int)) = true := decide_eq_true c69
                        have c69b1 : decide (0 < l1.length) = true := decide_eq_true (by omega)
                        clear c69
                        replace H := Option.bind_eq_some_iff.mp H
                        obtain ⟨t454, A700, H⟩ := H
                        replace H : ((zilog_words.f (([(⟨#[73, 78, 67]⟩ : ByteArray), t454] : List ByteArray))).bind fun t458 => (some t458)) = some r := H
                        have A70 := Aside0.mk A700
                        clear A700
                        obtain ⟨y455, hy455⟩ : ∃ y_ : List ByteArray, y_ = (([(⟨#[73, 78, 67]⟩ : ByteArray), t454] : List ByteArray)) := ⟨_, rfl⟩
                        replace H : ((zilog_words.f y455).bind fun t458 => (some t458)) = some r := by first | (rw [hy455]; with_reducible exact H) | (have H2_ := (Option.bind_some _ _).symm.trans H; rw [hy455]; with_reducible exact H2_) | (have H2_ := (Option.bind_some _ _).symm.trans H; with_reducible exact H2_) | with_reducible exact H | (rw [hy455]; exact H) | exact H
                        have Ny455 := Aside0.mk hy455
                        clear hy455
                        replace H := Option.bind_eq_some_iff.mp H
                        obtain ⟨t458, A710, H⟩ := H
                        replace H : (some t458) = some r := H
                        have A71 := Aside0.mk A710
                        clear A710
                        obtain rfl := Option.some.inj H
                        have p453 : 0 ≤ (0 : Int) := (by omega)
                        have q453 : 0 < (l1.length : Int) := of_decide_eq_true (by first | (with_reducible assumption) | assumption)
                        obtain ⟨ad453, e453, hx453_0⟩ := Kd.at_string HR1.out 0 p453 q453
                        cases e453
                        have qi453 : (0 < l1.length) = True := eq_true (by omega)
                        (try rw [show ((0 : Int)).toNat = 0 from rfl] at hx453_0)
                        (try rw [Addr.add_zero'] at hx453_0)
                        replace hx453_0 := (HB.out.cell (World.block_lt_of_cell? w _ hx453_0)).trans hx453_0
                        replace p453 := eq_true p453
                        replace q453 := eq_true q453
                        go_wp2_with (first | ((with_reducible refine gate_callee (f := 36) rfl ?_); refine goesL_ (some 76) rfl rfl Tryd.func36 (by kernel_rfl) rfl #[.string (rdOf ByteArray.empty l1 0)] rfl (by (try simp only [List.map_toArray, List.map_cons, List.map_nil]); first | done | rfl | (simp only [List.length_drop, List.length_take]; rfl)) ?_; (with_reducible refine (zilog_arg.calls (rdOf ByteArray.empty l1 0) t454 _ A70.out (by first | exact hT | exact tabs_below hT (by repeat (first | (with_reducible first | exact HB.out | apply below_alloc | apply pw_below_drewN | apply below_drew1) | exact HB.out)) | (repeat (first | exact hT | apply tabs_alloc | apply tabs_drewN | apply tabs_drew)))).mono ?_); rintro e w' ⟨rfl, ⟨nd, rfl⟩⟩; refine ⟨_, rfl, ?_⟩) | ((with_reducible refine gate_dst (N := 77) rfl ?_); refine Kd.R_lit Kd.string _ 9 ?hg (N := 77) ?hd (xs := ([(⟨#[73, 78, 67]⟩ : ByteArray), t454] : List ByteArray)) (inner := [.string (⟨#[73, 78, 67]⟩ : ByteArray), .string t454]) (ok := fun _ => True) (okp := fun _ => True) ?hr ?hp (fun _ hk => hk) trivial (Below.refl _ _) (Nat.le_refl _) (by simp) ?_; (case hd => rfl); (case hg => rfl); (case hr => first | (go_simp; done) | (go_simp; rfl)); (case hp => exact (Reps.one (show Kd.M Kd.string _ _ _ (⟨#[73, 78, 67]⟩ : ByteArray) [.string (⟨#[73, 78, 67]⟩ : ByteArray)] from rfl) (Reps.one (show Kd.M Kd.string _ _ _ t454 [.string t454] from rfl) (Reps.none _ _)))); intro v456 w72 ho73 hb hg_ hnew_; clear hg_ hnew_; (first | rw [← Ny455.out] at ho73 | (simp only [Int.reduceToNat] at ho73; rw [← Ny455.out] at ho73)); have n0_ := Aside0.mk (Kd.R_lower ho73 (below_size (by repeat (first | (with_reducible first | exact HB.out | apply below_alloc | apply pw_below_drewN | apply below_drew1) | exact HB.out)))); have n1_ := Aside0.mk (below_step (by repeat (first | (with_reducible first | exact HB.out | apply below_alloc | apply pw_below_drewN | apply below_drew1) | exact HB.out)) hb); clear HB; have HO457 := n0_; have HB := n1_; clear n0_ n1_; clear hb ho73; obtain ⟨Ao74, co74, eo74⟩ := Kd.R_slice HO457.out; subst eo74) | ((with_reducible refine gate_callee (f := 33) rfl ?_); refine goesL_ (some 78) rfl rfl Tryd.func33 (by kernel_rfl) rfl #[.slice Ao74 y455.length co74] rfl (by (try simp only [List.map_toArray, List.map_cons, List.map_nil]); first | done | rfl | (simp only [List.length_drop, List.length_take]; rfl)) ?_; (with_reducible refine (zilog_words.calls (fun k_ => some k_ = (.slice Ao74 y455.length co74 : Value).ownBlock) (.slice Ao74 y455.length co74) y455 t458 w _ ?side1 ?side2 A71.out (by first | exact hT | exact tabs_below hT (by repeat (first | (with_reducible first | exact HB.out | apply below_alloc | apply pw_below_drewN | apply below_drew1) | exact HB.out)) | (repeat (first | exact hT | apply tabs_alloc | apply tabs_drewN | apply tabs_drew)))).mono ?_); (case side1 => repeat (first | (with_reducible first | exact HB.out | apply below_alloc | apply pw_below_drewN | apply below_drew1) | exact HB.out)); (case side2 => exact Kd.R_tight rfl HO457.out); rintro e w75 ⟨v459, rfl, ho0, hb, hkp⟩; refine ⟨_, rfl, ?_⟩; have n0_ := Aside0.mk (Kd.R_mono (ok' := fun k_ => True) ho0 (fun k_ hk_ => trivial)); have n1_ := Aside0.mk (hb); clear HB; clear HO457; have HO460 := n0_; have HB := n1_; clear n0_ n1_; (try clear hb); (try clear hkp); (try clear ho0)))
                        go_ret
                        exact ⟨_, by first | rfl | (simp [errW_none, errW_some] <;> rfl) | (simp [*, errW_none, errW_some] <;> rfl), by (with_reducible repeat (first | apply Kd.R_alloc | apply Kd.R_drewN | apply Kd.R_drew)); exact HO460.out, by repeat (first | (with_reducible first | exact HB.out | apply below_alloc | apply pw_below_drewN | apply below_drew1) | exact HB.out)⟩
                      · rw [if_neg c69] at H
                        exact absurd H (by simp)
                    · rw [if_neg c68] at H
                      have c68b0 : (a0.toList == ([73, 78, 82] : List UInt8)) = false := beq_eq_false_iff_ne.mpr c68
                      have c68b1 : (a0.toList != ([73, 78, 82] : List UInt8)) = true := bne_iff_ne.mpr c68
                      by_cases c76 : a0.toList = ([68, 67, 82] : List UInt8)
                      · rw [if_pos c76] at H
                        have c76b0 : (a0.toList == ([68, 67, 82] : List UInt8)) = true := beq_iff_eq.mpr c76
                        have c76b1 : (a0.toList != ([68, 67, 82] : List UInt8)) = false := bne_eq_false_iff_eq.mpr c76
                        clear c76
                        by_cases c77 : 0 < (l1.length : Int)
                        · rw [if_pos c77] at H
                          have c77b0 : decide (0 < (l1.length : Int)) = true := decide_eq_true c77
                          have c77b1 : decide (0 < l1.length) = true := decide_eq_true (by omega)
                          clear c77
                          replace H := Option.bind_eq_some_iff.mp H
                          obtain ⟨t462, A780, H⟩ := H
                          replace H : ((zilog_words.f (([(⟨#[68, 69, 67]⟩ : ByteArray), t462] : List ByteArray))).bind fun t466 => (some t466)) = some r := H
                          have A78 := Aside0.mk A780
                          clear A780
                          obtain ⟨y463, hy463⟩ : ∃ y_ : List ByteArray, y_ = (([(⟨#[68, 69, 67]⟩ : ByteArray), t462] : List ByteArray)) := ⟨_, rfl⟩
                          replace H : ((zilog_words.f y463).bind fun t466 => (some t466)) = some r := by first | (rw [hy463]; with_reducible exact H) | (have H2_ := (Option.bind_some _ _).symm.trans H; rw [hy463]; with_reducible exact H2_) | (have H2_ := (Option.bind_some _ _).symm.trans H; with_reducible exact H2_) | with_reducible exact H | (rw [hy463]; exact H) | exact H
                          have Ny463 := Aside0.mk hy463
                          clear hy463
                          replace H := Option.bind_eq_some_iff.mp H
                          obtain ⟨t466, A790, H⟩ := H
                          replace H : (some t466) = some r := H
                          have A79 := Aside0.mk A790
                          clear A790
                          obtain rfl := Option.some.inj H
                          have p461 : 0 ≤ (0 : Int) := (by omega)
                          have q461 : 0 < (l1.length : Int) := of_decide_eq_true (by first | (with_reducible assumption) | assumption)
                          obtain ⟨ad461, e461, hx461_0⟩ := Kd.at_string HR1.out 0 p461 q461
                          cases e461
                          have qi461 : (0 < l1.length) = True := eq_true (by omega)
                          (try rw [show ((0 : Int)).toNat = 0 from rfl] at hx461_0)
                          (try rw [Addr.add_zero'] at hx461_0)
                          replace hx461_0 := (HB.out.cell (World.block_lt_of_cell? w _ hx461_0)).trans hx461_0
                          replace p461 := eq_true p461
                          replace q461 := eq_true q461
                          go_wp2_with (first | ((with_reducible refine gate_callee (f := 36) rfl ?_); refine goesL_ (some 84) rfl rfl Tryd.func36 (by kernel_rfl) rfl #[.string (rdOf ByteArray.empty l1 0)] rfl (by (try simp only [List.map_toArray, List.map_cons, List.map_nil]); first | done | rfl | (simp only [List.length_drop, List.length_take]; rfl)) ?_; (with_reducible refine (zilog_arg.calls (rdOf ByteArray.empty l1 0) t462 _ A78.out (by first | exact hT | exact tabs_below hT (by repeat (first | (with_reducible first | exact HB.out | apply below_alloc | apply pw_below_drewN | apply below_drew1) | exact HB.out)) | (repeat (first | exact hT | apply tabs_alloc | apply tabs_drewN | apply tabs_drew)))).mono ?_); rintro e w' ⟨rfl, ⟨nd, rfl⟩⟩; refine ⟨_, rfl, ?_⟩) | ((with_reducible refine gate_dst (N := 85) rfl ?_); refine Kd.R_lit Kd.string _ 9 ?hg (N := 85) ?hd (xs := ([(⟨#[68, 69, 67]⟩ : ByteArray), t462] : List ByteArray)) (inner := [.string (⟨#[68, 69, 67]⟩ : ByteArray), .string t462]) (ok := fun _ => True) (okp := fun _ => True) ?hr ?hp (fun _ hk => hk) trivial (Below.refl _ _) (Nat.le_refl _) (by simp) ?_; (case hd => rfl); (case hg => rfl); (case hr => first | (go_simp; done) | (go_simp; rfl)); (case hp => exact (Reps.one (show Kd.M Kd.string _ _ _ (⟨#[68, 69, 67]⟩ : ByteArray) [.string (⟨#[68, 69, 67]⟩ : ByteArray)] from rfl) (Reps.one (show Kd.M Kd.string _ _ _ t462 [.string t462] from rfl) (Reps.none _ _)))); intro v464 w80 ho81 hb hg_ hnew_; clear hg_ hnew_; (first | rw [← Ny463.out] at ho81 | (simp only [Int.reduceToNat] at ho81; rw [← Ny463.out] at ho81)); have n0_ := Aside0.mk (Kd.R_lower ho81 (below_size (by repeat (first | (with_reducible first | exact HB.out | apply below_alloc | apply pw_below_drewN | apply below_drew1) | exact HB.out)))); have n1_ := Aside0.mk (below_step (by repeat (first | (with_reducible first | exact HB.out | apply below_alloc | apply pw_below_drewN | apply below_drew1) | exact HB.out)) hb); clear HB; have HO465 := n0_; have HB := n1_; clear n0_ n1_; clear hb ho81; obtain ⟨Ao82, co82, eo82⟩ := Kd.R_slice HO465.out; subst eo82) | ((with_reducible refine gate_callee (f := 33) rfl ?_); refine goesL_ (some 86) rfl rfl Tryd.func33 (by kernel_rfl) rfl #[.slice Ao82 y463.length co82] rfl (by (try simp only [List.map_toArray, List.map_cons, List.map_nil]); first | done | rfl | (simp only [List.length_drop, List.length_take]; rfl)) ?_; (with_reducible refine (zilog_words.calls (fun k_ => some k_ = (.slice Ao82 y463.length co82 : Value).ownBlock) (.slice Ao82 y463.length co82) y463 t466 w _ ?side1 ?side2 A79.out (by first | exact hT | exact tabs_below hT (by repeat (first | (with_reducible first | exact HB.out | apply below_alloc | apply pw_below_drewN | apply below_drew1) | exact HB.out)) | (repeat (first | exact hT | apply tabs_alloc | apply tabs_drewN | apply tabs_drew)))).mono ?_); (case side1 => repeat (first | (with_reducible first | exact HB.out | apply below_alloc | apply pw_below_drewN | apply below_drew1) | exact HB.out)); (case side2 => exact Kd.R_tight rfl HO465.out); rintro e w83 ⟨v467, rfl, ho0, hb, hkp⟩; refine ⟨_, rfl, ?_⟩; have n0_ := Aside0.mk (Kd.R_mono (ok' := fun k_ => True) ho0 (fun k_ hk_ => trivial)); have n1_ := Aside0.mk (hb); clear HB; clear HO465; have HO468 := n0_; have HB := n1_; clear n0_ n1_; (try clear hb); (try clear hkp); (try clear ho0)))
                          go_ret
                          exact ⟨_, by first | rfl | (simp [errW_none, errW_some] <;> rfl) | (simp [*, errW_none, errW_some] <;> rfl), by (with_reducible repeat (first | apply Kd.R_alloc | apply Kd.R_drewN | apply Kd.R_drew)); exact HO468.out, by repeat (first | (with_reducible first | exact HB.out | apply below_alloc | apply pw_below_drewN | apply below_drew1) | exact HB.out)⟩
                        · rw [if_neg c77] at H
                          exact absurd H (by simp)
                      · rw [if_neg c76] at H
                        have c76b0 : (a0.toList == ([68, 67, 82] : List UInt8)) = false := beq_eq_false_iff_ne.mpr c76
                        have c76b1 : (a0.toList != ([68, 67, 82] : List UInt8)) = true := bne_iff_ne.mpr c76
                        have HC84 := Aside0.mk H
                        clear H
                        go_upto_if 87 with (fail)
                        go_cut [87] (fun v87 wc => ∃ (kq : Nat) (x87_83 : Bool), v87 = .bool x87_83 ∧ Aside0 (zilog_loads.j1 kq a0 l1 x87_83 = some r) ∧ Aside0 (kq ≤ kj2) ∧ Aside0 (Below w.heap.size w wc))
                        case first =>
                          have H := HC84.out
                          clear HC84
                          by_cases c85 : a0.toList = ([80, 79, 80] : List UInt8)
                          · rw [if_pos c85] at H
                            have c85b0 : (a0.toList == ([80, 79, 80] : List UInt8)) = true := beq_iff_eq.mpr c85
                            have c85b1 : (a0.toList != ([80, 79, 80] : List UInt8)) = false := bne_eq_false_iff_eq.mpr c85
                            clear c85
                            (first | rw [c85b0] | (simp only [i64_w, i32_w]; rw [c85b0]) | skip)
                            have H' := Aside0.mk H
                            clear H
                            go_wp2
                            go_meet
                            case rel => exact ⟨_, ((a0.toList == ([80, 79, 80] : List UInt8))), (by first | rfl | (simp; done) | (simp [*]; done)), H', ⟨by have := HJ2.out; first | omega | exact Nat.le_refl _⟩, ⟨by repeat (first | (with_reducible first | exact HB.out | apply below_alloc | apply pw_below_drewN | apply below_drew1) | exact HB.out)⟩⟩
                          · rw [if_neg c85] at H
                            have c85b0 : (a0.toList == ([80, 79, 80] : List UInt8)) = false := beq_eq_false_iff_ne.mpr c85
                            have c85b1 : (a0.toList != ([80, 79, 80] : List UInt8)) = true := bne_iff_ne.mpr c85
                            (first | rw [c85b0] | (simp only [i64_w, i32_w]; rw [c85b0]) | skip)
                            have H' := Aside0.mk H
                            clear H
                            go_wp2
                            go_meet
                            case rel => exact ⟨_, ((a0.toList == ([80, 85, 83, 72] : List UInt8))), (by first | rfl | (simp; done) | (simp [*]; done)), H', ⟨by have := HJ2.out; first | omega | exact Nat.le_refl _⟩, ⟨by repeat (first | (with_reducible first | exact HB.out | apply below_alloc | apply pw_below_drewN | apply below_drew1) | exact HB.out)⟩⟩
                        case rest =>
                          clear HC84
                          try clear c1
                          try clear c2
                          try clear p2
                          try clear c3
                          try clear p3
                          try clear q3
                          try clear hx3
                          try clear qi3
                          try clear c4
                          try clear p4
                          try clear q4
                          try clear hx4
                          try clear qi4
                          try clear c5
                          try clear c6
                          try clear c7
                          try clear c8
                          try clear c8b0
                          try clear c8b1
                          try clear c16
                          try clear c16b0
                          try clear c16b1
                          try clear c17
                          try clear c17b0
                          try clear c17b1
                          try clear c24
                          try clear c24b0
                          try clear c24b1
                          try clear c25
                          try clear c25b0
                          try clear c25b1
                          try clear c27
                          try clear c27b0
                          try clear c27b1
                          try clear c27b2
                          try clear c28
                          try clear c28b0
                          try clear c28b1
                          try clear c28b2
                          try clear c33
                          try clear c34
                          try clear c34b0
                          try clear c34b1
                          try clear c35
                          try clear c35b0
                          try clear c35b1
                          try clear c36
                          try clear c37
                          try clear c37b0
                          try clear c37b1
                          try clear c37b2
                          try clear c38
                          try clear c38b0
                          try clear c38b1
                          try clear c38b2
                          try clear p39
                          try clear q39
                          try clear hx39
                          try clear qi39
                          try clear p40
                          try clear q40
                          try clear hx40
                          try clear qi40
                          try clear p41
                          try clear q41
                          try clear hx41
                          try clear qi41
                          try clear p42
                          try clear q42
                          try clear hx42
                          try clear qi42
                          try clear p43
                          try clear q43
                          try clear hx43
                          try clear qi43
                          try clear c44
                          try clear c44b0
                          try clear c44b1
                          try clear p44
                          try clear q44
                          try clear hx44
                          try clear qi44
                          try clear c45
                          try clear c45b0
                          try clear c45b1
                          try clear p45
                          try clear q45
                          try clear hx45
                          try clear qi45
                          try clear p46
                          try clear q46
                          try clear hx46
                          try clear qi46
                          try clear c52
                          try clear c52b0
                          try clear c52b1
                          try clear c53
                          try clear c53b0
                          try clear c53b1
                          try clear c60
                          try clear c60b0
                          try clear c60b1
                          try clear c61
                          try clear c61b0
                          try clear c61b1
                          try clear c68
                          try clear c68b0
                          try clear c68b1
                          try clear c69
                          try clear c69b0
                          try clear c69b1
                          try clear c76
                          try clear c76b0
                          try clear c76b1
                          try clear c77
                          try clear c77b0
                          try clear c77b1
                          try clear c85
                          try clear c85b0
                          try clear c85b1
                          try clear hx395_0
                          try clear hx397_0
                          try clear hx405_0
                          try clear hx413_0
                          try clear hx421_0
                          try clear hx429_0
                          try clear hx437_0
                          try clear hx445_0
                          try clear hx453_0
                          try clear hx461_0
                          try clear p395
                          try clear p397
                          try clear p405
                          try clear p413
                          try clear p421
                          try clear p429
                          try clear p437
                          try clear p445
                          try clear p453
                          try clear p461
                          try clear q395
                          try clear q397
                          try clear q405
                          try clear q413
                          try clear q421
                          try clear q429
                          try clear q437
                          try clear q445
                          try clear q453
                          try clear q461
                          obtain ⟨kq, x87_83, rfl, HA, HJ83, HB⟩ := hcut
                          cases kq with
                          | zero => exact absurd HA.out (by simp [zilog_loads.j1])
                          | succ kj83 =>
                            have H := HA.out
                            clear HA
                            simp only [zilog_loads.j1] at H
                            by_cases c86 : x87_83 = true
                            · subst c86
                              have H1 : (if 0 < (l1.length : Int) then ((zilog_pair.f (rdOf ByteArray.empty l1 0)).bind fun t470 => ((zilog_words.f (([a0, t470] : List ByteArray))).bind fun t474 => (some t474))) else (none)) = some r := by rw [if_pos rfl] at H; exact H
                              clear H
                              have H := H1
                              clear H1
                              by_cases c87 : 0 < (l1.length : Int)
                              · rw [if_pos c87] at H
                                have c87b0 : decide (0 < (l1.length : Int)) = true := decide_eq_true c87
                                have c87b1 : decide (0 < l1.length) = true := decide_eq_true (by omega)
                                clear c87
                                replace H := Option.bind_eq_some_iff.mp H
                                obtain ⟨t470, A880, H⟩ := H
                                replace H : ((zilog_words.f (([a0, t470] : List ByteArray))).bind fun t474 => (some t474)) = some r := H
                                have A88 := Aside0.mk A880
                                clear A880
                                obtain ⟨y471, hy471⟩ : ∃ y_ : List ByteArray, y_ = (([a0, t470] : List ByteArray)) := ⟨_, rfl⟩
                                replace H : ((zilog_words.f y471).bind fun t474 => (some t474)) = some r := by first | (rw [hy471]; with_reducible exact H) | (have H2_ := (Option.bind_some _ _).symm.trans H; rw [hy471]; with_reducible exact H2_) | (have H2_ := (Option.bind_some _ _).symm.trans H; with_reducible exact H2_) | with_reducible exact H | (rw [hy471]; exact H) | exact H
                                have Ny471 := Aside0.mk hy471
                                clear hy471
                                replace H := Option.bind_eq_some_iff.mp H
                                obtain ⟨t474, A890, H⟩ := H
                                replace H : (some t474) = some r := H
                                have A89 := Aside0.mk A890
                                clear A890
                                obtain rfl := Option.some.inj H
                                have p469 : 0 ≤ (0 : Int) := (by omega)
                                have q469 : 0 < (l1.length : Int) := of_decide_eq_true (by first | (with_reducible assumption) | assumption)
                                obtain ⟨ad469, e469, hx469_0⟩ := Kd.at_string HR1.out 0 p469 q469
                                cases e469
                                have qi469 : (0 < l1.length) = True := eq_true (by omega)
                                (try rw [show ((0 : Int)).toNat = 0 from rfl] at hx469_0)
                                (try rw [Addr.add_zero'] at hx469_0)
                                replace hx469_0 := (HB.out.cell (World.block_lt_of_cell? w _ hx469_0)).trans hx469_0
                                replace p469 := eq_true p469
                                replace q469 := eq_true q469
                                go_wp2_with (first | ((with_reducible refine gate_callee (f := 53) rfl ?_); refine goesL_ (some 94) rfl rfl Tryd.func53 (by kernel_rfl) rfl #[.string (rdOf ByteArray.empty l1 0)] rfl (by (try simp only [List.map_toArray, List.map_cons, List.map_nil]); first | done | rfl | (simp only [List.length_drop, List.length_take]; rfl)) ?_; (with_reducible refine (zilog_pair.calls (rdOf ByteArray.empty l1 0) t470 _ A88.out (by first | exact hT | exact tabs_below hT (by repeat (first | (with_reducible first | exact HB.out | apply below_alloc | apply pw_below_drewN | apply below_drew1) | exact HB.out)) | (repeat (first | exact hT | apply tabs_alloc | apply tabs_drewN | apply tabs_drew)))).mono ?_); rintro e w' ⟨rfl, ⟨nd, rfl⟩⟩; refine ⟨_, rfl, ?_⟩) | ((with_reducible refine gate_dst (N := 95) rfl ?_); refine Kd.R_lit Kd.string _ 9 ?hg (N := 95) ?hd (xs := ([a0, t470] : List ByteArray)) (inner := [.string a0, .string t470]) (ok := fun _ => True) (okp := fun _ => True) ?hr ?hp (fun _ hk => hk) trivial (Below.refl _ _) (Nat.le_refl _) (by simp) ?_; (case hd => rfl); (case hg => rfl); (case hr => first | (go_simp; done) | (go_simp; rfl)); (case hp => exact (Reps.one (show Kd.M Kd.string _ _ _ a0 [.string a0] from rfl) (Reps.one (show Kd.M Kd.string _ _ _ t470 [.string t470] from rfl) (Reps.none _ _)))); intro v472 w90 ho91 hb hg_ hnew_; clear hg_ hnew_; (first | rw [← Ny471.out] at ho91 | (simp only [Int.reduceToNat] at ho91; rw [← Ny471.out] at ho91)); have n0_ := Aside0.mk (Kd.R_lower ho91 (below_size (by repeat (first | (with_reducible first | exact HB.out | apply below_alloc | apply pw_below_drewN | apply below_drew1) | exact HB.out)))); have n1_ := Aside0.mk (below_step (by repeat (first | (with_reducible first | exact HB.out | apply below_alloc | apply pw_below_drewN | apply below_drew1) | exact HB.out)) hb); clear HB; have HO473 := n0_; have HB := n1_; clear n0_ n1_; clear hb ho91; obtain ⟨Ao92, co92, eo92⟩ := Kd.R_slice HO473.out; subst eo92) | ((with_reducible refine gate_callee (f := 33) rfl ?_); refine goesL_ (some 96) rfl rfl Tryd.func33 (by kernel_rfl) rfl #[.slice Ao92 y471.length co92] rfl (by (try simp only [List.map_toArray, List.map_cons, List.map_nil]); first | done | rfl | (simp only [List.length_drop, List.length_take]; rfl)) ?_; (with_reducible refine (zilog_words.calls (fun k_ => some k_ = (.slice Ao92 y471.length co92 : Value).ownBlock) (.slice Ao92 y471.length co92) y471 t474 w _ ?side1 ?side2 A89.out (by first | exact hT | exact tabs_below hT (by repeat (first | (with_reducible first | exact HB.out | apply below_alloc | apply pw_below_drewN | apply below_drew1) | exact HB.out)) | (repeat (first | exact hT | apply tabs_alloc | apply tabs_drewN | apply tabs_drew)))).mono ?_); (case side1 => repeat (first | (with_reducible first | exact HB.out | apply below_alloc | apply pw_below_drewN | apply below_drew1) | exact HB.out)); (case side2 => exact Kd.R_tight rfl HO473.out); rintro e w93 ⟨v475, rfl, ho0, hb, hkp⟩; refine ⟨_, rfl, ?_⟩; have n0_ := Aside0.mk (Kd.R_mono (ok' := fun k_ => True) ho0 (fun k_ hk_ => trivial)); have n1_ := Aside0.mk (hb); clear HB; clear HO473; have HO476 := n0_; have HB := n1_; clear n0_ n1_; (try clear hb); (try clear hkp); (try clear ho0)))
                                go_ret
                                exact ⟨_, by first | rfl | (simp [errW_none, errW_some] <;> rfl) | (simp [*, errW_none, errW_some] <;> rfl), by (with_reducible repeat (first | apply Kd.R_alloc | apply Kd.R_drewN | apply Kd.R_drew)); exact HO476.out, by repeat (first | (with_reducible first | exact HB.out | apply below_alloc | apply pw_below_drewN | apply below_drew1) | exact HB.out)⟩
                              · rw [if_neg c87] at H
                                exact absurd H (by simp)
                            · replace c86 := Bool.eq_false_iff.mpr c86
                              subst c86
                              have H1 : (some ([] : List ByteArray)) = some r := by rw [if_neg (show ¬ (false = true) by decide)] at H; exact H
                              clear H
                              have H := H1
                              clear H1
                              obtain rfl := Option.some.inj H
                              go_wp2
                              go_ret
                              exact ⟨_, by first | rfl | (simp [errW_none, errW_some] <;> rfl) | (simp [*, errW_none, errW_some] <;> rfl), by first | exact Kd.R_nil _ _ _ _ _ | exact Kd.N_nil _ _ _ _ _ | exact Kd.V_nil _ _ _ _ _ | exact Kd.Q_nil _ _ _ _ _ | exact Kd.S_nil _ _ _ _ _, by repeat (first | (with_reducible first | exact HB.out | apply below_alloc | apply pw_below_drewN | apply below_drew1) | exact HB.out)⟩
/-! the nil answer of loads, told as nil -/
def loadNames : List (List UInt8) := [[77, 79, 86], [77, 86, 73], [76, 88, 73], [83, 84, 65, 88], [76, 68, 65, 88], [73, 78, 88], [68, 67, 88], [68, 65, 68], [73, 78, 82], [68, 67, 82], [80, 79, 80], [80, 85, 83, 72]]
def NotNil (o : Option (List ByteArray)) : Prop := o ≠ some []
theorem notNil_none : NotNil none := fun h => by cases h
theorem notNil_cons (x : ByteArray) (l : List ByteArray) : NotNil (some (x :: l)) := fun h => by cases h
theorem notNil_ite {c : Prop} [Decidable c] {a b : Option (List ByteArray)} (h : NotNil a) (k : NotNil b) : NotNil (if c then a else b) := by split <;> assumption
theorem notNil_bind {α : Type} {o : Option α} {f : α → Option (List ByteArray)} (h : ∀ x, NotNil (f x)) : NotNil (o.bind f) := by
  cases o with
  | none => exact notNil_none
  | some x => exact h x
theorem loads_nil_names (k : Nat) (a0 : ByteArray) (l1 : List ByteArray) (h : zilog_loads.f k a0 l1 = some []) : ∀ s ∈ loadNames, a0.toList ≠ s := by
  intro s hs e
  have : NotNil (zilog_loads.f k a0 l1) := by
    cases k with
    | zero =>
      unfold zilog_loads.f
      simp only [zilog_loads.j0, ite_self]
      exact notNil_none
    | succ k =>
      cases k with
      | zero =>
        simp only [loadNames, List.mem_cons, List.mem_nil_iff, or_false] at hs
        rcases hs with rfl | rfl | rfl | rfl | rfl | rfl | rfl | rfl | rfl | rfl | rfl | rfl <;> simp [zilog_loads.f, zilog_loads.j0, zilog_loads.j1, e, zilog_words.f] <;> (repeat (first | exact notNil_none | exact notNil_cons _ _ | apply notNil_ite | (apply notNil_bind; intro _)))
      | succ k =>
        simp only [loadNames, List.mem_cons, List.mem_nil_iff, or_false] at hs
        rcases hs with rfl | rfl | rfl | rfl | rfl | rfl | rfl | rfl | rfl | rfl | rfl | rfl <;> simp [zilog_loads.f, zilog_loads.j0, zilog_loads.j1, e, zilog_words.f] <;> (repeat (first | exact notNil_none | exact notNil_cons _ _ | apply notNil_ite | (apply notNil_bind; intro _)))
  exact this h
set_option maxHeartbeats 4000000 in
set_option maxRecDepth 100000 in
theorem loads_nil (a0 : ByteArray) (A1 : Option Addr) (n c1 : Nat) (w : World) (hn : ∀ s ∈ loadNames, a0.toList ≠ s) :
    Calls Tryd.prog 37 #[.string a0, .slice A1 n c1] w fun e w' => e = .returned (.slice none 0 0) ∧ w' = w := by
  have b1 : (a0.toList == [77, 79, 86]) = false := beq_eq_false_iff_ne.2 (hn _ (by simp [loadNames]))
  have b2 : (a0.toList == [77, 86, 73]) = false := beq_eq_false_iff_ne.2 (hn _ (by simp [loadNames]))
  have b3 : (a0.toList == [76, 88, 73]) = false := beq_eq_false_iff_ne.2 (hn _ (by simp [loadNames]))
  have b4 : (a0.toList == [83, 84, 65, 88]) = false := beq_eq_false_iff_ne.2 (hn _ (by simp [loadNames]))
  have b5 : (a0.toList == [76, 68, 65, 88]) = false := beq_eq_false_iff_ne.2 (hn _ (by simp [loadNames]))
  have b6 : (a0.toList == [73, 78, 88]) = false := beq_eq_false_iff_ne.2 (hn _ (by simp [loadNames]))
  have b7 : (a0.toList == [68, 67, 88]) = false := beq_eq_false_iff_ne.2 (hn _ (by simp [loadNames]))
  have b8 : (a0.toList == [68, 65, 68]) = false := beq_eq_false_iff_ne.2 (hn _ (by simp [loadNames]))
  have b9 : (a0.toList == [73, 78, 82]) = false := beq_eq_false_iff_ne.2 (hn _ (by simp [loadNames]))
  have b10 : (a0.toList == [68, 67, 82]) = false := beq_eq_false_iff_ne.2 (hn _ (by simp [loadNames]))
  have b11 : (a0.toList == [80, 79, 80]) = false := beq_eq_false_iff_ne.2 (hn _ (by simp [loadNames]))
  have b12 : (a0.toList == [80, 85, 83, 72]) = false := beq_eq_false_iff_ne.2 (hn _ (by simp [loadNames]))
  clear hn
  go_enter Tryd.func37, Tryd.ntmps37
  go_wp2
  go_ret
  exact ⟨rfl, rfl⟩
/-- loads, its nil told as nil. -/
theorem zilog_loads.calls2 (k : Nat) (a0 : ByteArray) (A1 : Option Addr) (c1 : Nat) (l1 : List ByteArray) (r : List ByteArray) (w : World) (hr1 : Kd.C Kd.string w A1 l1.length l1) (hc1 : l1.length ≤ c1) (h : zilog_loads.f k a0 l1 = some r) (hT : Tabs w) :
    Calls Tryd.prog 37 #[.string a0, .slice A1 l1.length c1] w fun e w' => ∃ v0_ : Value, e = .returned (v0_) ∧ (r.length = 0 → v0_ = .slice none 0 0) ∧ Kd.R Kd.string 9 w' w.heap.size (fun _ => True) v0_ r ∧ Below w.heap.size w w' := by
  cases r with
  | nil =>
    refine (loads_nil a0 A1 l1.length c1 w (loads_nil_names k a0 l1 h)).mono ?_
    rintro e w' ⟨rfl, rfl⟩
    exact ⟨_, rfl, fun _ => rfl, Kd.R_nil _ _ _ _ _, Below.refl _ _⟩
  | cons x r =>
    refine (zilog_loads.calls k a0 A1 c1 l1 (x :: r) w hr1 hc1 h hT).mono ?_
    rintro e w' ⟨v, rfl, hR, hB⟩
    exact ⟨v, rfl, fun hl => by simp at hl, hR, hB⟩
theorem some_of_length {d : Kd ByteArray} {e : Nat} {w : World} {base : Nat} {ok : Nat → Prop} {A : Option Addr} {n c : Nat} {xs : List ByteArray} (h : d.R e w base ok (.slice A n c) xs) (h0 : ((xs.length : Int) != 0) = true) : ∃ ad, A = some ad := by
  obtain ⟨inner, ho⟩ := Kd.R_own h
  have hp : 0 < xs.length := by
    rcases Nat.eq_zero_or_pos xs.length with h1 | h1
    · rw [h1] at h0; simp at h0
    · exact h1
  obtain ⟨g, cap, he, _⟩ := ho.form hp
  cases A with
  | none => cases he
  | some ad => exact ⟨ad, rfl⟩

/-! ### zilog_one: function 54 -/
def zilog_one.j0 : Nat → ByteArray → ByteArray → Bool → Option (ByteArray)
  | 0, _, _, _ => none
  | k + 1, x0, x3, x4 => if x4 = true then (if x0.size + 1 ≤ 9223372036854775807 then (some (x0 ++ (⟨#[65]⟩ : ByteArray))) else (none)) else (if x3.toList = ([82, 65, 76] : List UInt8) then (some (⟨#[82, 76, 65]⟩ : ByteArray)) else (if x3.toList = ([82, 65, 82] : List UInt8) then (some (⟨#[82, 82, 65]⟩ : ByteArray)) else (if x3.toList = ([67, 77, 65] : List UInt8) then (some (⟨#[67, 80, 76]⟩ : ByteArray)) else (if x3.toList = ([83, 84, 67] : List UInt8) then (some (⟨#[83, 67, 70]⟩ : ByteArray)) else (if x3.toList = ([67, 77, 67] : List UInt8) then (some (⟨#[67, 67, 70]⟩ : ByteArray)) else (if x3.toList = ([72, 76, 84] : List UInt8) then (some (⟨#[72, 65, 76, 84]⟩ : ByteArray)) else (some x0)))))))
def zilog_one.f (k : Nat) (a0 : ByteArray) : Option (ByteArray) := if a0.toList = ([82, 76, 67] : List UInt8) then (zilog_one.j0 k a0 a0 (a0.toList == ([82, 76, 67] : List UInt8))) else (zilog_one.j0 k a0 a0 (a0.toList == ([82, 82, 67] : List UInt8)))
theorem zilog_one.mono_l : ∀ k, (∀ y0 y1 y2, LeO (zilog_one.j0 k y0 y1 y2) (zilog_one.j0 (k + 1) y0 y1 y2))
  | 0 => fun _ _ _ r h => by simp [zilog_one.j0] at h
  | k + 1 => by
    have ih0 := zilog_one.mono_l k
    · intro y0 y1 y2
      unfold zilog_one.j0
      repeat' first
      | (with_reducible exact ih0 _ _ _)
      | (with_reducible exact LeO.refl _)
      | (with_reducible exact LeO.none _)
      | (with_reducible refine LeO.ite ?_ ?_)
      | (with_reducible refine LeO.bind ?_ (fun _ => ?_))
      | exact ih0 _ _ _
      | exact LeO.none _
      | refine LeO.ite ?_ ?_
      | refine LeO.bind ?_ (fun _ => ?_)
theorem zilog_one.mono : ∀ a0 k, LeO (zilog_one.f k a0) (zilog_one.f (k + 1) a0) := by
  intro a0 k
  have ih0 := zilog_one.mono_l k
  unfold zilog_one.f
  repeat' first
      | (with_reducible exact ih0 _ _ _)
      | (with_reducible exact LeO.refl _)
      | (with_reducible exact LeO.none _)
      | (with_reducible refine LeO.ite ?_ ?_)
      | (with_reducible refine LeO.bind ?_ (fun _ => ?_))
      | exact ih0 _ _ _
      | exact LeO.none _
      | refine LeO.ite ?_ ?_
      | refine LeO.bind ?_ (fun _ => ?_)
set_option maxHeartbeats 8000000 in
set_option maxRecDepth 100000 in
theorem zilog_one.calls (k : Nat) (a0 : ByteArray) (r : ByteArray) (w : World) (h : zilog_one.f k a0 = some r) (hT : Tabs w) :
    Calls Tryd.prog 54 #[.string a0] w fun e w' => e = .returned (.string r) ∧ Drawn0 w w' := by
  have H : (if a0.toList = ([82, 76, 67] : List UInt8) then (zilog_one.j0 k a0 a0 (a0.toList == ([82, 76, 67] : List UInt8))) else (zilog_one.j0 k a0 a0 (a0.toList == ([82, 82, 67] : List UInt8)))) = some r := h
  clear h
  have HC2 := Aside0.mk H
  clear H
  go_enter Tryd.func54, Tryd.ntmps54
  go_upto_if 4 with (fail)
  go_cut [4] (fun v4 wc => ∃ (kq : Nat) (x4_1 : Bool), v4 = .bool x4_1 ∧ Aside0 (zilog_one.j0 kq a0 a0 x4_1 = some r) ∧ Aside0 (kq ≤ k) ∧ Drawn0 w wc)
  case first =>
    have H := HC2.out
    clear HC2
    by_cases c3 : a0.toList = ([82, 76, 67] : List UInt8)
    · rw [if_pos c3] at H
      have c3b0 : (a0.toList == ([82, 76, 67] : List UInt8)) = true := beq_iff_eq.mpr c3
      have c3b1 : (a0.toList != ([82, 76, 67] : List UInt8)) = false := bne_eq_false_iff_eq.mpr c3
      clear c3
      (first | rw [c3b0] | (simp only [i64_w, i32_w]; rw [c3b0]) | skip)
      have H' := Aside0.mk H
      clear H
      go_wp2
      go_meet
      case rel => exact ⟨_, ((a0.toList == ([82, 76, 67] : List UInt8))), (by first | rfl | (simp; done) | (simp [*]; done)), H', ⟨by first | omega | exact Nat.le_refl _⟩, by repeat (first | exact Drawn0.refl _ | apply Drawn0.step)⟩
    · rw [if_neg c3] at H
      have c3b0 : (a0.toList == ([82, 76, 67] : List UInt8)) = false := beq_eq_false_iff_ne.mpr c3
      have c3b1 : (a0.toList != ([82, 76, 67] : List UInt8)) = true := bne_iff_ne.mpr c3
      (first | rw [c3b0] | (simp only [i64_w, i32_w]; rw [c3b0]) | skip)
      have H' := Aside0.mk H
      clear H
      go_wp2
      go_meet
      case rel => exact ⟨_, ((a0.toList == ([82, 82, 67] : List UInt8))), (by first | rfl | (simp; done) | (simp [*]; done)), H', ⟨by first | omega | exact Nat.le_refl _⟩, by repeat (first | exact Drawn0.refl _ | apply Drawn0.step)⟩
  case rest =>
    clear HC2
    try clear p2
    try clear c3
    try clear c3b0
    try clear c3b1
    obtain ⟨kq, x4_1, rfl, HA, HJ1, ⟨mc1, rfl⟩⟩ := hcut
    cases kq with
    | zero => exact absurd HA.out (by simp [zilog_one.j0])
    | succ kj1 =>
      have H := HA.out
      clear HA
      simp only [zilog_one.j0] at H
      by_cases c4 : x4_1 = true
      · subst c4
        have H1 : (if a0.size + 1 ≤ 9223372036854775807 then (some (a0 ++ (⟨#[65]⟩ : ByteArray))) else (none)) = some r := by rw [if_pos rfl] at H; exact H
        clear H
        have H := H1
        clear H1
        by_cases c5 : a0.size + 1 ≤ 9223372036854775807
        · rw [if_pos c5] at H
          have c5b0 := eq_true c5
          have c5b1 : decide (a0.size + 1 ≤ 9223372036854775807) = true := decide_eq_true c5
          try have c5b2 : (9223372036854775807 < a0.size + 1) = False := eq_false (Nat.not_lt.2 c5)
          obtain rfl := Option.some.inj H
          go_wp2
          go_ret
          exact ⟨by first | rfl | (simp; done) | (simp [*]; done), by repeat (first | exact Drawn0.refl _ | apply Drawn0.step)⟩
        · rw [if_neg c5] at H
          exact absurd H (by simp)
      · replace c4 := Bool.eq_false_iff.mpr c4
        subst c4
        have H1 : (if a0.toList = ([82, 65, 76] : List UInt8) then (some (⟨#[82, 76, 65]⟩ : ByteArray)) else (if a0.toList = ([82, 65, 82] : List UInt8) then (some (⟨#[82, 82, 65]⟩ : ByteArray)) else (if a0.toList = ([67, 77, 65] : List UInt8) then (some (⟨#[67, 80, 76]⟩ : ByteArray)) else (if a0.toList = ([83, 84, 67] : List UInt8) then (some (⟨#[83, 67, 70]⟩ : ByteArray)) else (if a0.toList = ([67, 77, 67] : List UInt8) then (some (⟨#[67, 67, 70]⟩ : ByteArray)) else (if a0.toList = ([72, 76, 84] : List UInt8) then (some (⟨#[72, 65, 76, 84]⟩ : ByteArray)) else (some a0))))))) = some r := by rw [if_neg (show ¬ (false = true) by decide)] at H; exact H
        clear H
        have H := H1
        clear H1
        by_cases c6 : a0.toList = ([82, 65, 76] : List UInt8)
        · rw [if_pos c6] at H
          have c6b0 : (a0.toList == ([82, 65, 76] : List UInt8)) = true := beq_iff_eq.mpr c6
          have c6b1 : (a0.toList != ([82, 65, 76] : List UInt8)) = false := bne_eq_false_iff_eq.mpr c6
          clear c6
          obtain rfl := Option.some.inj H
          go_wp2
          go_ret
          exact ⟨by first | rfl | (simp; done) | (simp [*]; done), by repeat (first | exact Drawn0.refl _ | apply Drawn0.step)⟩
        · rw [if_neg c6] at H
          have c6b0 : (a0.toList == ([82, 65, 76] : List UInt8)) = false := beq_eq_false_iff_ne.mpr c6
          have c6b1 : (a0.toList != ([82, 65, 76] : List UInt8)) = true := bne_iff_ne.mpr c6
          by_cases c7 : a0.toList = ([82, 65, 82] : List UInt8)
          · rw [if_pos c7] at H
            have c7b0 : (a0.toList == ([82, 65, 82] : List UInt8)) = true := beq_iff_eq.mpr c7
            have c7b1 : (a0.toList != ([82, 65, 82] : List UInt8)) = false := bne_eq_false_iff_eq.mpr c7
            clear c7
            obtain rfl := Option.some.inj H
            go_wp2
            go_ret
            exact ⟨by first | rfl | (simp; done) | (simp [*]; done), by repeat (first | exact Drawn0.refl _ | apply Drawn0.step)⟩
          · rw [if_neg c7] at H
            have c7b0 : (a0.toList == ([82, 65, 82] : List UInt8)) = false := beq_eq_false_iff_ne.mpr c7
            have c7b1 : (a0.toList != ([82, 65, 82] : List UInt8)) = true := bne_iff_ne.mpr c7
            by_cases c8 : a0.toList = ([67, 77, 65] : List UInt8)
            · rw [if_pos c8] at H
              have c8b0 : (a0.toList == ([67, 77, 65] : List UInt8)) = true := beq_iff_eq.mpr c8
              have c8b1 : (a0.toList != ([67, 77, 65] : List UInt8)) = false := bne_eq_false_iff_eq.mpr c8
              clear c8
              obtain rfl := Option.some.inj H
              go_wp2
              go_ret
              exact ⟨by first | rfl | (simp; done) | (simp [*]; done), by repeat (first | exact Drawn0.refl _ | apply Drawn0.step)⟩
            · rw [if_neg c8] at H
              have c8b0 : (a0.toList == ([67, 77, 65] : List UInt8)) = false := beq_eq_false_iff_ne.mpr c8
              have c8b1 : (a0.toList != ([67, 77, 65] : List UInt8)) = true := bne_iff_ne.mpr c8
              by_cases c9 : a0.toList = ([83, 84, 67] : List UInt8)
              · rw [if_pos c9] at H
                have c9b0 : (a0.toList == ([83, 84, 67] : List UInt8)) = true := beq_iff_eq.mpr c9
                have c9b1 : (a0.toList != ([83, 84, 67] : List UInt8)) = false := bne_eq_false_iff_eq.mpr c9
                clear c9
                obtain rfl := Option.some.inj H
                go_wp2
                go_ret
                exact ⟨by first | rfl | (simp; done) | (simp [*]; done), by repeat (first | exact Drawn0.refl _ | apply Drawn0.step)⟩
              · rw [if_neg c9] at H
                have c9b0 : (a0.toList == ([83, 84, 67] : List UInt8)) = false := beq_eq_false_iff_ne.mpr c9
                have c9b1 : (a0.toList != ([83, 84, 67] : List UInt8)) = true := bne_iff_ne.mpr c9
                by_cases c10 : a0.toList = ([67, 77, 67] : List UInt8)
                · rw [if_pos c10] at H
                  have c10b0 : (a0.toList == ([67, 77, 67] : List UInt8)) = true := beq_iff_eq.mpr c10
                  have c10b1 : (a0.toList != ([67, 77, 67] : List UInt8)) = false := bne_eq_false_iff_eq.mpr c10
                  clear c10
                  obtain rfl := Option.some.inj H
                  go_wp2
                  go_ret
                  exact ⟨by first | rfl | (simp; done) | (simp [*]; done), by repeat (first | exact Drawn0.refl _ | apply Drawn0.step)⟩
                · rw [if_neg c10] at H
                  have c10b0 : (a0.toList == ([67, 77, 67] : List UInt8)) = false := beq_eq_false_iff_ne.mpr c10
                  have c10b1 : (a0.toList != ([67, 77, 67] : List UInt8)) = true := bne_iff_ne.mpr c10
                  by_cases c11 : a0.toList = ([72, 76, 84] : List UInt8)
                  · rw [if_pos c11] at H
                    have c11b0 : (a0.toList == ([72, 76, 84] : List UInt8)) = true := beq_iff_eq.mpr c11
                    have c11b1 : (a0.toList != ([72, 76, 84] : List UInt8)) = false := bne_eq_false_iff_eq.mpr c11
                    clear c11
                    obtain rfl := Option.some.inj H
                    go_wp2
                    go_ret
                    exact ⟨by first | rfl | (simp; done) | (simp [*]; done), by repeat (first | exact Drawn0.refl _ | apply Drawn0.step)⟩
                  · rw [if_neg c11] at H
                    have c11b0 : (a0.toList == ([72, 76, 84] : List UInt8)) = false := beq_eq_false_iff_ne.mpr c11
                    have c11b1 : (a0.toList != ([72, 76, 84] : List UInt8)) = true := bne_iff_ne.mpr c11
                    obtain rfl := Option.some.inj H
                    go_wp2
                    go_ret
                    exact ⟨by first | rfl | (simp; done) | (simp [*]; done), by repeat (first | exact Drawn0.refl _ | apply Drawn0.step)⟩

end Go.Proofs.YtldmnenomcipcaaDoor.G

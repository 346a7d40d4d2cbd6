/- Written by a program of ours (wip/tools/gprint.py) over the kit's print: contracts of the program's functions, each as a plain function. -/
import Derived.Test.YtldmnenomcipcaaDoorG0
import Derived.Test.YtldmnenomcipcaaDoorG3
namespace Go.Proofs.YtldmnenomcipcaaDoor.G
open Go.RowKit Go.Proofs.YtldmnenomcipcaaDoorW.PrintWords Go.Proofs.YtldmnenomcipcaaDoorW.PrintLast Go.Proofs.YtldmnenomcipcaaDoorW.PrintMore
attribute [local go_sem] max2_int min2_int max_two min_two max_three min_three max_four min_four   -- for this text's walks alone
set_option linter.unusedVariables false
set_option linter.unusedSimpArgs false

/-! ### zilog_sums: function 35 -/
mutual
def zilog_sums.j0 : Nat → ByteArray → ByteArray → Bool → Option (List ByteArray)
  | 0, _, _, _ => none
  | k + 1, x1, x5, x6 => if x6 = true then ((zilog_words.f (([(⟨#[65, 68, 68]⟩ : ByteArray), (⟨#[65]⟩ : ByteArray), x1] : List ByteArray))).bind fun t350 => (some t350)) else (if x5.toList = ([65, 68, 67] : List UInt8) then (zilog_sums.j1 k x1 x5 (x5.toList == ([65, 68, 67] : List UInt8))) else (zilog_sums.j1 k x1 x5 (x5.toList == ([65, 67, 73] : List UInt8))))
def zilog_sums.j1 : Nat → ByteArray → ByteArray → Bool → Option (List ByteArray)
  | 0, _, _, _ => none
  | k + 1, x1, x5, x12 => if x12 = true then ((zilog_words.f (([(⟨#[65, 68, 67]⟩ : ByteArray), (⟨#[65]⟩ : ByteArray), x1] : List ByteArray))).bind fun t356 => (some t356)) else (if x5.toList = ([83, 66, 66] : List UInt8) then (zilog_sums.j2 k x1 x5 (x5.toList == ([83, 66, 66] : List UInt8))) else (zilog_sums.j2 k x1 x5 (x5.toList == ([83, 66, 73] : List UInt8))))
def zilog_sums.j2 : Nat → ByteArray → ByteArray → Bool → Option (List ByteArray)
  | 0, _, _, _ => none
  | k + 1, x1, x5, x18 => if x18 = true then ((zilog_words.f (([(⟨#[83, 66, 67]⟩ : ByteArray), (⟨#[65]⟩ : ByteArray), x1] : List ByteArray))).bind fun t362 => (some t362)) else (if x5.toList = ([83, 85, 66] : List UInt8) then (zilog_sums.j3 k x1 x5 (x5.toList == ([83, 85, 66] : List UInt8))) else (zilog_sums.j3 k x1 x5 (x5.toList == ([83, 85, 73] : List UInt8))))
def zilog_sums.j3 : Nat → ByteArray → ByteArray → Bool → Option (List ByteArray)
  | 0, _, _, _ => none
  | k + 1, x1, x5, x24 => if x24 = true then ((zilog_words.f (([(⟨#[83, 85, 66]⟩ : ByteArray), x1] : List ByteArray))).bind fun t368 => (some t368)) else (if x5.toList = ([65, 78, 65] : List UInt8) then (zilog_sums.j4 k x1 x5 (x5.toList == ([65, 78, 65] : List UInt8))) else (zilog_sums.j4 k x1 x5 (x5.toList == ([65, 78, 73] : List UInt8))))
def zilog_sums.j4 : Nat → ByteArray → ByteArray → Bool → Option (List ByteArray)
  | 0, _, _, _ => none
  | k + 1, x1, x5, x30 => if x30 = true then ((zilog_words.f (([(⟨#[65, 78, 68]⟩ : ByteArray), x1] : List ByteArray))).bind fun t374 => (some t374)) else (if x5.toList = ([88, 82, 65] : List UInt8) then (zilog_sums.j5 k x1 x5 (x5.toList == ([88, 82, 65] : List UInt8))) else (zilog_sums.j5 k x1 x5 (x5.toList == ([88, 82, 73] : List UInt8))))
def zilog_sums.j5 : Nat → ByteArray → ByteArray → Bool → Option (List ByteArray)
  | 0, _, _, _ => none
  | k + 1, x1, x5, x36 => if x36 = true then ((zilog_words.f (([(⟨#[88, 79, 82]⟩ : ByteArray), x1] : List ByteArray))).bind fun t380 => (some t380)) else (if x5.toList = ([79, 82, 65] : List UInt8) then (zilog_sums.j6 k x1 (x5.toList == ([79, 82, 65] : List UInt8))) else (zilog_sums.j6 k x1 (x5.toList == ([79, 82, 73] : List UInt8))))
def zilog_sums.j6 : Nat → ByteArray → Bool → Option (List ByteArray)
  | 0, _, _ => none
  | k + 1, x1, x42 => if x42 = true then ((zilog_words.f (([(⟨#[79, 82]⟩ : ByteArray), x1] : List ByteArray))).bind fun t386 => (some t386)) else ((zilog_words.f (([(⟨#[67, 80]⟩ : ByteArray), x1] : List ByteArray))).bind fun t392 => (some t392))
end
def zilog_sums.f (k : Nat) (a0 : ByteArray) (a1 : ByteArray) : Option (List ByteArray) := if a0.toList = ([65, 68, 68] : List UInt8) then (zilog_sums.j0 k a1 a0 (a0.toList == ([65, 68, 68] : List UInt8))) else (zilog_sums.j0 k a1 a0 (a0.toList == ([65, 68, 73] : List UInt8)))
theorem zilog_sums.mono_l : ∀ k, (∀ y0 y1 y2, LeO (zilog_sums.j0 k y0 y1 y2) (zilog_sums.j0 (k + 1) y0 y1 y2)) ∧ (∀ y0 y1 y2, LeO (zilog_sums.j1 k y0 y1 y2) (zilog_sums.j1 (k + 1) y0 y1 y2)) ∧ (∀ y0 y1 y2, LeO (zilog_sums.j2 k y0 y1 y2) (zilog_sums.j2 (k + 1) y0 y1 y2)) ∧ (∀ y0 y1 y2, LeO (zilog_sums.j3 k y0 y1 y2) (zilog_sums.j3 (k + 1) y0 y1 y2)) ∧ (∀ y0 y1 y2, LeO (zilog_sums.j4 k y0 y1 y2) (zilog_sums.j4 (k + 1) y0 y1 y2)) ∧ (∀ y0 y1 y2, LeO (zilog_sums.j5 k y0 y1 y2) (zilog_sums.j5 (k + 1) y0 y1 y2)) ∧ (∀ y0 y1, LeO (zilog_sums.j6 k y0 y1) (zilog_sums.j6 (k + 1) y0 y1))
  | 0 => ⟨fun _ _ _ r h => by simp [zilog_sums.j0] at h, fun _ _ _ r h => by simp [zilog_sums.j1] at h, fun _ _ _ r h => by simp [zilog_sums.j2] at h, fun _ _ _ r h => by simp [zilog_sums.j3] at h, fun _ _ _ r h => by simp [zilog_sums.j4] at h, fun _ _ _ r h => by simp [zilog_sums.j5] at h, fun _ _ r h => by simp [zilog_sums.j6] at h⟩
  | k + 1 => by
    obtain ⟨ih0, ih1, ih2, ih3, ih4, ih5, ih6⟩ := zilog_sums.mono_l k
    refine ⟨?_, ?_, ?_, ?_, ?_, ?_, ?_⟩
    · intro y0 y1 y2
      unfold zilog_sums.j0
      repeat' first
      | (with_reducible exact ih0 _ _ _)
      | (with_reducible exact ih1 _ _ _)
      | (with_reducible exact ih2 _ _ _)
      | (with_reducible exact ih3 _ _ _)
      | (with_reducible exact ih4 _ _ _)
      | (with_reducible exact ih5 _ _ _)
      | (with_reducible exact ih6 _ _)
      | (with_reducible exact LeO.refl _)
      | (with_reducible exact LeO.none _)
      | (with_reducible refine LeO.ite ?_ ?_)
      | (with_reducible refine LeO.bind ?_ (fun _ => ?_))
      | exact ih0 _ _ _
      | exact ih1 _ _ _
      | exact ih2 _ _ _
      | exact ih3 _ _ _
      | exact ih4 _ _ _
      | exact ih5 _ _ _
      | exact ih6 _ _
      | exact LeO.none _
      | refine LeO.ite ?_ ?_
      | refine LeO.bind ?_ (fun _ => ?_)
    · intro y0 y1 y2
      unfold zilog_sums.j1
      repeat' first
      | (with_reducible exact ih0 _ _ _)
      | (with_reducible exact ih1 _ _ _)
      | (with_reducible exact ih2 _ _ _)
      | (with_reducible exact ih3 _ _ _)
      | (with_reducible exact ih4 _ _ _)
      | (with_reducible exact ih5 _ _ _)
      | (with_reducible exact ih6 _ _)
      | (with_reducible exact LeO.refl _)
      | (with_reducible exact LeO.none _)
      | (with_reducible refine LeO.ite ?_ ?_)
      | (with_reducible refine LeO.bind ?_ (fun _ => ?_))
      | exact ih0 _ _ _
      | exact ih1 _ _ _
      | exact ih2 _ _ _
      | exact ih3 _ _ _
      | exact ih4 _ _ _
      | exact ih5 _ _ _
      | exact ih6 _ _
      | exact LeO.none _
      | refine LeO.ite ?_ ?_
      | refine LeO.bind ?_ (fun _ => ?_)
    · intro y0 y1 y2
      unfold zilog_sums.j2
      repeat' first
      | (with_reducible exact ih0 _ _ _)
      | (with_reducible exact ih1 _ _ _)
      | (with_reducible exact ih2 _ _ _)
      | (with_reducible exact ih3 _ _ _)
      | (with_reducible exact ih4 _ _ _)
      | (with_reducible exact ih5 _ _ _)
      | (with_reducible exact ih6 _ _)
      | (with_reducible exact LeO.refl _)
      | (with_reducible exact LeO.none _)
      | (with_reducible refine LeO.ite ?_ ?_)
      | (with_reducible refine LeO.bind ?_ (fun _ => ?_))
      | exact ih0 _ _ _
      | exact ih1 _ _ _
      | exact ih2 _ _ _
      | exact ih3 _ _ _
      | exact ih4 _ _ _
      | exact ih5 _ _ _
      | exact ih6 _ _
      | exact LeO.none _
      | refine LeO.ite ?_ ?_
      | refine LeO.bind ?_ (fun _ => ?_)
    · intro y0 y1 y2
      unfold zilog_sums.j3
      repeat' first
      | (with_reducible exact ih0 _ _ _)
      | (with_reducible exact ih1 _ _ _)
      | (with_reducible exact ih2 _ _ _)
      | (with_reducible exact ih3 _ _ _)
      | (with_reducible exact ih4 _ _ _)
      | (with_reducible exact ih5 _ _ _)
      | (with_reducible exact ih6 _ _)
      | (with_reducible exact LeO.refl _)
      | (with_reducible exact LeO.none _)
      | (with_reducible refine LeO.ite ?_ ?_)
      | (with_reducible refine LeO.bind ?_ (fun _ => ?_))
      | exact ih0 _ _ _
      | exact ih1 _ _ _
      | exact ih2 _ _ _
      | exact ih3 _ _ _
      | exact ih4 _ _ _
      | exact ih5 _ _ _
      | exact ih6 _ _
      | exact LeO.none _
      | refine LeO.ite ?_ ?_
      | refine LeO.bind ?_ (fun _ => ?_)
    · intro y0 y1 y2
      unfold zilog_sums.j4
      repeat' first
      | (with_reducible exact ih0 _ _ _)
      | (with_reducible exact ih1 _ _ _)
      | (with_reducible exact ih2 _ _ _)
      | (with_reducible exact ih3 _ _ _)
      | (with_reducible exact ih4 _ _ _)
      | (with_reducible exact ih5 _ _ _)
      | (with_reducible exact ih6 _ _)
      | (with_reducible exact LeO.refl _)
      | (with_reducible exact LeO.none _)
      | (with_reducible refine LeO.ite ?_ ?_)
      | (with_reducible refine LeO.bind ?_ (fun _ => ?_))
      | exact ih0 _ _ _
      | exact ih1 _ _ _
      | exact ih2 _ _ _
      | exact ih3 _ _ _
      | exact ih4 _ _ _
      | exact ih5 _ _ _
      | exact ih6 _ _
      | exact LeO.none _
      | refine LeO.ite ?_ ?_
      | refine LeO.bind ?_ (fun _ => ?_)
    · intro y0 y1 y2
      unfold zilog_sums.j5
      repeat' first
      | (with_reducible exact ih0 _ _ _)
      | (with_reducible exact ih1 _ _ _)
      | (with_reducible exact ih2 _ _ _)
      | (with_reducible exact ih3 _ _ _)
      | (with_reducible exact ih4 _ _ _)
      | (with_reducible exact ih5 _ _ _)
      | (with_reducible exact ih6 _ _)
      | (with_reducible exact LeO.refl _)
      | (with_reducible exact LeO.none _)
      | (with_reducible refine LeO.ite ?_ ?_)
      | (with_reducible refine LeO.bind ?_ (fun _ => ?_))
      | exact ih0 _ _ _
      | exact ih1 _ _ _
      | exact ih2 _ _ _
      | exact ih3 _ _ _
      | exact ih4 _ _ _
      | exact ih5 _ _ _
      | exact ih6 _ _
      | exact LeO.none _
      | refine LeO.ite ?_ ?_
      | refine LeO.bind ?_ (fun _ => ?_)
    · intro y0 y1
      unfold zilog_sums.j6
      repeat' first
      | (with_reducible exact ih0 _ _ _)
      | (with_reducible exact ih1 _ _ _)
      | (with_reducible exact ih2 _ _ _)
      | (with_reducible exact ih3 _ _ _)
      | (with_reducible exact ih4 _ _ _)
      | (with_reducible exact ih5 _ _ _)
      | (with_reducible exact ih6 _ _)
      | (with_reducible exact LeO.refl _)
      | (with_reducible exact LeO.none _)
      | (with_reducible refine LeO.ite ?_ ?_)
      | (with_reducible refine LeO.bind ?_ (fun _ => ?_))
      | exact ih0 _ _ _
      | exact ih1 _ _ _
      | exact ih2 _ _ _
      | exact ih3 _ _ _
      | exact ih4 _ _ _
      | exact ih5 _ _ _
      | exact ih6 _ _
      | exact LeO.none _
      | refine LeO.ite ?_ ?_
      | refine LeO.bind ?_ (fun _ => ?_)
theorem zilog_sums.mono : ∀ a0 a1 k, LeO (zilog_sums.f k a0 a1) (zilog_sums.f (k + 1) a0 a1) := by
  intro a0 a1 k
  obtain ⟨ih0, ih1, ih2, ih3, ih4, ih5, ih6⟩ := zilog_sums.mono_l k
  unfold zilog_sums.f
  repeat' first
      | (with_reducible exact ih0 _ _ _)
      | (with_reducible exact ih1 _ _ _)
      | (with_reducible exact ih2 _ _ _)
      | (with_reducible exact ih3 _ _ _)
      | (with_reducible exact ih4 _ _ _)
      | (with_reducible exact ih5 _ _ _)
      | (with_reducible exact ih6 _ _)
      | (with_reducible exact LeO.refl _)
      | (with_reducible exact LeO.none _)
      | (with_reducible refine LeO.ite ?_ ?_)
      | (with_reducible refine LeO.bind ?_ (fun _ => ?_))
      | exact ih0 _ _ _
      | exact ih1 _ _ _
      | exact ih2 _ _ _
      | exact ih3 _ _ _
      | exact ih4 _ _ _
      | exact ih5 _ _ _
      | exact ih6 _ _
      | exact LeO.none _
      | refine LeO.ite ?_ ?_
      | refine LeO.bind ?_ (fun _ => ?_)
set_option maxHeartbeats 8000000 in
set_option maxRecDepth 100000 in
theorem zilog_sums.calls (k : Nat) (a0 : ByteArray) (a1 : ByteArray) (r : List ByteArray) (w : World) (h : zilog_sums.f k a0 a1 = some r) (hT : Tabs w) :
    Calls Tryd.prog 35 #[.string a0, .string a1] w fun e w' => ∃ v0_ : Value, e = .returned (v0_) ∧ Kd.R Kd.string 9 w' w.heap.size (fun _ => True) v0_ r ∧ Below w.heap.size w w' := by
  have HB := Aside0.mk (Below.refl w.heap.size w)
  have H : (if a0.toList = ([65, 68, 68] : List UInt8) then (zilog_sums.j0 k a1 a0 (a0.toList == ([65, 68, 68] : List UInt8))) else (zilog_sums.j0 k a1 a0 (a0.toList == ([65, 68, 73] : List UInt8)))) = some r := h
  clear h
  have HC3 := Aside0.mk H
  clear H
  go_enter Tryd.func35, Tryd.ntmps35
  go_upto_if 6 with (fail)
  go_cut [6] (fun v6 wc => ∃ (kq : Nat) (x6_2 : Bool), v6 = .bool x6_2 ∧ Aside0 (zilog_sums.j0 kq a1 a0 x6_2 = some r) ∧ Aside0 (kq ≤ k) ∧ Aside0 (Below w.heap.size w wc))
  case first =>
    have H := HC3.out
    clear HC3
    by_cases c4 : a0.toList = ([65, 68, 68] : List UInt8)
    · rw [if_pos c4] at H
      have c4b0 : (a0.toList == ([65, 68, 68] : List UInt8)) = true := beq_iff_eq.mpr c4
      have c4b1 : (a0.toList != ([65, 68, 68] : List UInt8)) = false := bne_eq_false_iff_eq.mpr c4
      clear c4
      (first | rw [c4b0] | (simp only [i64_w, i32_w]; rw [c4b0]) | skip)
      have H' := Aside0.mk H
      clear H
      go_wp2
      go_meet
      case rel => exact ⟨_, ((a0.toList == ([65, 68, 68] : List UInt8))), (by first | rfl | (simp; done) | (simp [*]; done)), H', ⟨by first | omega | exact Nat.le_refl _⟩, ⟨by repeat (first | (with_reducible first | exact HB.out | apply below_alloc | apply pw_below_drewN | apply below_drew1) | exact HB.out)⟩⟩
    · rw [if_neg c4] at H
      have c4b0 : (a0.toList == ([65, 68, 68] : List UInt8)) = false := beq_eq_false_iff_ne.mpr c4
      have c4b1 : (a0.toList != ([65, 68, 68] : List UInt8)) = true := bne_iff_ne.mpr c4
      (first | rw [c4b0] | (simp only [i64_w, i32_w]; rw [c4b0]) | skip)
      have H' := Aside0.mk H
      clear H
      go_wp2
      go_meet
      case rel => exact ⟨_, ((a0.toList == ([65, 68, 73] : List UInt8))), (by first | rfl | (simp; done) | (simp [*]; done)), H', ⟨by first | omega | exact Nat.le_refl _⟩, ⟨by repeat (first | (with_reducible first | exact HB.out | apply below_alloc | apply pw_below_drewN | apply below_drew1) | exact HB.out)⟩⟩
  case rest =>
    clear HC3
    try clear p2
    try clear c3
    try clear c4
    try clear c4b0
    try clear c4b1
    obtain ⟨kq, x6_2, rfl, HA, HJ2, HB⟩ := hcut
    cases kq with
    | zero => exact absurd HA.out (by simp [zilog_sums.j0])
    | succ kj2 =>
      have H := HA.out
      clear HA
      simp only [zilog_sums.j0] at H
      by_cases c5 : x6_2 = true
      · subst c5
        have H1 : ((zilog_words.f (([(⟨#[65, 68, 68]⟩ : ByteArray), (⟨#[65]⟩ : ByteArray), a1] : List ByteArray))).bind fun t350 => (some t350)) = some r := by rw [if_pos rfl] at H; exact H
        clear H
        have H := H1
        clear H1
        obtain ⟨y347, hy347⟩ : ∃ y_ : List ByteArray, y_ = (([(⟨#[65, 68, 68]⟩ : ByteArray), (⟨#[65]⟩ : ByteArray), a1] : List ByteArray)) := ⟨_, rfl⟩
        replace H : ((zilog_words.f y347).bind fun t350 => (some t350)) = some r := by first | (rw [hy347]; with_reducible exact H) | (have H2_ := (Option.bind_some _ _).symm.trans H; rw [hy347]; with_reducible exact H2_) | (have H2_ := (Option.bind_some _ _).symm.trans H; with_reducible exact H2_) | with_reducible exact H | (rw [hy347]; exact H) | exact H
        have Ny347 := Aside0.mk hy347
        clear hy347
        replace H := Option.bind_eq_some_iff.mp H
        obtain ⟨t350, A60, H⟩ := H
        replace H : (some t350) = some r := H
        have A6 := Aside0.mk A60
        clear A60
        obtain rfl := Option.some.inj H
        go_wp2_with (first | ((with_reducible refine gate_dst (N := 10) rfl ?_); refine Kd.R_lit Kd.string _ 9 ?hg (N := 10) ?hd (xs := ([(⟨#[65, 68, 68]⟩ : ByteArray), (⟨#[65]⟩ : ByteArray), a1] : List ByteArray)) (inner := [.string (⟨#[65, 68, 68]⟩ : ByteArray), .string (⟨#[65]⟩ : ByteArray), .string a1]) (ok := fun _ => True) (okp := fun _ => True) ?hr ?hp (fun _ hk => hk) trivial (Below.refl _ _) (Nat.le_refl _) (by simp) ?_; (case hd => rfl); (case hg => rfl); (case hr => first | (go_simp; done) | (go_simp; rfl)); (case hp => exact (Reps.one (show Kd.M Kd.string _ _ _ (⟨#[65, 68, 68]⟩ : ByteArray) [.string (⟨#[65, 68, 68]⟩ : ByteArray)] from rfl) (Reps.one (show Kd.M Kd.string _ _ _ (⟨#[65]⟩ : ByteArray) [.string (⟨#[65]⟩ : ByteArray)] from rfl) (Reps.one (show Kd.M Kd.string _ _ _ a1 [.string a1] from rfl) (Reps.none _ _))))); intro v348 w7 ho8 hb hg_ hnew_; clear hg_ hnew_; (first | rw [← Ny347.out] at ho8 | (simp only [Int.reduceToNat] at ho8; rw [← Ny347.out] at ho8)); have n0_ := Aside0.mk (Kd.R_lower ho8 (below_size (by repeat (first | (with_reducible first | exact HB.out | apply below_alloc | apply pw_below_drewN | apply below_drew1) | exact HB.out)))); have n1_ := Aside0.mk (below_step (by repeat (first | (with_reducible first | exact HB.out | apply below_alloc | apply pw_below_drewN | apply below_drew1) | exact HB.out)) hb); clear HB; have HO349 := n0_; have HB := n1_; clear n0_ n1_; clear hb ho8; obtain ⟨Ao9, co9, eo9⟩ := Kd.R_slice HO349.out; subst eo9) | ((with_reducible refine gate_callee (f := 33) rfl ?_); refine goesL_ (some 11) rfl rfl Tryd.func33 (by kernel_rfl) rfl #[.slice Ao9 y347.length co9] rfl (by (try simp only [List.map_toArray, List.map_cons, List.map_nil]); first | done | rfl | (simp only [List.length_drop, List.length_take]; rfl)) ?_; (with_reducible refine (zilog_words.calls (fun k_ => some k_ = (.slice Ao9 y347.length co9 : Value).ownBlock) (.slice Ao9 y347.length co9) y347 t350 w _ ?side1 ?side2 A6.out (by first | exact hT | exact tabs_below hT (by repeat (first | (with_reducible first | exact HB.out | apply below_alloc | apply pw_below_drewN | apply below_drew1) | exact HB.out)) | (repeat (first | exact hT | apply tabs_alloc | apply tabs_drewN | apply tabs_drew)))).mono ?_); (case side1 => repeat (first | (with_reducible first | exact HB.out | apply below_alloc | apply pw_below_drewN | apply below_drew1) | exact HB.out)); (case side2 => exact Kd.R_tight rfl HO349.out); rintro e w10 ⟨v351, rfl, ho0, hb, hkp⟩; refine ⟨_, rfl, ?_⟩; have n0_ := Aside0.mk (Kd.R_mono (ok' := fun k_ => True) ho0 (fun k_ hk_ => trivial)); have n1_ := Aside0.mk (hb); clear HB; clear HO349; have HO352 := n0_; have HB := n1_; clear n0_ n1_; (try clear hb); (try clear hkp); (try clear ho0)))
        go_ret
        exact ⟨_, by first | rfl | (simp [errW_none, errW_some] <;> rfl) | (simp [*, errW_none, errW_some] <;> rfl), by (with_reducible repeat (first | apply Kd.R_alloc | apply Kd.R_drewN | apply Kd.R_drew)); exact HO352.out, by repeat (first | (with_reducible first | exact HB.out | apply below_alloc | apply pw_below_drewN | apply below_drew1) | exact HB.out)⟩
      · replace c5 := Bool.eq_false_iff.mpr c5
        subst c5
        have H1 : (if a0.toList = ([65, 68, 67] : List UInt8) then (zilog_sums.j1 kj2 a1 a0 (a0.toList == ([65, 68, 67] : List UInt8))) else (zilog_sums.j1 kj2 a1 a0 (a0.toList == ([65, 67, 73] : List UInt8)))) = some r := by rw [if_neg (show ¬ (false = true) by decide)] at H; exact H
        clear H
        have H := H1
        clear H1
        have HC11 := Aside0.mk H
        clear H
        go_upto_if 12 with (fail)
        go_cut [12] (fun v12 wc => ∃ (kq : Nat) (x12_10 : Bool), v12 = .bool x12_10 ∧ Aside0 (zilog_sums.j1 kq a1 a0 x12_10 = some r) ∧ Aside0 (kq ≤ kj2) ∧ Aside0 (Below w.heap.size w wc))
        case first =>
          have H := HC11.out
          clear HC11
          by_cases c12 : a0.toList = ([65, 68, 67] : List UInt8)
          · rw [if_pos c12] at H
            have c12b0 : (a0.toList == ([65, 68, 67] : List UInt8)) = true := beq_iff_eq.mpr c12
            have c12b1 : (a0.toList != ([65, 68, 67] : List UInt8)) = false := bne_eq_false_iff_eq.mpr c12
            clear c12
            (first | rw [c12b0] | (simp only [i64_w, i32_w]; rw [c12b0]) | skip)
            have H' := Aside0.mk H
            clear H
            go_wp2
            go_meet
            case rel => exact ⟨_, ((a0.toList == ([65, 68, 67] : List UInt8))), (by first | rfl | (simp; done) | (simp [*]; done)), H', ⟨by have := HJ2.out; first | omega | exact Nat.le_refl _⟩, ⟨by repeat (first | (with_reducible first | exact HB.out | apply below_alloc | apply pw_below_drewN | apply below_drew1) | exact HB.out)⟩⟩
          · rw [if_neg c12] at H
            have c12b0 : (a0.toList == ([65, 68, 67] : List UInt8)) = false := beq_eq_false_iff_ne.mpr c12
            have c12b1 : (a0.toList != ([65, 68, 67] : List UInt8)) = true := bne_iff_ne.mpr c12
            (first | rw [c12b0] | (simp only [i64_w, i32_w]; rw [c12b0]) | skip)
            have H' := Aside0.mk H
            clear H
            go_wp2
            go_meet
            case rel => exact ⟨_, ((a0.toList == ([65, 67, 73] : List UInt8))), (by first | rfl | (simp; done) | (simp [*]; done)), H', ⟨by have := HJ2.out; first | omega | exact Nat.le_refl _⟩, ⟨by repeat (first | (with_reducible first | exact HB.out | apply below_alloc | apply pw_below_drewN | apply below_drew1) | exact HB.out)⟩⟩
        case rest =>
          clear HC11
          try clear c1
          try clear p2
          try clear c3
          try clear c4
          try clear c4b0
          try clear c4b1
          try clear c5
          try clear c12
          try clear c12b0
          try clear c12b1
          try clear p2
          obtain ⟨kq, x12_10, rfl, HA, HJ10, HB⟩ := hcut
          cases kq with
          | zero => exact absurd HA.out (by simp [zilog_sums.j1])
          | succ kj10 =>
            have H := HA.out
            clear HA
            simp only [zilog_sums.j1] at H
            by_cases c13 : x12_10 = true
            · subst c13
              have H1 : ((zilog_words.f (([(⟨#[65, 68, 67]⟩ : ByteArray), (⟨#[65]⟩ : ByteArray), a1] : List ByteArray))).bind fun t356 => (some t356)) = some r := by rw [if_pos rfl] at H; exact H
              clear H
              have H := H1
              clear H1
              obtain ⟨y353, hy353⟩ : ∃ y_ : List ByteArray, y_ = (([(⟨#[65, 68, 67]⟩ : ByteArray), (⟨#[65]⟩ : ByteArray), a1] : List ByteArray)) := ⟨_, rfl⟩
              replace H : ((zilog_words.f y353).bind fun t356 => (some t356)) = some r := by first | (rw [hy353]; with_reducible exact H) | (have H2_ := (Option.bind_some _ _).symm.trans H; rw [hy353]; with_reducible exact H2_) | (have H2_ := (Option.bind_some _ _).symm.trans H; with_reducible exact H2_) | with_reducible exact H | (rw [hy353]; exact H) | exact H
              have Ny353 := Aside0.mk hy353
              clear hy353
              replace H := Option.bind_eq_some_iff.mp H
              obtain ⟨t356, A140, H⟩ := H
              replace H : (some t356) = some r := H
              have A14 := Aside0.mk A140
              clear A140
              obtain rfl := Option.some.inj H
              go_wp2_with (first | ((with_reducible refine gate_dst (N := 16) rfl ?_); refine Kd.R_lit Kd.string _ 9 ?hg (N := 16) ?hd (xs := ([(⟨#[65, 68, 67]⟩ : ByteArray), (⟨#[65]⟩ : ByteArray), a1] : List ByteArray)) (inner := [.string (⟨#[65, 68, 67]⟩ : ByteArray), .string (⟨#[65]⟩ : ByteArray), .string a1]) (ok := fun _ => True) (okp := fun _ => True) ?hr ?hp (fun _ hk => hk) trivial (Below.refl _ _) (Nat.le_refl _) (by simp) ?_; (case hd => rfl); (case hg => rfl); (case hr => first | (go_simp; done) | (go_simp; rfl)); (case hp => exact (Reps.one (show Kd.M Kd.string _ _ _ (⟨#[65, 68, 67]⟩ : ByteArray) [.string (⟨#[65, 68, 67]⟩ : ByteArray)] from rfl) (Reps.one (show Kd.M Kd.string _ _ _ (⟨#[65]⟩ : ByteArray) [.string (⟨#[65]⟩ : ByteArray)] from rfl) (Reps.one (show Kd.M Kd.string _ _ _ a1 [.string a1] from rfl) (Reps.none _ _))))); intro v354 w15 ho16 hb hg_ hnew_; clear hg_ hnew_; (first | rw [← Ny353.out] at ho16 | (simp only [Int.reduceToNat] at ho16; rw [← Ny353.out] at ho16)); have n0_ := Aside0.mk (Kd.R_lower ho16 (below_size (by repeat (first | (with_reducible first | exact HB.out | apply below_alloc | apply pw_below_drewN | apply below_drew1) | exact HB.out)))); have n1_ := Aside0.mk (below_step (by repeat (first | (with_reducible first | exact HB.out | apply below_alloc | apply pw_below_drewN | apply below_drew1) | exact HB.out)) hb); clear HB; have HO355 := n0_; have HB := n1_; clear n0_ n1_; clear hb ho16; obtain ⟨Ao17, co17, eo17⟩ := Kd.R_slice HO355.out; subst eo17) | ((with_reducible refine gate_callee (f := 33) rfl ?_); refine goesL_ (some 17) rfl rfl Tryd.func33 (by kernel_rfl) rfl #[.slice Ao17 y353.length co17] rfl (by (try simp only [List.map_toArray, List.map_cons, List.map_nil]); first | done | rfl | (simp only [List.length_drop, List.length_take]; rfl)) ?_; (with_reducible refine (zilog_words.calls (fun k_ => some k_ = (.slice Ao17 y353.length co17 : Value).ownBlock) (.slice Ao17 y353.length co17) y353 t356 w _ ?side1 ?side2 A14.out (by first | exact hT | exact tabs_below hT (by repeat (first | (with_reducible first | exact HB.out | apply below_alloc | apply pw_below_drewN | apply below_drew1) | exact HB.out)) | (repeat (first | exact hT | apply tabs_alloc | apply tabs_drewN | apply tabs_drew)))).mono ?_); (case side1 => repeat (first | (with_reducible first | exact HB.out | apply below_alloc | apply pw_below_drewN | apply below_drew1) | exact HB.out)); (case side2 => exact Kd.R_tight rfl HO355.out); rintro e w18 ⟨v357, rfl, ho0, hb, hkp⟩; refine ⟨_, rfl, ?_⟩; have n0_ := Aside0.mk (Kd.R_mono (ok' := fun k_ => True) ho0 (fun k_ hk_ => trivial)); have n1_ := Aside0.mk (hb); clear HB; clear HO355; have HO358 := n0_; have HB := n1_; clear n0_ n1_; (try clear hb); (try clear hkp); (try clear ho0)))
              go_ret
              exact ⟨_, by first | rfl | (simp [errW_none, errW_some] <;> rfl) | (simp [*, errW_none, errW_some] <;> rfl), by (with_reducible repeat (first | apply Kd.R_alloc | apply Kd.R_drewN | apply Kd.R_drew)); exact HO358.out, by repeat (first | (with_reducible first | exact HB.out | apply below_alloc | apply pw_below_drewN | apply below_drew1) | exact HB.out)⟩
            · replace c13 := Bool.eq_false_iff.mpr c13
              subst c13
              have H1 : (if a0.toList = ([83, 66, 66] : List UInt8) then (zilog_sums.j2 kj10 a1 a0 (a0.toList == ([83, 66, 66] : List UInt8))) else (zilog_sums.j2 kj10 a1 a0 (a0.toList == ([83, 66, 73] : List UInt8)))) = some r := by rw [if_neg (show ¬ (false = true) by decide)] at H; exact H
              clear H
              have H := H1
              clear H1
              have HC19 := Aside0.mk H
              clear H
              go_upto_if 18 with (fail)
              go_cut [18] (fun v18 wc => ∃ (kq : Nat) (x18_18 : Bool), v18 = .bool x18_18 ∧ Aside0 (zilog_sums.j2 kq a1 a0 x18_18 = some r) ∧ Aside0 (kq ≤ kj10) ∧ Aside0 (Below w.heap.size w wc))
              case first =>
                have H := HC19.out
                clear HC19
                by_cases c20 : a0.toList = ([83, 66, 66] : List UInt8)
                · rw [if_pos c20] at H
                  have c20b0 : (a0.toList == ([83, 66, 66] : List UInt8)) = true := beq_iff_eq.mpr c20
                  have c20b1 : (a0.toList != ([83, 66, 66] : List UInt8)) = false := bne_eq_false_iff_eq.mpr c20
                  clear c20
                  (first | rw [c20b0] | (simp only [i64_w, i32_w]; rw [c20b0]) | skip)
                  have H' := Aside0.mk H
                  clear H
                  go_wp2
                  go_meet
                  case rel => exact ⟨_, ((a0.toList == ([83, 66, 66] : List UInt8))), (by first | rfl | (simp; done) | (simp [*]; done)), H', ⟨by have := HJ2.out; have := HJ10.out; first | omega | exact Nat.le_refl _⟩, ⟨by repeat (first | (with_reducible first | exact HB.out | apply below_alloc | apply pw_below_drewN | apply below_drew1) | exact HB.out)⟩⟩
                · rw [if_neg c20] at H
                  have c20b0 : (a0.toList == ([83, 66, 66] : List UInt8)) = false := beq_eq_false_iff_ne.mpr c20
                  have c20b1 : (a0.toList != ([83, 66, 66] : List UInt8)) = true := bne_iff_ne.mpr c20
                  (first | rw [c20b0] | (simp only [i64_w, i32_w]; rw [c20b0]) | skip)
                  have H' := Aside0.mk H
                  clear H
                  go_wp2
                  go_meet
                  case rel => exact ⟨_, ((a0.toList == ([83, 66, 73] : List UInt8))), (by first | rfl | (simp; done) | (simp [*]; done)), H', ⟨by have := HJ2.out; have := HJ10.out; first | omega | exact Nat.le_refl _⟩, ⟨by repeat (first | (with_reducible first | exact HB.out | apply below_alloc | apply pw_below_drewN | apply below_drew1) | exact HB.out)⟩⟩
              case rest =>
                clear HC19
                try clear c1
                try clear c2
                try clear p2
                try clear c3
                try clear c4
                try clear c4b0
                try clear c4b1
                try clear c5
                try clear c12
                try clear c12b0
                try clear c12b1
                try clear c13
                try clear c20
                try clear c20b0
                try clear c20b1
                try clear p2
                obtain ⟨kq, x18_18, rfl, HA, HJ18, HB⟩ := hcut
                cases kq with
                | zero => exact absurd HA.out (by simp [zilog_sums.j2])
                | succ kj18 =>
                  have H := HA.out
                  clear HA
                  simp only [zilog_sums.j2] at H
                  by_cases c21 : x18_18 = true
                  · subst c21
                    have H1 : ((zilog_words.f (([(⟨#[83, 66, 67]⟩ : ByteArray), (⟨#[65]⟩ : ByteArray), a1] : List ByteArray))).bind fun t362 => (some t362)) = some r := by rw [if_pos rfl] at H; exact H
                    clear H
                    have H := H1
                    clear H1
                    obtain ⟨y359, hy359⟩ : ∃ y_ : List ByteArray, y_ = (([(⟨#[83, 66, 67]⟩ : ByteArray), (⟨#[65]⟩ : ByteArray), a1] : List ByteArray)) := ⟨_, rfl⟩
                    replace H : ((zilog_words.f y359).bind fun t362 => (some t362)) = some r := by first | (rw [hy359]; with_reducible exact H) | (have H2_ := (Option.bind_some _ _).symm.trans H; rw [hy359]; with_reducible exact H2_) | (have H2_ := (Option.bind_some _ _).symm.trans H; with_reducible exact H2_) | with_reducible exact H | (rw [hy359]; exact H) | exact H
                    have Ny359 := Aside0.mk hy359
                    clear hy359
                    replace H := Option.bind_eq_some_iff.mp H
                    obtain ⟨t362, A220, H⟩ := H
                    replace H : (some t362) = some r := H
                    have A22 := Aside0.mk A220
                    clear A220
                    obtain rfl := Option.some.inj H
                    go_wp2_with (first | ((with_reducible refine gate_dst (N := 22) rfl ?_); refine Kd.R_lit Kd.string _ 9 ?hg (N := 22) ?hd (xs := ([(⟨#[83, 66, 67]⟩ : ByteArray), (⟨#[65]⟩ : ByteArray), a1] : List ByteArray)) (inner := [.string (⟨#[83, 66, 67]⟩ : ByteArray), .string (⟨#[65]⟩ : ByteArray), .string a1]) (ok := fun _ => True) (okp := fun _ => True) ?hr ?hp (fun _ hk => hk) trivial (Below.refl _ _) (Nat.le_refl _) (by simp) ?_; (case hd => rfl); (case hg => rfl); (case hr => first | (go_simp; done) | (go_simp; rfl)); (case hp => exact (Reps.one (show Kd.M Kd.string _ _ _ (⟨#[83, 66, 67]⟩ : ByteArray) [.string (⟨#[83, 66, 67]⟩ : ByteArray)] from rfl) (Reps.one (show Kd.M Kd.string _ _ _ (⟨#[65]⟩ : ByteArray) [.string (⟨#[65]⟩ : ByteArray)] from rfl) (Reps.one (show Kd.M Kd.string _ _ _ a1 [.string a1] from rfl) (Reps.none _ _))))); intro v360 w23 ho24 hb hg_ hnew_; clear hg_ hnew_; (first | rw [← Ny359.out] at ho24 | (simp only [Int.reduceToNat] at ho24; rw [← Ny359.out] at ho24)); have n0_ := Aside0.mk (Kd.R_lower ho24 (below_size (by repeat (first | (with_reducible first | exact HB.out | apply below_alloc | apply pw_below_drewN | apply below_drew1) | exact HB.out)))); have n1_ := Aside0.mk (below_step (by repeat (first | (with_reducible first | exact HB.out | apply below_alloc | apply pw_below_drewN | apply below_drew1) | exact HB.out)) hb); clear HB; have HO361 := n0_; have HB := n1_; clear n0_ n1_; clear hb ho24; obtain ⟨Ao25, co25, eo25⟩ := Kd.R_slice HO361.out; subst eo25) | ((with_reducible refine gate_callee (f := 33) rfl ?_); refine goesL_ (some 23) rfl rfl Tryd.func33 (by kernel_rfl) rfl #[.slice Ao25 y359.length co25] rfl (by (try simp only [List.map_toArray, List.map_cons, List.map_nil]); first | done | rfl | (simp only [List.length_drop, List.length_take]; rfl)) ?_; (with_reducible refine (zilog_words.calls (fun k_ => some k_ = (.slice Ao25 y359.length co25 : Value).ownBlock) (.slice Ao25 y359.length co25) y359 t362 w _ ?side1 ?side2 A22.out (by first | exact hT | exact tabs_below hT (by repeat (first | (with_reducible first | exact HB.out | apply below_alloc | apply pw_below_drewN | apply below_drew1) | exact HB.out)) | (repeat (first | exact hT | apply tabs_alloc | apply tabs_drewN | apply tabs_drew)))).mono ?_); (case side1 => repeat (first | (with_reducible first | exact HB.out | apply below_alloc | apply pw_below_drewN | apply below_drew1) | exact HB.out)); (case side2 => exact Kd.R_tight rfl HO361.out); rintro e w26 ⟨v363, rfl, ho0, hb, hkp⟩; refine ⟨_, rfl, ?_⟩; have n0_ := Aside0.mk (Kd.R_mono (ok' := fun k_ => True) ho0 (fun k_ hk_ => trivial)); have n1_ := Aside0.mk (hb); clear HB; clear HO361; have HO364 := n0_; have HB := n1_; clear n0_ n1_; (try clear hb); (try clear hkp); (try clear ho0)))
                    go_ret
                    exact ⟨_, by first | rfl | (simp [errW_none, errW_some] <;> rfl) | (simp [*, errW_none, errW_some] <;> rfl), by (with_reducible repeat (first | apply Kd.R_alloc | apply Kd.R_drewN | apply Kd.R_drew)); exact HO364.out, by repeat (first | (with_reducible first | exact HB.out | apply below_alloc | apply pw_below_drewN | apply below_drew1) | exact HB.out)⟩
                  · replace c21 := Bool.eq_false_iff.mpr c21
                    subst c21
                    have H1 : (if a0.toList = ([83, 85, 66] : List UInt8) then (zilog_sums.j3 kj18 a1 a0 (a0.toList == ([83, 85, 66] : List UInt8))) else (zilog_sums.j3 kj18 a1 a0 (a0.toList == ([83, 85, 73] : List UInt8)))) = some r := by rw [if_neg (show ¬ (false = true) by decide)] at H; exact H
                    clear H
                    have H := H1
                    clear H1
                    have HC27 := Aside0.mk H
                    clear H
                    go_upto_if 24 with (fail)
                    go_cut [24] (fun v24 wc => ∃ (kq : Nat) (x24_26 : Bool), v24 = .bool x24_26 ∧ Aside0 (zilog_sums.j3 kq a1 a0 x24_26 = some r) ∧ Aside0 (kq ≤ kj18) ∧ Aside0 (Below w.heap.size w wc))
                    case first =>
                      have H := HC27.out
                      clear HC27
                      by_cases c28 : a0.toList = ([83, 85, 66] : List UInt8)
                      · rw [if_pos c28] at H
                        have c28b0 : (a0.toList == ([83, 85, 66] : List UInt8)) = true := beq_iff_eq.mpr c28
                        have c28b1 : (a0.toList != ([83, 85, 66] : List UInt8)) = false := bne_eq_false_iff_eq.mpr c28
                        clear c28
                        (first | rw [c28b0] | (simp only [i64_w, i32_w]; rw [c28b0]) | skip)
                        have H' := Aside0.mk H
                        clear H
                        go_wp2
                        go_meet
                        case rel => exact ⟨_, ((a0.toList == ([83, 85, 66] : List UInt8))), (by first | rfl | (simp; done) | (simp [*]; done)), H', ⟨by have := HJ2.out; have := HJ10.out; have := HJ18.out; first | omega | exact Nat.le_refl _⟩, ⟨by repeat (first | (with_reducible first | exact HB.out | apply below_alloc | apply pw_below_drewN | apply below_drew1) | exact HB.out)⟩⟩
                      · rw [if_neg c28] at H
                        have c28b0 : (a0.toList == ([83, 85, 66] : List UInt8)) = false := beq_eq_false_iff_ne.mpr c28
                        have c28b1 : (a0.toList != ([83, 85, 66] : List UInt8)) = true := bne_iff_ne.mpr c28
                        (first | rw [c28b0] | (simp only [i64_w, i32_w]; rw [c28b0]) | skip)
                        have H' := Aside0.mk H
                        clear H
                        go_wp2
                        go_meet
                        case rel => exact ⟨_, ((a0.toList == ([83, 85, 73] : List UInt8))), (by first | rfl | (simp; done) | (simp [*]; done)), H', ⟨by have := HJ2.out; have := HJ10.out; have := HJ18.out; first | omega | exact Nat.le_refl _⟩, ⟨by repeat (first | (with_reducible first | exact HB.out | apply below_alloc | apply pw_below_drewN | apply below_drew1) | exact HB.out)⟩⟩
                    case rest =>
                      clear HC27
                      try clear c1
                      try clear c2
                      try clear p2
                      try clear c3
                      try clear c4
                      try clear c4b0
                      try clear c4b1
                      try clear c5
                      try clear c12
                      try clear c12b0
                      try clear c12b1
                      try clear c13
                      try clear c20
                      try clear c20b0
                      try clear c20b1
                      try clear c21
                      try clear c28
                      try clear c28b0
                      try clear c28b1
                      try clear p2
                      obtain ⟨kq, x24_26, rfl, HA, HJ26, HB⟩ := hcut
                      cases kq with
                      | zero => exact absurd HA.out (by simp [zilog_sums.j3])
                      | succ kj26 =>
                        have H := HA.out
                        clear HA
                        simp only [zilog_sums.j3] at H
                        by_cases c29 : x24_26 = true
                        · subst c29
                          have H1 : ((zilog_words.f (([(⟨#[83, 85, 66]⟩ : ByteArray), a1] : List ByteArray))).bind fun t368 => (some t368)) = some r := by rw [if_pos rfl] at H; exact H
                          clear H
                          have H := H1
                          clear H1
                          obtain ⟨y365, hy365⟩ : ∃ y_ : List ByteArray, y_ = (([(⟨#[83, 85, 66]⟩ : ByteArray), a1] : List ByteArray)) := ⟨_, rfl⟩
                          replace H : ((zilog_words.f y365).bind fun t368 => (some t368)) = some r := by first | (rw [hy365]; with_reducible exact H) | (have H2_ := (Option.bind_some _ _).symm.trans H; rw [hy365]; with_reducible exact H2_) | (have H2_ := (Option.bind_some _ _).symm.trans H; with_reducible exact H2_) | with_reducible exact H | (rw [hy365]; exact H) | exact H
                          have Ny365 := Aside0.mk hy365
                          clear hy365
                          replace H := Option.bind_eq_some_iff.mp H
                          obtain ⟨t368, A300, H⟩ := H
                          replace H : (some t368) = some r := H
                          have A30 := Aside0.mk A300
                          clear A300
                          obtain rfl := Option.some.inj H
                          go_wp2_with (first | ((with_reducible refine gate_dst (N := 28) rfl ?_); refine Kd.R_lit Kd.string _ 9 ?hg (N := 28) ?hd (xs := ([(⟨#[83, 85, 66]⟩ : ByteArray), a1] : List ByteArray)) (inner := [.string (⟨#[83, 85, 66]⟩ : ByteArray), .string a1]) (ok := fun _ => True) (okp := fun _ => True) ?hr ?hp (fun _ hk => hk) trivial (Below.refl _ _) (Nat.le_refl _) (by simp) ?_; (case hd => rfl); (case hg => rfl); (case hr => first | (go_simp; done) | (go_simp; rfl)); (case hp => exact (Reps.one (show Kd.M Kd.string _ _ _ (⟨#[83, 85, 66]⟩ : ByteArray) [.string (⟨#[83, 85, 66]⟩ : ByteArray)] from rfl) (Reps.one (show Kd.M Kd.string _ _ _ a1 [.string a1] from rfl) (Reps.none _ _)))); intro v366 w31 ho32 hb hg_ hnew_; clear hg_ hnew_; (first | rw [← Ny365.out] at ho32 | (simp only [Int.reduceToNat] at ho32; rw [← Ny365.out] at ho32)); have n0_ := Aside0.mk (Kd.R_lower ho32 (below_size (by repeat (first | (with_reducible first | exact HB.out | apply below_alloc | apply pw_below_drewN | apply below_drew1) | exact HB.out)))); have n1_ := Aside0.mk (below_step (by repeat (first | (with_reducible first | exact HB.out | apply below_alloc | apply pw_below_drewN | apply below_drew1) | exact HB.out)) hb); clear HB; have HO367 := n0_; have HB := n1_; clear n0_ n1_; clear hb ho32; obtain ⟨Ao33, co33, eo33⟩ := Kd.R_slice HO367.out; subst eo33) | ((with_reducible refine gate_callee (f := 33) rfl ?_); refine goesL_ (some 29) rfl rfl Tryd.func33 (by kernel_rfl) rfl #[.slice Ao33 y365.length co33] rfl (by (try simp only [List.map_toArray, List.map_cons, List.map_nil]); first | done | rfl | (simp only [List.length_drop, List.length_take]; rfl)) ?_; (with_reducible refine (zilog_words.calls (fun k_ => some k_ = (.slice Ao33 y365.length co33 : Value).ownBlock) (.slice Ao33 y365.length co33) y365 t368 w _ ?side1 ?side2 A30.out (by first | exact hT | exact tabs_below hT (by repeat (first | (with_reducible first | exact HB.out | apply below_alloc | apply pw_below_drewN | apply below_drew1) | exact HB.out)) | (repeat (first | exact hT | apply tabs_alloc | apply tabs_drewN | apply tabs_drew)))).mono ?_); (case side1 => repeat (first | (with_reducible first | exact HB.out | apply below_alloc | apply pw_below_drewN | apply below_drew1) | exact HB.out)); (case side2 => exact Kd.R_tight rfl HO367.out); rintro e w34 ⟨v369, rfl, ho0, hb, hkp⟩; refine ⟨_, rfl, ?_⟩; have n0_ := Aside0.mk (Kd.R_mono (ok' := fun k_ => True) ho0 (fun k_ hk_ => trivial)); have n1_ := Aside0.mk (hb); clear HB; clear HO367; have HO370 := n0_; have HB := n1_; clear n0_ n1_; (try clear hb); (try clear hkp); (try clear ho0)))
                          go_ret
                          exact ⟨_, by first | rfl | (simp [errW_none, errW_some] <;> rfl) | (simp [*, errW_none, errW_some] <;> rfl), by (with_reducible repeat (first | apply Kd.R_alloc | apply Kd.R_drewN | apply Kd.R_drew)); exact HO370.out, by repeat (first | (with_reducible first | exact HB.out | apply below_alloc | apply pw_below_drewN | apply below_drew1) | exact HB.out)⟩
                        · replace c29 := Bool.eq_false_iff.mpr c29
                          subst c29
                          have H1 : (if a0.toList = ([65, 78, 65] : List UInt8) then (zilog_sums.j4 kj26 a1 a0 (a0.toList == ([65, 78, 65] : List UInt8))) else (zilog_sums.j4 kj26 a1 a0 (a0.toList == ([65, 78, 73] : List UInt8)))) = some r := by rw [if_neg (show ¬ (false = true) by decide)] at H; exact H
                          clear H
                          have H := H1
                          clear H1
                          have HC35 := Aside0.mk H
                          clear H
                          go_upto_if 30 with (fail)
                          go_cut [30] (fun v30 wc => ∃ (kq : Nat) (x30_34 : Bool), v30 = .bool x30_34 ∧ Aside0 (zilog_sums.j4 kq a1 a0 x30_34 = some r) ∧ Aside0 (kq ≤ kj26) ∧ Aside0 (Below w.heap.size w wc))
                          case first =>
                            have H := HC35.out
                            clear HC35
                            by_cases c36 : a0.toList = ([65, 78, 65] : List UInt8)
                            · rw [if_pos c36] at H
                              have c36b0 : (a0.toList == ([65, 78, 65] : List UInt8)) = true := beq_iff_eq.mpr c36
                              have c36b1 : (a0.toList != ([65, 78, 65] : List UInt8)) = false := bne_eq_false_iff_eq.mpr c36
                              clear c36
                              (first | rw [c36b0] | (simp only [i64_w, i32_w]; rw [c36b0]) | skip)
                              have H' := Aside0.mk H
                              clear H
                              go_wp2
                              go_meet
                              case rel => exact ⟨_, ((a0.toList == ([65, 78, 65] : List UInt8))), (by first | rfl | (simp; done) | (simp [*]; done)), H', ⟨by have := HJ2.out; have := HJ10.out; have := HJ18.out; have := HJ26.out; first | omega | exact Nat.le_refl _⟩, ⟨by repeat (first | (with_reducible first | exact HB.out | apply below_alloc | apply pw_below_drewN | apply below_drew1) | exact HB.out)⟩⟩
                            · rw [if_neg c36] at H
                              have c36b0 : (a0.toList == ([65, 78, 65] : List UInt8)) = false := beq_eq_false_iff_ne.mpr c36
                              have c36b1 : (a0.toList != ([65, 78, 65] : List UInt8)) = true := bne_iff_ne.mpr c36
                              (first | rw [c36b0] | (simp only [i64_w, i32_w]; rw [c36b0]) | skip)
                              have H' := Aside0.mk H
                              clear H
                              go_wp2
                              go_meet
                              case rel => exact ⟨_, ((a0.toList == ([65, 78, 73] : List UInt8))), (by first | rfl | (simp; done) | (simp [*]; done)), H', ⟨by have := HJ2.out; have := HJ10.out; have := HJ18.out; have := HJ26.out; first | omega | exact Nat.le_refl _⟩, ⟨by repeat (first | (with_reducible first | exact HB.out | apply below_alloc | apply pw_below_drewN | apply below_drew1) | exact HB.out)⟩⟩
                          case rest =>
                            clear HC35
                            try clear c1
                            try clear c2
                            try clear p2
                            try clear c3
                            try clear c4
                            try clear c4b0
                            try clear c4b1
                            try clear c5
                            try clear c12
                            try clear c12b0
                            try clear c12b1
                            try clear c13
                            try clear c20
                            try clear c20b0
                            try clear c20b1
                            try clear c21
                            try clear c28
                            try clear c28b0
                            try clear c28b1
                            try clear c29
                            try clear c33
                            try clear c35
                            try clear c36
                            try clear c36b0
                            try clear c36b1
                            try clear p2
                            obtain ⟨kq, x30_34, rfl, HA, HJ34, HB⟩ := hcut
                            cases kq with
                            | zero => exact absurd HA.out (by simp [zilog_sums.j4])
                            | succ kj34 =>
                              have H := HA.out
                              clear HA
                              simp only [zilog_sums.j4] at H
                              by_cases c37 : x30_34 = true
                              · subst c37
                                have H1 : ((zilog_words.f (([(⟨#[65, 78, 68]⟩ : ByteArray), a1] : List ByteArray))).bind fun t374 => (some t374)) = some r := by rw [if_pos rfl] at H; exact H
                                clear H
                                have H := H1
                                clear H1
                                obtain ⟨y371, hy371⟩ : ∃ y_ : List ByteArray, y_ = (([(⟨#[65, 78, 68]⟩ : ByteArray), a1] : List ByteArray)) := ⟨_, rfl⟩
                                replace H : ((zilog_words.f y371).bind fun t374 => (some t374)) = some r := by first | (rw [hy371]; with_reducible exact H) | (have H2_ := (Option.bind_some _ _).symm.trans H; rw [hy371]; with_reducible exact H2_) | (have H2_ := (Option.bind_some _ _).symm.trans H; with_reducible exact H2_) | with_reducible exact H | (rw [hy371]; exact H) | exact H
                                have Ny371 := Aside0.mk hy371
                                clear hy371
                                replace H := Option.bind_eq_some_iff.mp H
                                obtain ⟨t374, A380, H⟩ := H
                                replace H : (some t374) = some r := H
                                have A38 := Aside0.mk A380
                                clear A380
                                obtain rfl := Option.some.inj H
                                go_wp2_with (first | ((with_reducible refine gate_dst (N := 34) rfl ?_); refine Kd.R_lit Kd.string _ 9 ?hg (N := 34) ?hd (xs := ([(⟨#[65, 78, 68]⟩ : ByteArray), a1] : List ByteArray)) (inner := [.string (⟨#[65, 78, 68]⟩ : ByteArray), .string a1]) (ok := fun _ => True) (okp := fun _ => True) ?hr ?hp (fun _ hk => hk) trivial (Below.refl _ _) (Nat.le_refl _) (by simp) ?_; (case hd => rfl); (case hg => rfl); (case hr => first | (go_simp; done) | (go_simp; rfl)); (case hp => exact (Reps.one (show Kd.M Kd.string _ _ _ (⟨#[65, 78, 68]⟩ : ByteArray) [.string (⟨#[65, 78, 68]⟩ : ByteArray)] from rfl) (Reps.one (show Kd.M Kd.string _ _ _ a1 [.string a1] from rfl) (Reps.none _ _)))); intro v372 w39 ho40 hb hg_ hnew_; clear hg_ hnew_; (first | rw [← Ny371.out] at ho40 | (simp only [Int.reduceToNat] at ho40; rw [← Ny371.out] at ho40)); have n0_ := Aside0.mk (Kd.R_lower ho40 (below_size (by repeat (first | (with_reducible first | exact HB.out | apply below_alloc | apply pw_below_drewN | apply below_drew1) | exact HB.out)))); have n1_ := Aside0.mk (below_step (by repeat (first | (with_reducible first | exact HB.out | apply below_alloc | apply pw_below_drewN | apply below_drew1) | exact HB.out)) hb); clear HB; have HO373 := n0_; have HB := n1_; clear n0_ n1_; clear hb ho40; obtain ⟨Ao41, co41, eo41⟩ := Kd.R_slice HO373.out; subst eo41) | ((with_reducible refine gate_callee (f := 33) rfl ?_); refine goesL_ (some 35) rfl rfl Tryd.func33 (by kernel_rfl) rfl #[.slice Ao41 y371.length co41] rfl (by (try simp only [List.map_toArray, List.map_cons, List.map_nil]); first | done | rfl | (simp only [List.length_drop, List.length_take]; rfl)) ?_; (with_reducible refine (zilog_words.calls (fun k_ => some k_ = (.slice Ao41 y371.length co41 : Value).ownBlock) (.slice Ao41 y371.length co41) y371 t374 w _ ?side1 ?side2 A38.out (by first | exact hT | exact tabs_below hT (by repeat (first | (with_reducible first | exact HB.out | apply below_alloc | apply pw_below_drewN | apply below_drew1) | exact HB.out)) | (repeat (first | exact hT | apply tabs_alloc | apply tabs_drewN | apply tabs_drew)))).mono ?_); (case side1 => repeat (first | (with_reducible first | exact HB.out | apply below_alloc | apply pw_below_drewN | apply below_drew1) | exact HB.out)); (case side2 => exact Kd.R_tight rfl HO373.out); rintro e w42 ⟨v375, rfl, ho0, hb, hkp⟩; refine ⟨_, rfl, ?_⟩; have n0_ := Aside0.mk (Kd.R_mono (ok' := fun k_ => True) ho0 (fun k_ hk_ => trivial)); have n1_ := Aside0.mk (hb); clear HB; clear HO373; have HO376 := n0_; have HB := n1_; clear n0_ n1_; (try clear hb); (try clear hkp); (try clear ho0)))
                                go_ret
                                exact ⟨_, by first | rfl | (simp [errW_none, errW_some] <;> rfl) | (simp [*, errW_none, errW_some] <;> rfl), by (with_reducible repeat (first | apply Kd.R_alloc | apply Kd.R_drewN | apply Kd.R_drew)); exact HO376.out, by repeat (first | (with_reducible first | exact HB.out | apply below_alloc | apply pw_below_drewN | apply below_drew1) | exact HB.out)⟩
                              · replace c37 := Bool.eq_false_iff.mpr c37
                                subst c37
                                have H1 : (if a0.toList = ([88, 82, 65] : List UInt8) then (zilog_sums.j5 kj34 a1 a0 (a0.toList == ([88, 82, 65] : List UInt8))) else (zilog_sums.j5 kj34 a1 a0 (a0.toList == ([88, 82, 73] : List UInt8)))) = some r := by rw [if_neg (show ¬ (false = true) by decide)] at H; exact H
                                clear H
                                have H := H1
                                clear H1
                                have HC43 := Aside0.mk H
                                clear H
                                go_upto_if 36 with (fail)
                                go_cut [36] (fun v36 wc => ∃ (kq : Nat) (x36_42 : Bool), v36 = .bool x36_42 ∧ Aside0 (zilog_sums.j5 kq a1 a0 x36_42 = some r) ∧ Aside0 (kq ≤ kj34) ∧ Aside0 (Below w.heap.size w wc))
                                case first =>
                                  have H := HC43.out
                                  clear HC43
                                  by_cases c44 : a0.toList = ([88, 82, 65] : List UInt8)
                                  · rw [if_pos c44] at H
                                    have c44b0 : (a0.toList == ([88, 82, 65] : List UInt8)) = true := beq_iff_eq.mpr c44
                                    have c44b1 : (a0.toList != ([88, 82, 65] : List UInt8)) = false := bne_eq_false_iff_eq.mpr c44
                                    clear c44
                                    (first | rw [c44b0] | (simp only [i64_w, i32_w]; rw [c44b0]) | skip)
                                    have H' := Aside0.mk H
                                    clear H
                                    go_wp2
                                    go_meet
                                    case rel => exact ⟨_, ((a0.toList == ([88, 82, 65] : List UInt8))), (by first | rfl | (simp; done) | (simp [*]; done)), H', ⟨by have := HJ2.out; have := HJ10.out; have := HJ18.out; have := HJ26.out; have := HJ34.out; first | omega | exact Nat.le_refl _⟩, ⟨by repeat (first | (with_reducible first | exact HB.out | apply below_alloc | apply pw_below_drewN | apply below_drew1) | exact HB.out)⟩⟩
                                  · rw [if_neg c44] at H
                                    have c44b0 : (a0.toList == ([88, 82, 65] : List UInt8)) = false := beq_eq_false_iff_ne.mpr c44
                                    have c44b1 : (a0.toList != ([88, 82, 65] : List UInt8)) = true := bne_iff_ne.mpr c44
                                    (first | rw [c44b0] | (simp only [i64_w, i32_w]; rw [c44b0]) | skip)
                                    have H' := Aside0.mk H
                                    clear H
                                    go_wp2
                                    go_meet
                                    case rel => exact ⟨_, ((a0.toList == ([88, 82, 73] : List UInt8))), (by first | rfl | (simp; done) | (simp [*]; done)), H', ⟨by have := HJ2.out; have := HJ10.out; have := HJ18.out; have := HJ26.out; have := HJ34.out; first | omega | exact Nat.le_refl _⟩, ⟨by repeat (first | (with_reducible first | exact HB.out | apply below_alloc | apply pw_below_drewN | apply below_drew1) | exact HB.out)⟩⟩
                                case rest =>
                                  clear HC43
                                  try clear c1
                                  try clear c2
                                  try clear p2
                                  try clear c3
                                  try clear c4
                                  try clear c4b0
                                  try clear c4b1
                                  try clear c5
                                  try clear c12
                                  try clear c12b0
                                  try clear c12b1
                                  try clear c13
                                  try clear c20
                                  try clear c20b0
                                  try clear c20b1
                                  try clear c21
                                  try clear c28
                                  try clear c28b0
                                  try clear c28b1
                                  try clear c29
                                  try clear c33
                                  try clear c35
                                  try clear c36
                                  try clear c36b0
                                  try clear c36b1
                                  try clear c37
                                  try clear c44
                                  try clear c44b0
                                  try clear c44b1
                                  try clear p2
                                  obtain ⟨kq, x36_42, rfl, HA, HJ42, HB⟩ := hcut
                                  cases kq with
                                  | zero => exact absurd HA.out (by simp [zilog_sums.j5])
                                  | succ kj42 =>
                                    have H := HA.out
                                    clear HA
                                    simp only [zilog_sums.j5] at H
                                    by_cases c45 : x36_42 = true
                                    · subst c45
                                      have H1 : ((zilog_words.f (([(⟨#[88, 79, 82]⟩ : ByteArray), a1] : List ByteArray))).bind fun t380 => (some t380)) = some r := by rw [if_pos rfl] at H; exact H
                                      clear H
                                      have H := H1
                                      clear H1
                                      obtain ⟨y377, hy377⟩ : ∃ y_ : List ByteArray, y_ = (([(⟨#[88, 79, 82]⟩ : ByteArray), a1] : List ByteArray)) := ⟨_, rfl⟩
                                      replace H : ((zilog_words.f y377).bind fun t380 => (some t380)) = some r := by first | (rw [hy377]; with_reducible exact H) | (have H2_ := (Option.bind_some _ _).symm.trans H; rw [hy377]; with_reducible exact H2_) | (have H2_ := (Option.bind_some _ _).symm.trans H; with_reducible exact H2_) | with_reducible exact H | (rw [hy377]; exact H) | exact H
                                      have Ny377 := Aside0.mk hy377
                                      clear hy377
                                      replace H := Option.bind_eq_some_iff.mp H
                                      obtain ⟨t380, A460, H⟩ := H
                                      replace H : (some t380) = some r := H
                                      have A46 := Aside0.mk A460
                                      clear A460
                                      obtain rfl := Option.some.inj H
                                      go_wp2_with (first | ((with_reducible refine gate_dst (N := 40) rfl ?_); refine Kd.R_lit Kd.string _ 9 ?hg (N := 40) ?hd (xs := ([(⟨#[88, 79, 82]⟩ : ByteArray), a1] : List ByteArray)) (inner := [.string (⟨#[88, 79, 82]⟩ : ByteArray), .string a1]) (ok := fun _ => True) (okp := fun _ => True) ?hr ?hp (fun _ hk => hk) trivial (Below.refl _ _) (Nat.le_refl _) (by simp) ?_; (case hd => rfl); (case hg => rfl); (case hr => first | (go_simp; done) | (go_simp; rfl)); (case hp => exact (Reps.one (show Kd.M Kd.string _ _ _ (⟨#[88, 79, 82]⟩ : ByteArray) [.string (⟨#[88, 79, 82]⟩ : ByteArray)] from rfl) (Reps.one (show Kd.M Kd.string _ _ _ a1 [.string a1] from rfl) (Reps.none _ _)))); intro v378 w47 ho48 hb hg_ hnew_; clear hg_ hnew_; (first | rw [← Ny377.out] at ho48 | (simp only [Int.reduceToNat] at ho48; rw [← Ny377.out] at ho48)); have n0_ := Aside0.mk (Kd.R_lower ho48 (below_size (by repeat (first | (with_reducible first | exact HB.out | apply below_alloc | apply pw_below_drewN | apply below_drew1) | exact HB.out)))); have n1_ := Aside0.mk (below_step (by repeat (first | (with_reducible first | exact HB.out | apply below_alloc | apply pw_below_drewN | apply below_drew1) | exact HB.out)) hb); clear HB; have HO379 := n0_; have HB := n1_; clear n0_ n1_; clear hb ho48; obtain ⟨Ao49, co49, eo49⟩ := Kd.R_slice HO379.out; subst eo49) | ((with_reducible refine gate_callee (f := 33) rfl ?_); refine goesL_ (some 41) rfl rfl Tryd.func33 (by kernel_rfl) rfl #[.slice Ao49 y377.length co49] rfl (by (try simp only [List.map_toArray, List.map_cons, List.map_nil]); first | done | rfl | (simp only [List.length_drop, List.length_take]; rfl)) ?_; (with_reducible refine (zilog_words.calls (fun k_ => some k_ = (.slice Ao49 y377.length co49 : Value).ownBlock) (.slice Ao49 y377.length co49) y377 t380 w _ ?side1 ?side2 A46.out (by first | exact hT | exact tabs_below hT (by repeat (first | (with_reducible first | exact HB.out | apply below_alloc | apply pw_below_drewN | apply below_drew1) | exact HB.out)) | (repeat (first | exact hT | apply tabs_alloc | apply tabs_drewN | apply tabs_drew)))).mono ?_); (case side1 => repeat (first | (with_reducible first | exact HB.out | apply below_alloc | apply pw_below_drewN | apply below_drew1) | exact HB.out)); (case side2 => exact Kd.R_tight rfl HO379.out); rintro e w50 ⟨v381, rfl, ho0, hb, hkp⟩; refine ⟨_, rfl, ?_⟩; have n0_ := Aside0.mk (Kd.R_mono (ok' := fun k_ => True) ho0 (fun k_ hk_ => trivial)); have n1_ := Aside0.mk (hb); clear HB; clear HO379; have HO382 := n0_; have HB := n1_; clear n0_ n1_; (try clear hb); (try clear hkp); (try clear ho0)))
                                      go_ret
                                      exact ⟨_, by first | rfl | (simp [errW_none, errW_some] <;> rfl) | (simp [*, errW_none, errW_some] <;> rfl), by (with_reducible repeat (first | apply Kd.R_alloc | apply Kd.R_drewN | apply Kd.R_drew)); exact HO382.out, by repeat (first | (with_reducible first | exact HB.out | apply below_alloc | apply pw_below_drewN | apply below_drew1) | exact HB.out)⟩
                                    · replace c45 := Bool.eq_false_iff.mpr c45
                                      subst c45
                                      have H1 : (if a0.toList = ([79, 82, 65] : List UInt8) then (zilog_sums.j6 kj42 a1 (a0.toList == ([79, 82, 65] : List UInt8))) else (zilog_sums.j6 kj42 a1 (a0.toList == ([79, 82, 73] : List UInt8)))) = some r := by rw [if_neg (show ¬ (false = true) by decide)] at H; exact H
                                      clear H
                                      have H := H1
                                      clear H1
                                      have HC51 := Aside0.mk H
                                      clear H
                                      go_upto_if 42 with (fail)
                                      go_cut [42] (fun v42 wc => ∃ (kq : Nat) (x42_50 : Bool), v42 = .bool x42_50 ∧ Aside0 (zilog_sums.j6 kq a1 x42_50 = some r) ∧ Aside0 (kq ≤ kj42) ∧ Aside0 (Below w.heap.size w wc))
                                      case first =>
                                        have H := HC51.out
                                        clear HC51
                                        by_cases c52 : a0.toList = ([79, 82, 65] : List UInt8)
                                        · rw [if_pos c52] at H
                                          have c52b0 : (a0.toList == ([79, 82, 65] : List UInt8)) = true := beq_iff_eq.mpr c52
                                          have c52b1 : (a0.toList != ([79, 82, 65] : List UInt8)) = false := bne_eq_false_iff_eq.mpr c52
                                          clear c52
                                          (first | rw [c52b0] | (simp only [i64_w, i32_w]; rw [c52b0]) | skip)
                                          have H' := Aside0.mk H
                                          clear H
                                          go_wp2
                                          go_meet
                                          case rel => exact ⟨_, ((a0.toList == ([79, 82, 65] : List UInt8))), (by first | rfl | (simp; done) | (simp [*]; done)), H', ⟨by have := HJ2.out; have := HJ10.out; have := HJ18.out; have := HJ26.out; have := HJ34.out; have := HJ42.out; first | omega | exact Nat.le_refl _⟩, ⟨by repeat (first | (with_reducible first | exact HB.out | apply below_alloc | apply pw_below_drewN | apply below_drew1) | exact HB.out)⟩⟩
                                        · rw [if_neg c52] at H
                                          have c52b0 : (a0.toList == ([79, 82, 65] : List UInt8)) = false := beq_eq_false_iff_ne.mpr c52
                                          have c52b1 : (a0.toList != ([79, 82, 65] : List UInt8)) = true := bne_iff_ne.mpr c52
                                          (first | rw [c52b0] | (simp only [i64_w, i32_w]; rw [c52b0]) | skip)
                                          have H' := Aside0.mk H
                                          clear H
                                          go_wp2
                                          go_meet
                                          case rel => exact ⟨_, ((a0.toList == ([79, 82, 73] : List UInt8))), (by first | rfl | (simp; done) | (simp [*]; done)), H', ⟨by have := HJ2.out; have := HJ10.out; have := HJ18.out; have := HJ26.out; have := HJ34.out; have := HJ42.out; first | omega | exact Nat.le_refl _⟩, ⟨by repeat (first | (with_reducible first | exact HB.out | apply below_alloc | apply pw_below_drewN | apply below_drew1) | exact HB.out)⟩⟩
                                      case rest =>
                                        clear HC51
                                        try clear c1
                                        try clear c2
                                        try clear p2
                                        try clear c3
                                        try clear c4
                                        try clear c4b0
                                        try clear c4b1
                                        try clear c5
                                        try clear c12
                                        try clear c12b0
                                        try clear c12b1
                                        try clear c13
                                        try clear c20
                                        try clear c20b0
                                        try clear c20b1
                                        try clear c21
                                        try clear c28
                                        try clear c28b0
                                        try clear c28b1
                                        try clear c29
                                        try clear c33
                                        try clear c35
                                        try clear c36
                                        try clear c36b0
                                        try clear c36b1
                                        try clear c37
                                        try clear c44
                                        try clear c44b0
                                        try clear c44b1
                                        try clear c45
                                        try clear c52
                                        try clear c52b0
                                        try clear c52b1
                                        try clear p2
                                        obtain ⟨kq, x42_50, rfl, HA, HJ50, HB⟩ := hcut
                                        cases kq with
                                        | zero => exact absurd HA.out (by simp [zilog_sums.j6])
                                        | succ kj50 =>
                                          have H := HA.out
                                          clear HA
                                          simp only [zilog_sums.j6] at H
                                          by_cases c53 : x42_50 = true
                                          · subst c53
                                            have H1 : ((zilog_words.f (([(⟨#[79, 82]⟩ : ByteArray), a1] : List ByteArray))).bind fun t386 => (some t386)) = some r := by rw [if_pos rfl] at H; exact H
                                            clear H
                                            have H := H1
                                            clear H1
                                            obtain ⟨y383, hy383⟩ : ∃ y_ : List ByteArray, y_ = (([(⟨#[79, 82]⟩ : ByteArray), a1] : List ByteArray)) := ⟨_, rfl⟩
                                            replace H : ((zilog_words.f y383).bind fun t386 => (some t386)) = some r := by first | (rw [hy383]; with_reducible exact H) | (have H2_ := (Option.bind_some _ _).symm.trans H; rw [hy383]; with_reducible exact H2_) | (have H2_ := (Option.bind_some _ _).symm.trans H; with_reducible exact H2_) | with_reducible exact H | (rw [hy383]; exact H) | exact H
                                            have Ny383 := Aside0.mk hy383
                                            clear hy383
                                            replace H := Option.bind_eq_some_iff.mp H
                                            obtain ⟨t386, A540, H⟩ := H
                                            replace H : (some t386) = some r := H
                                            have A54 := Aside0.mk A540
                                            clear A540
                                            obtain rfl := Option.some.inj H
                                            go_wp2_with (first | ((with_reducible refine gate_dst (N := 46) rfl ?_); refine Kd.R_lit Kd.string _ 9 ?hg (N := 46) ?hd (xs := ([(⟨#[79, 82]⟩ : ByteArray), a1] : List ByteArray)) (inner := [.string (⟨#[79, 82]⟩ : ByteArray), .string a1]) (ok := fun _ => True) (okp := fun _ => True) ?hr ?hp (fun _ hk => hk) trivial (Below.refl _ _) (Nat.le_refl _) (by simp) ?_; (case hd => rfl); (case hg => rfl); (case hr => first | (go_simp; done) | (go_simp; rfl)); (case hp => exact (Reps.one (show Kd.M Kd.string _ _ _ (⟨#[79, 82]⟩ : ByteArray) [.string (⟨#[79, 82]⟩ : ByteArray)] from rfl) (Reps.one (show Kd.M Kd.string _ _ _ a1 [.string a1] from rfl) (Reps.none _ _)))); intro v384 w55 ho56 hb hg_ hnew_; clear hg_ hnew_; (first | rw [← Ny383.out] at ho56 | (simp only [Int.reduceToNat] at ho56; rw [← Ny383.out] at ho56)); have n0_ := Aside0.mk (Kd.R_lower ho56 (below_size (by repeat (first | (with_reducible first | exact HB.out | apply below_alloc | apply pw_below_drewN | apply below_drew1) | exact HB.out)))); have n1_ := Aside0.mk (below_step (by repeat (first | (with_reducible first | exact HB.out | apply below_alloc | apply pw_below_drewN | apply below_drew1) | exact HB.out)) hb); clear HB; have HO385 := n0_; have HB := n1_; clear n0_ n1_; clear hb ho56; obtain ⟨Ao57, co57, eo57⟩ := Kd.R_slice HO385.out; subst eo57) | ((with_reducible refine gate_callee (f := 33) rfl ?_); refine goesL_ (some 47) rfl rfl Tryd.func33 (by kernel_rfl) rfl #[.slice Ao57 y383.length co57] rfl (by (try simp only [List.map_toArray, List.map_cons, List.map_nil]); first | done | rfl | (simp only [List.length_drop, List.length_take]; rfl)) ?_; (with_reducible refine (zilog_words.calls (fun k_ => some k_ = (.slice Ao57 y383.length co57 : Value).ownBlock) (.slice Ao57 y383.length co57) y383 t386 w _ ?side1 ?side2 A54.out (by first | exact hT | exact tabs_below hT (by repeat (first | (with_reducible first | exact HB.out | apply below_alloc | apply pw_below_drewN | apply below_drew1) | exact HB.out)) | (repeat (first | exact hT | apply tabs_alloc | apply tabs_drewN | apply tabs_drew)))).mono ?_); (case side1 => repeat (first | (with_reducible first | exact HB.out | apply below_alloc | apply pw_below_drewN | apply below_drew1) | exact HB.out)); (case side2 => exact Kd.R_tight rfl HO385.out); rintro e w58 ⟨v387, rfl, ho0, hb, hkp⟩; refine ⟨_, rfl, ?_⟩; have n0_ := Aside0.mk (Kd.R_mono (ok' := fun k_ => True) ho0 (fun k_ hk_ => trivial)); have n1_ := Aside0.mk (hb); clear HB; clear HO385; have HO388 := n0_; have HB := n1_; clear n0_ n1_; (try clear hb); (try clear hkp); (try clear ho0)))
                                            go_ret
                                            exact ⟨_, by first | rfl | (simp [errW_none, errW_some] <;> rfl) | (simp [*, errW_none, errW_some] <;> rfl), by (with_reducible repeat (first | apply Kd.R_alloc | apply Kd.R_drewN | apply Kd.R_drew)); exact HO388.out, by repeat (first | (with_reducible first | exact HB.out | apply below_alloc | apply pw_below_drewN | apply below_drew1) | exact HB.out)⟩
                                          · replace c53 := Bool.eq_false_iff.mpr c53
                                            subst c53
                                            have H1 : ((zilog_words.f (([(⟨#[67, 80]⟩ : ByteArray), a1] : List ByteArray))).bind fun t392 => (some t392)) = some r := by rw [if_neg (show ¬ (false = true) by decide)] at H; exact H
                                            clear H
                                            have H := H1
                                            clear H1
                                            obtain ⟨y389, hy389⟩ : ∃ y_ : List ByteArray, y_ = (([(⟨#[67, 80]⟩ : ByteArray), a1] : List ByteArray)) := ⟨_, rfl⟩
                                            replace H : ((zilog_words.f y389).bind fun t392 => (some t392)) = some r := by first | (rw [hy389]; with_reducible exact H) | (have H2_ := (Option.bind_some _ _).symm.trans H; rw [hy389]; with_reducible exact H2_) | (have H2_ := (Option.bind_some _ _).symm.trans H; with_reducible exact H2_) | with_reducible exact H | (rw [hy389]; exact H) | exact H
                                            have Ny389 := Aside0.mk hy389
                                            clear hy389
                                            replace H := Option.bind_eq_some_iff.mp H
                                            obtain ⟨t392, A590, H⟩ := H
                                            replace H : (some t392) = some r := H
                                            have A59 := Aside0.mk A590
                                            clear A590
                                            obtain rfl := Option.some.inj H
                                            go_wp2_with (first | ((with_reducible refine gate_dst (N := 49) rfl ?_); refine Kd.R_lit Kd.string _ 9 ?hg (N := 49) ?hd (xs := ([(⟨#[67, 80]⟩ : ByteArray), a1] : List ByteArray)) (inner := [.string (⟨#[67, 80]⟩ : ByteArray), .string a1]) (ok := fun _ => True) (okp := fun _ => True) ?hr ?hp (fun _ hk => hk) trivial (Below.refl _ _) (Nat.le_refl _) (by simp) ?_; (case hd => rfl); (case hg => rfl); (case hr => first | (go_simp; done) | (go_simp; rfl)); (case hp => exact (Reps.one (show Kd.M Kd.string _ _ _ (⟨#[67, 80]⟩ : ByteArray) [.string (⟨#[67, 80]⟩ : ByteArray)] from rfl) (Reps.one (show Kd.M Kd.string _ _ _ a1 [.string a1] from rfl) (Reps.none _ _)))); intro v390 w60 ho61 hb hg_ hnew_; clear hg_ hnew_; (first | rw [← Ny389.out] at ho61 | (simp only [Int.reduceToNat] at ho61; rw [← Ny389.out] at ho61)); have n0_ := Aside0.mk (Kd.R_lower ho61 (below_size (by repeat (first | (with_reducible first | exact HB.out | apply below_alloc | apply pw_below_drewN | apply below_drew1) | exact HB.out)))); have n1_ := Aside0.mk (below_step (by repeat (first | (with_reducible first | exact HB.out | apply below_alloc | apply pw_below_drewN | apply below_drew1) | exact HB.out)) hb); clear HB; have HO391 := n0_; have HB := n1_; clear n0_ n1_; clear hb ho61; obtain ⟨Ao62, co62, eo62⟩ := Kd.R_slice HO391.out; subst eo62) | ((with_reducible refine gate_callee (f := 33) rfl ?_); refine goesL_ (some 50) rfl rfl Tryd.func33 (by kernel_rfl) rfl #[.slice Ao62 y389.length co62] rfl (by (try simp only [List.map_toArray, List.map_cons, List.map_nil]); first | done | rfl | (simp only [List.length_drop, List.length_take]; rfl)) ?_; (with_reducible refine (zilog_words.calls (fun k_ => some k_ = (.slice Ao62 y389.length co62 : Value).ownBlock) (.slice Ao62 y389.length co62) y389 t392 w _ ?side1 ?side2 A59.out (by first | exact hT | exact tabs_below hT (by repeat (first | (with_reducible first | exact HB.out | apply below_alloc | apply pw_below_drewN | apply below_drew1) | exact HB.out)) | (repeat (first | exact hT | apply tabs_alloc | apply tabs_drewN | apply tabs_drew)))).mono ?_); (case side1 => repeat (first | (with_reducible first | exact HB.out | apply below_alloc | apply pw_below_drewN | apply below_drew1) | exact HB.out)); (case side2 => exact Kd.R_tight rfl HO391.out); rintro e w63 ⟨v393, rfl, ho0, hb, hkp⟩; refine ⟨_, rfl, ?_⟩; have n0_ := Aside0.mk (Kd.R_mono (ok' := fun k_ => True) ho0 (fun k_ hk_ => trivial)); have n1_ := Aside0.mk (hb); clear HB; clear HO391; have HO394 := n0_; have HB := n1_; clear n0_ n1_; (try clear hb); (try clear hkp); (try clear ho0)))
                                            go_ret
                                            exact ⟨_, by first | rfl | (simp [errW_none, errW_some] <;> rfl) | (simp [*, errW_none, errW_some] <;> rfl), by (with_reducible repeat (first | apply Kd.R_alloc | apply Kd.R_drewN | apply Kd.R_drew)); exact HO394.out, by repeat (first | (with_reducible first | exact HB.out | apply below_alloc | apply pw_below_drewN | apply below_drew1) | exact HB.out)⟩

/-! ### zilog_arg: function 36 -/
def zilog_arg.f (a0 : ByteArray) : Option (ByteArray) := if a0.toList = ([77] : List UInt8) then (some (⟨#[40, 72, 76, 41]⟩ : ByteArray)) else (if a0.toList = ([100, 56] : List UInt8) then (some (⟨#[110]⟩ : ByteArray)) else (if a0.toList = ([100, 49, 54] : List UInt8) then (some (⟨#[110, 110]⟩ : ByteArray)) else (some a0)))
set_option maxHeartbeats 8000000 in
set_option maxRecDepth 100000 in
theorem zilog_arg.calls (a0 : ByteArray) (r : ByteArray) (w : World) (h : zilog_arg.f a0 = some r) (hT : Tabs w) :
    Calls Tryd.prog 36 #[.string a0] w fun e w' => e = .returned (.string r) ∧ Drawn0 w w' := by
  have H : (if a0.toList = ([77] : List UInt8) then (some (⟨#[40, 72, 76, 41]⟩ : ByteArray)) else (if a0.toList = ([100, 56] : List UInt8) then (some (⟨#[110]⟩ : ByteArray)) else (if a0.toList = ([100, 49, 54] : List UInt8) then (some (⟨#[110, 110]⟩ : ByteArray)) else (some a0)))) = some r := h
  clear h
  by_cases c2 : a0.toList = ([77] : List UInt8)
  · rw [if_pos c2] at H
    have c2b0 : (a0.toList == ([77] : List UInt8)) = true := beq_iff_eq.mpr c2
    have c2b1 : (a0.toList != ([77] : List UInt8)) = false := bne_eq_false_iff_eq.mpr c2
    clear c2
    obtain rfl := Option.some.inj H
    go_enter Tryd.func36, Tryd.ntmps36
    go_wp2
    go_ret
    exact ⟨by first | rfl | (simp; done) | (simp [*]; done), by repeat (first | exact Drawn0.refl _ | apply Drawn0.step)⟩
  · rw [if_neg c2] at H
    have c2b0 : (a0.toList == ([77] : List UInt8)) = false := beq_eq_false_iff_ne.mpr c2
    have c2b1 : (a0.toList != ([77] : List UInt8)) = true := bne_iff_ne.mpr c2
    by_cases c3 : a0.toList = ([100, 56] : List UInt8)
    · rw [if_pos c3] at H
      have c3b0 : (a0.toList == ([100, 56] : List UInt8)) = true := beq_iff_eq.mpr c3
      have c3b1 : (a0.toList != ([100, 56] : List UInt8)) = false := bne_eq_false_iff_eq.mpr c3
      clear c3
      obtain rfl := Option.some.inj H
      go_enter Tryd.func36, Tryd.ntmps36
      go_wp2
      go_ret
      exact ⟨by first | rfl | (simp; done) | (simp [*]; done), by repeat (first | exact Drawn0.refl _ | apply Drawn0.step)⟩
    · rw [if_neg c3] at H
      have c3b0 : (a0.toList == ([100, 56] : List UInt8)) = false := beq_eq_false_iff_ne.mpr c3
      have c3b1 : (a0.toList != ([100, 56] : List UInt8)) = true := bne_iff_ne.mpr c3
      by_cases c4 : a0.toList = ([100, 49, 54] : List UInt8)
      · rw [if_pos c4] at H
        have c4b0 : (a0.toList == ([100, 49, 54] : List UInt8)) = true := beq_iff_eq.mpr c4
        have c4b1 : (a0.toList != ([100, 49, 54] : List UInt8)) = false := bne_eq_false_iff_eq.mpr c4
        clear c4
        obtain rfl := Option.some.inj H
        go_enter Tryd.func36, Tryd.ntmps36
        go_wp2
        go_ret
        exact ⟨by first | rfl | (simp; done) | (simp [*]; done), by repeat (first | exact Drawn0.refl _ | apply Drawn0.step)⟩
      · rw [if_neg c4] at H
        have c4b0 : (a0.toList == ([100, 49, 54] : List UInt8)) = false := beq_eq_false_iff_ne.mpr c4
        have c4b1 : (a0.toList != ([100, 49, 54] : List UInt8)) = true := bne_iff_ne.mpr c4
        obtain rfl := Option.some.inj H
        go_enter Tryd.func36, Tryd.ntmps36
        go_wp2
        go_ret
        exact ⟨by first | rfl | (simp; done) | (simp [*]; done), by repeat (first | exact Drawn0.refl _ | apply Drawn0.step)⟩

end Go.Proofs.YtldmnenomcipcaaDoor.G

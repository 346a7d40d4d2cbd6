/- Written by a program of ours (wip/tools/gprint.py) over the kit's print: contracts of the program's functions, each as a plain function. -/
import Derived.Test.YtldmnenomcipcaaDoorG0
namespace Go.Proofs.YtldmnenomcipcaaDoor.G
open Go.RowKit Go.Proofs.YtldmnenomcipcaaDoorW.PrintWords Go.Proofs.YtldmnenomcipcaaDoorW.PrintLast Go.Proofs.YtldmnenomcipcaaDoorW.PrintMore
attribute [local go_sem] max2_int min2_int max_two min_two max_three min_three max_four min_four   -- for this text's walks alone
set_option linter.unusedVariables false
set_option linter.unusedSimpArgs false

/-! ### isa80_form: function 46 -/
def isa80_form.f (l0 : List ByteArray) : Option (List ByteArray) := some l0
set_option maxHeartbeats 8000000 in
set_option maxRecDepth 100000 in
theorem isa80_form.calls (P0_ : Nat → Prop) (u9000_ : Value) (l0 : List ByteArray) (r : List ByteArray) (w0 w : World) (hB : Below w0.heap.size w0 w) (ho0 : Kd.R Kd.string 9 w w0.heap.size P0_ u9000_ l0) (h : isa80_form.f l0 = some r) (hT : Tabs w0) :
    Calls Tryd.prog 46 #[u9000_] w fun e w' => ∃ v0_ : Value, e = .returned (v0_) ∧ Kd.R Kd.string 9 w' w0.heap.size (fun k_ => (P0_ k_ ∨ w.heap.size ≤ k_)) v0_ r ∧ Below w0.heap.size w0 w' ∧ Kept w w' (fun k_ => P0_ k_) := by
  have HO0 := Aside0.mk (show Kd.R Kd.string 9 w w0.heap.size (fun k_ => (P0_ k_ ∨ w.heap.size ≤ k_)) u9000_ l0 from Kd.R_mono ho0 (fun k_ hk => (.inl hk)))
  have HK := Aside0.mk (Kept.refl w (fun k_ => P0_ k_))
  have HW0 := Aside0.mk hB.size
  have HB := Aside0.mk hB
  clear hB
  have H : (some l0) = some r := h
  clear h
  obtain rfl := Option.some.inj H
  go_enter Tryd.func46, Tryd.ntmps46
  go_wp2
  go_ret
  exact ⟨_, by first | rfl | (simp [errW_none, errW_some] <;> rfl) | (simp [*, errW_none, errW_some] <;> rfl), by (with_reducible repeat (first | apply Kd.R_alloc | apply Kd.R_drewN | apply Kd.R_drew)); exact HO0.out, by repeat (first | (with_reducible first | exact HB.out | apply below_alloc | apply pw_below_drewN | apply below_drew1) | exact HB.out), by repeat (first | (with_reducible first | exact HK.out | apply Kept.alloc | apply Kept.drewN | apply Kept.drew) | exact HK.out)⟩

/-! ### isa80_pick: function 48 -/
def isa80_pick.f (a0 : Int) (l1 : List ByteArray) : Option (ByteArray) := if 0 ≤ a0 then (if a0 < (l1.length : Int) then (some (rdOf ByteArray.empty l1 a0)) else (none)) else (none)
set_option maxHeartbeats 8000000 in
set_option maxRecDepth 100000 in
theorem isa80_pick.calls (a0 : Int) (A1 : Option Addr) (c1 : Nat) (l1 : List ByteArray) (r : ByteArray) (w : World) (hr1 : Kd.C Kd.string w A1 l1.length l1) (hc1 : l1.length ≤ c1) (h : isa80_pick.f a0 l1 = some r) (hT : Tabs w) :
    Calls Tryd.prog 48 #[.int .u8 a0, .slice A1 l1.length c1] w fun e w' => e = .returned (.string r) ∧ Drawn0 w w' := by
  have HR1 := Aside0.mk hr1
  have HC1 := Aside0.mk hc1
  clear hr1 hc1
  have H : (if 0 ≤ a0 then (if a0 < (l1.length : Int) then (some (rdOf ByteArray.empty l1 a0)) else (none)) else (none)) = some r := h
  clear h
  by_cases c3 : 0 ≤ a0
  · rw [if_pos c3] at H
    have c3b0 : decide (0 ≤ a0) = true := decide_eq_true c3
    clear c3
    by_cases c4 : a0 < (l1.length : Int)
    · rw [if_pos c4] at H
      have c4b0 : decide (a0 < (l1.length : Int)) = true := decide_eq_true c4
      clear c4
      obtain rfl := Option.some.inj H
      have p101 : 0 ≤ (a0 : Int) := of_decide_eq_true (by first | (with_reducible assumption) | assumption)
      have q101 : a0 < (l1.length : Int) := of_decide_eq_true (by first | (with_reducible assumption) | assumption)
      obtain ⟨ad101, e101, hx101_0⟩ := Kd.at_string HR1.out a0 p101 q101
      cases e101
      replace p101 := eq_true p101
      replace q101 := eq_true q101
      go_enter Tryd.func48, Tryd.ntmps48
      go_wp2
      go_ret
      exact ⟨by first | rfl | (simp; done) | (simp [*]; done), by repeat (first | exact Drawn0.refl _ | apply Drawn0.step)⟩
    · rw [if_neg c4] at H
      exact absurd H (by simp)
  · rw [if_neg c3] at H
    exact absurd H (by simp)

/-! ### isa80_reg: function 47 -/
def isa80_reg.f (a0 : Int) : Option (ByteArray) := (isa80_pick.f (Go.bits .and .u8 a0 7) (([(⟨#[66]⟩ : ByteArray), (⟨#[67]⟩ : ByteArray), (⟨#[68]⟩ : ByteArray), (⟨#[69]⟩ : ByteArray), (⟨#[72]⟩ : ByteArray), (⟨#[76]⟩ : ByteArray), (⟨#[77]⟩ : ByteArray), (⟨#[65]⟩ : ByteArray)] : List ByteArray))).bind fun t105 => (some t105)
set_option maxHeartbeats 8000000 in
set_option maxRecDepth 100000 in
theorem isa80_reg.calls (a0 : Int) (r : ByteArray) (w : World) (h : isa80_reg.f a0 = some r) (hT : Tabs w) :
    Calls Tryd.prog 47 #[.int .u8 a0] w fun e w' => e = .returned (.string r) ∧ Below w.heap.size w w' := by
  have HB := Aside0.mk (Below.refl w.heap.size w)
  have H : ((isa80_pick.f (Go.bits .and .u8 a0 7) (([(⟨#[66]⟩ : ByteArray), (⟨#[67]⟩ : ByteArray), (⟨#[68]⟩ : ByteArray), (⟨#[69]⟩ : ByteArray), (⟨#[72]⟩ : ByteArray), (⟨#[76]⟩ : ByteArray), (⟨#[77]⟩ : ByteArray), (⟨#[65]⟩ : ByteArray)] : List ByteArray))).bind fun t105 => (some t105)) = some r := h
  clear h
  obtain ⟨y102, hy102⟩ : ∃ y_ : List ByteArray, y_ = (([(⟨#[66]⟩ : ByteArray), (⟨#[67]⟩ : ByteArray), (⟨#[68]⟩ : ByteArray), (⟨#[69]⟩ : ByteArray), (⟨#[72]⟩ : ByteArray), (⟨#[76]⟩ : ByteArray), (⟨#[77]⟩ : ByteArray), (⟨#[65]⟩ : ByteArray)] : List ByteArray)) := ⟨_, rfl⟩
  replace H : ((isa80_pick.f (Go.bits .and .u8 a0 7) y102).bind fun t105 => (some t105)) = some r := by first | (rw [hy102]; with_reducible exact H) | (have H2_ := (Option.bind_some _ _).symm.trans H; rw [hy102]; with_reducible exact H2_) | (have H2_ := (Option.bind_some _ _).symm.trans H; with_reducible exact H2_) | with_reducible exact H | (rw [hy102]; exact H) | exact H
  have Ny102 := Aside0.mk hy102
  clear hy102
  replace H := Option.bind_eq_some_iff.mp H
  obtain ⟨t105, A20, H⟩ := H
  replace H : (some t105) = some r := H
  have A2 := Aside0.mk A20
  clear A20
  obtain rfl := Option.some.inj H
  go_enter Tryd.func47, Tryd.ntmps47
  go_wp2_with (first | ((with_reducible refine gate_dst (N := 5) rfl ?_); refine Kd.R_lit Kd.string _ 9 ?hg (N := 5) ?hd (xs := ([(⟨#[66]⟩ : ByteArray), (⟨#[67]⟩ : ByteArray), (⟨#[68]⟩ : ByteArray), (⟨#[69]⟩ : ByteArray), (⟨#[72]⟩ : ByteArray), (⟨#[76]⟩ : ByteArray), (⟨#[77]⟩ : ByteArray), (⟨#[65]⟩ : ByteArray)] : List ByteArray)) (inner := [.string (⟨#[66]⟩ : ByteArray), .string (⟨#[67]⟩ : ByteArray), .string (⟨#[68]⟩ : ByteArray), .string (⟨#[69]⟩ : ByteArray), .string (⟨#[72]⟩ : ByteArray), .string (⟨#[76]⟩ : ByteArray), .string (⟨#[77]⟩ : ByteArray), .string (⟨#[65]⟩ : ByteArray)]) (ok := fun _ => True) (okp := fun _ => True) ?hr ?hp (fun _ hk => hk) trivial (Below.refl _ _) (Nat.le_refl _) (by simp) ?_; (case hd => rfl); (case hg => rfl); (case hr => first | (go_simp; done) | (go_simp; rfl)); (case hp => exact (Reps.one (show Kd.M Kd.string _ _ _ (⟨#[66]⟩ : ByteArray) [.string (⟨#[66]⟩ : ByteArray)] from rfl) (Reps.one (show Kd.M Kd.string _ _ _ (⟨#[67]⟩ : ByteArray) [.string (⟨#[67]⟩ : ByteArray)] from rfl) (Reps.one (show Kd.M Kd.string _ _ _ (⟨#[68]⟩ : ByteArray) [.string (⟨#[68]⟩ : ByteArray)] from rfl) (Reps.one (show Kd.M Kd.string _ _ _ (⟨#[69]⟩ : ByteArray) [.string (⟨#[69]⟩ : ByteArray)] from rfl) (Reps.one (show Kd.M Kd.string _ _ _ (⟨#[72]⟩ : ByteArray) [.string (⟨#[72]⟩ : ByteArray)] from rfl) (Reps.one (show Kd.M Kd.string _ _ _ (⟨#[76]⟩ : ByteArray) [.string (⟨#[76]⟩ : ByteArray)] from rfl) (Reps.one (show Kd.M Kd.string _ _ _ (⟨#[77]⟩ : ByteArray) [.string (⟨#[77]⟩ : ByteArray)] from rfl) (Reps.one (show Kd.M Kd.string _ _ _ (⟨#[65]⟩ : ByteArray) [.string (⟨#[65]⟩ : ByteArray)] from rfl) (Reps.none _ _)))))))))); intro v103 w3 ho4 hb hg_ hnew_; clear hg_ hnew_; (first | rw [← Ny102.out] at ho4 | (simp only [Int.reduceToNat] at ho4; rw [← Ny102.out] at ho4)); have n0_ := Aside0.mk (Kd.R_lower ho4 (below_size (by repeat (first | (with_reducible first | exact HB.out | apply below_alloc | apply pw_below_drewN | apply below_drew1) | exact HB.out)))); have n1_ := Aside0.mk (below_step (by repeat (first | (with_reducible first | exact HB.out | apply below_alloc | apply pw_below_drewN | apply below_drew1) | exact HB.out)) hb); clear HB; have HO104 := n0_; have HB := n1_; clear n0_ n1_; clear hb ho4; obtain ⟨Ao5, co5, eo5⟩ := Kd.R_slice HO104.out; subst eo5) | ((with_reducible refine gate_callee (f := 48) rfl ?_); refine goesL_ (some 6) rfl rfl Tryd.func48 (by kernel_rfl) rfl #[.int .u8 (Go.bits .and .u8 a0 7), .slice Ao5 y102.length co5] rfl (by (try simp only [List.map_toArray, List.map_cons, List.map_nil]); first | done | rfl | (simp only [List.length_drop, List.length_take]; rfl)) ?_; (with_reducible refine (isa80_pick.calls (Go.bits .and .u8 a0 7) _ _ y102 t105 _ ?side1 ?side2 A2.out (by first | exact hT | exact tabs_below hT (by repeat (first | (with_reducible first | exact HB.out | apply below_alloc | apply pw_below_drewN | apply below_drew1) | exact HB.out)) | (repeat (first | exact hT | apply tabs_alloc | apply tabs_drewN | apply tabs_drew)))).mono ?_); (case side1 => repeat (first | exact (Kd.R_reads' HO104.out).2.2 | (with_reducible refine Kd.C_alloc ?_ _) | (with_reducible refine Kd.C_drewN ?_ _) | (with_reducible refine Kd.C_drew ?_))); (case side2 => exact (Kd.R_reads' HO104.out).2.1); rintro e w' ⟨rfl, ⟨nd, rfl⟩⟩; refine ⟨_, rfl, ?_⟩))
  go_ret
  exact ⟨by first | rfl | (simp [errW_none, errW_some] <;> rfl) | (simp [*, errW_none, errW_some] <;> rfl), by repeat (first | (with_reducible first | exact HB.out | apply below_alloc | apply pw_below_drewN | apply below_drew1) | exact HB.out)⟩

/-! ### isa80_pair: function 62 -/
def isa80_pair.f (a0 : Int) : Option (ByteArray) := (isa80_pick.f (Go.bits .and .u8 a0 3) (([(⟨#[66]⟩ : ByteArray), (⟨#[68]⟩ : ByteArray), (⟨#[72]⟩ : ByteArray), (⟨#[83, 80]⟩ : ByteArray)] : List ByteArray))).bind fun t109 => (some t109)
set_option maxHeartbeats 8000000 in
set_option maxRecDepth 100000 in
theorem isa80_pair.calls (a0 : Int) (r : ByteArray) (w : World) (h : isa80_pair.f a0 = some r) (hT : Tabs w) :
    Calls Tryd.prog 62 #[.int .u8 a0] w fun e w' => e = .returned (.string r) ∧ Below w.heap.size w w' := by
  have HB := Aside0.mk (Below.refl w.heap.size w)
  have H : ((isa80_pick.f (Go.bits .and .u8 a0 3) (([(⟨#[66]⟩ : ByteArray), (⟨#[68]⟩ : ByteArray), (⟨#[72]⟩ : ByteArray), (⟨#[83, 80]⟩ : ByteArray)] : List ByteArray))).bind fun t109 => (some t109)) = some r := h
  clear h
  obtain ⟨y106, hy106⟩ : ∃ y_ : List ByteArray, y_ = (([(⟨#[66]⟩ : ByteArray), (⟨#[68]⟩ : ByteArray), (⟨#[72]⟩ : ByteArray), (⟨#[83, 80]⟩ : ByteArray)] : List ByteArray)) := ⟨_, rfl⟩
  replace H : ((isa80_pick.f (Go.bits .and .u8 a0 3) y106).bind fun t109 => (some t109)) = some r := by first | (rw [hy106]; with_reducible exact H) | (have H2_ := (Option.bind_some _ _).symm.trans H; rw [hy106]; with_reducible exact H2_) | (have H2_ := (Option.bind_some _ _).symm.trans H; with_reducible exact H2_) | with_reducible exact H | (rw [hy106]; exact H) | exact H
  have Ny106 := Aside0.mk hy106
  clear hy106
  replace H := Option.bind_eq_some_iff.mp H
  obtain ⟨t109, A20, H⟩ := H
  replace H : (some t109) = some r := H
  have A2 := Aside0.mk A20
  clear A20
  obtain rfl := Option.some.inj H
  go_enter Tryd.func62, Tryd.ntmps62
  go_wp2_with (first | ((with_reducible refine gate_dst (N := 5) rfl ?_); refine Kd.R_lit Kd.string _ 9 ?hg (N := 5) ?hd (xs := ([(⟨#[66]⟩ : ByteArray), (⟨#[68]⟩ : ByteArray), (⟨#[72]⟩ : ByteArray), (⟨#[83, 80]⟩ : ByteArray)] : List ByteArray)) (inner := [.string (⟨#[66]⟩ : ByteArray), .string (⟨#[68]⟩ : ByteArray), .string (⟨#[72]⟩ : ByteArray), .string (⟨#[83, 80]⟩ : ByteArray)]) (ok := fun _ => True) (okp := fun _ => True) ?hr ?hp (fun _ hk => hk) trivial (Below.refl _ _) (Nat.le_refl _) (by simp) ?_; (case hd => rfl); (case hg => rfl); (case hr => first | (go_simp; done) | (go_simp; rfl)); (case hp => exact (Reps.one (show Kd.M Kd.string _ _ _ (⟨#[66]⟩ : ByteArray) [.string (⟨#[66]⟩ : ByteArray)] from rfl) (Reps.one (show Kd.M Kd.string _ _ _ (⟨#[68]⟩ : ByteArray) [.string (⟨#[68]⟩ : ByteArray)] from rfl) (Reps.one (show Kd.M Kd.string _ _ _ (⟨#[72]⟩ : ByteArray) [.string (⟨#[72]⟩ : ByteArray)] from rfl) (Reps.one (show Kd.M Kd.string _ _ _ (⟨#[83, 80]⟩ : ByteArray) [.string (⟨#[83, 80]⟩ : ByteArray)] from rfl) (Reps.none _ _)))))); intro v107 w3 ho4 hb hg_ hnew_; clear hg_ hnew_; (first | rw [← Ny106.out] at ho4 | (simp only [Int.reduceToNat] at ho4; rw [← Ny106.out] at ho4)); have n0_ := Aside0.mk (Kd.R_lower ho4 (below_size (by repeat (first | (with_reducible first | exact HB.out | apply below_alloc | apply pw_below_drewN | apply below_drew1) | exact HB.out)))); have n1_ := Aside0.mk (below_step (by repeat (first | (with_reducible first | exact HB.out | apply below_alloc | apply pw_below_drewN | apply below_drew1) | exact HB.out)) hb); clear HB; have HO108 := n0_; have HB := n1_; clear n0_ n1_; clear hb ho4; obtain ⟨Ao5, co5, eo5⟩ := Kd.R_slice HO108.out; subst eo5) | ((with_reducible refine gate_callee (f := 48) rfl ?_); refine goesL_ (some 6) rfl rfl Tryd.func48 (by kernel_rfl) rfl #[.int .u8 (Go.bits .and .u8 a0 3), .slice Ao5 y106.length co5] rfl (by (try simp only [List.map_toArray, List.map_cons, List.map_nil]); first | done | rfl | (simp only [List.length_drop, List.length_take]; rfl)) ?_; (with_reducible refine (isa80_pick.calls (Go.bits .and .u8 a0 3) _ _ y106 t109 _ ?side1 ?side2 A2.out (by first | exact hT | exact tabs_below hT (by repeat (first | (with_reducible first | exact HB.out | apply below_alloc | apply pw_below_drewN | apply below_drew1) | exact HB.out)) | (repeat (first | exact hT | apply tabs_alloc | apply tabs_drewN | apply tabs_drew)))).mono ?_); (case side1 => repeat (first | exact (Kd.R_reads' HO108.out).2.2 | (with_reducible refine Kd.C_alloc ?_ _) | (with_reducible refine Kd.C_drewN ?_ _) | (with_reducible refine Kd.C_drew ?_))); (case side2 => exact (Kd.R_reads' HO108.out).2.1); rintro e w' ⟨rfl, ⟨nd, rfl⟩⟩; refine ⟨_, rfl, ?_⟩))
  go_ret
  exact ⟨by first | rfl | (simp [errW_none, errW_some] <;> rfl) | (simp [*, errW_none, errW_some] <;> rfl), by repeat (first | (with_reducible first | exact HB.out | apply below_alloc | apply pw_below_drewN | apply below_drew1) | exact HB.out)⟩

/-! ### isa80_low: function 45 -/
mutual
def isa80_low.j0 : Nat → Int → Int → Int → Bool → Option (List ByteArray)
  | 0, _, _, _, _ => none
  | k + 1, x3, x4, x62, x67 => if x67 = true then ((isa80_pair.f x4).bind fun t175 => ((isa80_form.f (([(⟨#[83, 84, 65, 88]⟩ : ByteArray), t175] : List ByteArray))).bind fun t179 => (some t179))) else (if x62 = 10 then (isa80_low.j1 k x3 x4 x62 (x62 == 10)) else (isa80_low.j1 k x3 x4 x62 (x62 == 26)))
def isa80_low.j1 : Nat → Int → Int → Int → Bool → Option (List ByteArray)
  | 0, _, _, _, _ => none
  | k + 1, x3, x4, x62, x74 => if x74 = true then ((isa80_pair.f x4).bind fun t182 => ((isa80_form.f (([(⟨#[76, 68, 65, 88]⟩ : ByteArray), t182] : List ByteArray))).bind fun t186 => (some t186))) else (if x62 = 34 then (isa80_low.j2 k x3 (x62 == 34)) else (if x62 = 42 then (isa80_low.j2 k x3 (x62 == 42)) else (if x62 = 50 then (isa80_low.j2 k x3 (x62 == 50)) else (isa80_low.j2 k x3 (x62 == 58)))))
def isa80_low.j2 : Nat → Int → Bool → Option (List ByteArray)
  | 0, _, _ => none
  | k + 1, x3, x81 => if x81 = true then ((isa80_pick.f (Go.bits .and .u8 x3 3) (([(⟨#[83, 72, 76, 68]⟩ : ByteArray), (⟨#[76, 72, 76, 68]⟩ : ByteArray), (⟨#[83, 84, 65]⟩ : ByteArray), (⟨#[76, 68, 65]⟩ : ByteArray)] : List ByteArray))).bind fun t192 => ((isa80_form.f (([t192, (⟨#[100, 49, 54]⟩ : ByteArray)] : List ByteArray))).bind fun t196 => (some t196))) else (some ([] : List ByteArray))
end
def isa80_low.f (k : Nat) (a0 : Int) : Option (List ByteArray) := if (Go.bits .and .u8 a0 7) = 4 then ((isa80_reg.f (a0 / 8)).bind fun t110 => ((isa80_form.f (([(⟨#[73, 78, 82]⟩ : ByteArray), t110] : List ByteArray))).bind fun t114 => (some t114))) else (if (Go.bits .and .u8 a0 7) = 5 then ((isa80_reg.f (a0 / 8)).bind fun t117 => ((isa80_form.f (([(⟨#[68, 67, 82]⟩ : ByteArray), t117] : List ByteArray))).bind fun t121 => (some t121))) else (if (Go.bits .and .u8 a0 7) = 6 then ((isa80_reg.f (a0 / 8)).bind fun t124 => ((isa80_form.f (([(⟨#[77, 86, 73]⟩ : ByteArray), t124, (⟨#[100, 56]⟩ : ByteArray)] : List ByteArray))).bind fun t128 => (some t128))) else (if (Go.bits .and .u8 a0 7) = 7 then ((isa80_pick.f (a0 / 8) (([(⟨#[82, 76, 67]⟩ : ByteArray), (⟨#[82, 82, 67]⟩ : ByteArray), (⟨#[82, 65, 76]⟩ : ByteArray), (⟨#[82, 65, 82]⟩ : ByteArray), (⟨#[68, 65, 65]⟩ : ByteArray), (⟨#[67, 77, 65]⟩ : ByteArray), (⟨#[83, 84, 67]⟩ : ByteArray), (⟨#[67, 77, 67]⟩ : ByteArray)] : List ByteArray))).bind fun t134 => ((isa80_form.f (([t134] : List ByteArray))).bind fun t138 => (some t138))) else (if (Go.bits .and .u8 a0 15) = 1 then ((isa80_pair.f (a0 / 16)).bind fun t141 => ((isa80_form.f (([(⟨#[76, 88, 73]⟩ : ByteArray), t141, (⟨#[100, 49, 54]⟩ : ByteArray)] : List ByteArray))).bind fun t145 => (some t145))) else (if (Go.bits .and .u8 a0 15) = 3 then ((isa80_pair.f (a0 / 16)).bind fun t148 => ((isa80_form.f (([(⟨#[73, 78, 88]⟩ : ByteArray), t148] : List ByteArray))).bind fun t152 => (some t152))) else (if (Go.bits .and .u8 a0 15) = 9 then ((isa80_pair.f (a0 / 16)).bind fun t155 => ((isa80_form.f (([(⟨#[68, 65, 68]⟩ : ByteArray), t155] : List ByteArray))).bind fun t159 => (some t159))) else (if (Go.bits .and .u8 a0 15) = 11 then ((isa80_pair.f (a0 / 16)).bind fun t162 => ((isa80_form.f (([(⟨#[68, 67, 88]⟩ : ByteArray), t162] : List ByteArray))).bind fun t166 => (some t166))) else (if a0 = 0 then ((isa80_form.f (([(⟨#[78, 79, 80]⟩ : ByteArray)] : List ByteArray))).bind fun t172 => (some t172)) else (if a0 = 2 then (isa80_low.j0 k (a0 / 8) (a0 / 16) a0 (a0 == 2)) else (isa80_low.j0 k (a0 / 8) (a0 / 16) a0 (a0 == 18)))))))))))
theorem isa80_low.mono_l : ∀ k, (∀ y0 y1 y2 y3, LeO (isa80_low.j0 k y0 y1 y2 y3) (isa80_low.j0 (k + 1) y0 y1 y2 y3)) ∧ (∀ y0 y1 y2 y3, LeO (isa80_low.j1 k y0 y1 y2 y3) (isa80_low.j1 (k + 1) y0 y1 y2 y3)) ∧ (∀ y0 y1, LeO (isa80_low.j2 k y0 y1) (isa80_low.j2 (k + 1) y0 y1))
  | 0 => ⟨fun _ _ _ _ r h => by simp [isa80_low.j0] at h, fun _ _ _ _ r h => by simp [isa80_low.j1] at h, fun _ _ r h => by simp [isa80_low.j2] at h⟩
  | k + 1 => by
    obtain ⟨ih0, ih1, ih2⟩ := isa80_low.mono_l k
    refine ⟨?_, ?_, ?_⟩
    · intro y0 y1 y2 y3
      unfold isa80_low.j0
      repeat' first
      | (with_reducible exact ih0 _ _ _ _)
      | (with_reducible exact ih1 _ _ _ _)
      | (with_reducible exact ih2 _ _)
      | (with_reducible exact LeO.refl _)
      | (with_reducible exact LeO.none _)
      | (with_reducible refine LeO.ite ?_ ?_)
      | (with_reducible refine LeO.bind ?_ (fun _ => ?_))
      | exact ih0 _ _ _ _
      | exact ih1 _ _ _ _
      | exact ih2 _ _
      | exact LeO.none _
      | refine LeO.ite ?_ ?_
      | refine LeO.bind ?_ (fun _ => ?_)
    · intro y0 y1 y2 y3
      unfold isa80_low.j1
      repeat' first
      | (with_reducible exact ih0 _ _ _ _)
      | (with_reducible exact ih1 _ _ _ _)
      | (with_reducible exact ih2 _ _)
      | (with_reducible exact LeO.refl _)
      | (with_reducible exact LeO.none _)
      | (with_reducible refine LeO.ite ?_ ?_)
      | (with_reducible refine LeO.bind ?_ (fun _ => ?_))
      | exact ih0 _ _ _ _
      | exact ih1 _ _ _ _
      | exact ih2 _ _
      | exact LeO.none _
      | refine LeO.ite ?_ ?_
      | refine LeO.bind ?_ (fun _ => ?_)
    · intro y0 y1
      unfold isa80_low.j2
      repeat' first
      | (with_reducible exact ih0 _ _ _ _)
      | (with_reducible exact ih1 _ _ _ _)
      | (with_reducible exact ih2 _ _)
      | (with_reducible exact LeO.refl _)
      | (with_reducible exact LeO.none _)
      | (with_reducible refine LeO.ite ?_ ?_)
      | (with_reducible refine LeO.bind ?_ (fun _ => ?_))
      | exact ih0 _ _ _ _
      | exact ih1 _ _ _ _
      | exact ih2 _ _
      | exact LeO.none _
      | refine LeO.ite ?_ ?_
      | refine LeO.bind ?_ (fun _ => ?_)
theorem isa80_low.mono : ∀ a0 k, LeO (isa80_low.f k a0) (isa80_low.f (k + 1) a0) := by
  intro a0 k
  obtain ⟨ih0, ih1, ih2⟩ := isa80_low.mono_l k
  unfold isa80_low.f
  repeat' first
      | (with_reducible exact ih0 _ _ _ _)
      | (with_reducible exact ih1 _ _ _ _)
      | (with_reducible exact ih2 _ _)
      | (with_reducible exact LeO.refl _)
      | (with_reducible exact LeO.none _)
      | (with_reducible refine LeO.ite ?_ ?_)
      | (with_reducible refine LeO.bind ?_ (fun _ => ?_))
      | exact ih0 _ _ _ _
      | exact ih1 _ _ _ _
      | exact ih2 _ _
      | exact LeO.none _
      | refine LeO.ite ?_ ?_
      | refine LeO.bind ?_ (fun _ => ?_)
set_option maxHeartbeats 8000000 in
set_option maxRecDepth 100000 in
theorem isa80_low.calls (k : Nat) (a0 : Int) (r : List ByteArray) (w : World) (h : isa80_low.f k a0 = some r) (hT : Tabs w) :
    Calls Tryd.prog 45 #[.int .u8 a0] w fun e w' => ∃ v0_ : Value, e = .returned (v0_) ∧ Kd.R Kd.string 9 w' w.heap.size (fun _ => True) v0_ r ∧ Below w.heap.size w w' := by
  have HB := Aside0.mk (Below.refl w.heap.size w)
  have H : (if (Go.bits .and .u8 a0 7) = 4 then ((isa80_reg.f (a0 / 8)).bind fun t110 => ((isa80_form.f (([(⟨#[73, 78, 82]⟩ : ByteArray), t110] : List ByteArray))).bind fun t114 => (some t114))) else (if (Go.bits .and .u8 a0 7) = 5 then ((isa80_reg.f (a0 / 8)).bind fun t117 => ((isa80_form.f (([(⟨#[68, 67, 82]⟩ : ByteArray), t117] : List ByteArray))).bind fun t121 => (some t121))) else (if (Go.bits .and .u8 a0 7) = 6 then ((isa80_reg.f (a0 / 8)).bind fun t124 => ((isa80_form.f (([(⟨#[77, 86, 73]⟩ : ByteArray), t124, (⟨#[100, 56]⟩ : ByteArray)] : List ByteArray))).bind fun t128 => (some t128))) else (if (Go.bits .and .u8 a0 7) = 7 then ((isa80_pick.f (a0 / 8) (([(⟨#[82, 76, 67]⟩ : ByteArray), (⟨#[82, 82, 67]⟩ : ByteArray), (⟨#[82, 65, 76]⟩ : ByteArray), (⟨#[82, 65, 82]⟩ : ByteArray), (⟨#[68, 65, 65]⟩ : ByteArray), (⟨#[67, 77, 65]⟩ : ByteArray), (⟨#[83, 84, 67]⟩ : ByteArray), (⟨#[67, 77, 67]⟩ : ByteArray)] : List ByteArray))).bind fun t134 => ((isa80_form.f (([t134] : List ByteArray))).bind fun t138 => (some t138))) else (if (Go.bits .and .u8 a0 15) = 1 then ((isa80_pair.f (a0 / 16)).bind fun t141 => ((isa80_form.f (([(⟨#[76, 88, 73]⟩ : ByteArray), t141, (⟨#[100, 49, 54]⟩ : ByteArray)] : List ByteArray))).bind fun t145 => (some t145))) else (if (Go.bits .and .u8 a0 15) = 3 then ((isa80_pair.f (a0 / 16)).bind fun t148 => ((isa80_form.f (([(⟨#[73, 78, 88]⟩ : ByteArray), t148] : List ByteArray))).bind fun t152 => (some t152))) else (if (Go.bits .and .u8 a0 15) = 9 then ((isa80_pair.f (a0 / 16)).bind fun t155 => ((isa80_form.f (([(⟨#[68, 65, 68]⟩ : ByteArray), t155] : List ByteArray))).bind fun t159 => (some t159))) else (if (Go.bits .and .u8 a0 15) = 11 then ((isa80_pair.f (a0 / 16)).bind fun t162 => ((isa80_form.f (([(⟨#[68, 67, 88]⟩ : ByteArray), t162] : List ByteArray))).bind fun t166 => (some t166))) else (if a0 = 0 then ((isa80_form.f (([(⟨#[78, 79, 80]⟩ : ByteArray)] : List ByteArray))).bind fun t172 => (some t172)) else (if a0 = 2 then (isa80_low.j0 k (a0 / 8) (a0 / 16) a0 (a0 == 2)) else (isa80_low.j0 k (a0 / 8) (a0 / 16) a0 (a0 == 18)))))))))))) = some r := h
  clear h
  by_cases c2 : (Go.bits .and .u8 a0 7) = 4
  · rw [if_pos c2] at H
    have c2b0 : ((Go.bits .and .u8 a0 7) == 4) = true := beq_iff_eq.mpr c2
    have c2b1 : ((Go.bits .and .u8 a0 7) != 4) = false := bne_eq_false_iff_eq.mpr c2
    clear c2
    replace H := Option.bind_eq_some_iff.mp H
    obtain ⟨t110, A30, H⟩ := H
    replace H : ((isa80_form.f (([(⟨#[73, 78, 82]⟩ : ByteArray), t110] : List ByteArray))).bind fun t114 => (some t114)) = some r := H
    have A3 := Aside0.mk A30
    clear A30
    obtain ⟨y111, hy111⟩ : ∃ y_ : List ByteArray, y_ = (([(⟨#[73, 78, 82]⟩ : ByteArray), t110] : List ByteArray)) := ⟨_, rfl⟩
    replace H : ((isa80_form.f y111).bind fun t114 => (some t114)) = some r := by first | (rw [hy111]; with_reducible exact H) | (have H2_ := (Option.bind_some _ _).symm.trans H; rw [hy111]; with_reducible exact H2_) | (have H2_ := (Option.bind_some _ _).symm.trans H; with_reducible exact H2_) | with_reducible exact H | (rw [hy111]; exact H) | exact H
    have Ny111 := Aside0.mk hy111
    clear hy111
    replace H := Option.bind_eq_some_iff.mp H
    obtain ⟨t114, A40, H⟩ := H
    replace H : (some t114) = some r := H
    have A4 := Aside0.mk A40
    clear A40
    obtain rfl := Option.some.inj H
    go_enter Tryd.func45, Tryd.ntmps45
    go_wp2_with (first | ((with_reducible refine gate_callee (f := 47) rfl ?_); refine goesL_ (some 14) rfl rfl Tryd.func47 (by kernel_rfl) rfl #[.int .u8 (a0 / 8)] rfl (by (try simp only [List.map_toArray, List.map_cons, List.map_nil]); first | done | rfl | (simp only [List.length_drop, List.length_take]; rfl)) ?_; (with_reducible refine (isa80_reg.calls (a0 / 8) t110 _ A3.out (by first | exact hT | exact tabs_below hT (by repeat (first | (with_reducible first | exact HB.out | apply below_alloc | apply pw_below_drewN | apply below_drew1) | exact HB.out)) | (repeat (first | exact hT | apply tabs_alloc | apply tabs_drewN | apply tabs_drew)))).mono ?_); rintro e w5 ⟨rfl, hb⟩; refine ⟨_, rfl, ?_⟩; have n0_ := Aside0.mk (below_step (by repeat (first | (with_reducible first | exact HB.out | apply below_alloc | apply pw_below_drewN | apply below_drew1) | exact HB.out)) hb); clear HB; have HB := n0_; clear n0_; (try clear hb); (try clear hb2); (try clear hk); (try clear hi)) | ((with_reducible refine gate_dst (N := 15) rfl ?_); refine Kd.R_lit Kd.string _ 9 ?hg (N := 15) ?hd (xs := ([(⟨#[73, 78, 82]⟩ : ByteArray), t110] : List ByteArray)) (inner := [.string (⟨#[73, 78, 82]⟩ : ByteArray), .string t110]) (ok := fun _ => True) (okp := fun _ => True) ?hr ?hp (fun _ hk => hk) trivial (Below.refl _ _) (Nat.le_refl _) (by simp) ?_; (case hd => rfl); (case hg => rfl); (case hr => first | (go_simp; done) | (go_simp; rfl)); (case hp => exact (Reps.one (show Kd.M Kd.string _ _ _ (⟨#[73, 78, 82]⟩ : ByteArray) [.string (⟨#[73, 78, 82]⟩ : ByteArray)] from rfl) (Reps.one (show Kd.M Kd.string _ _ _ t110 [.string t110] from rfl) (Reps.none _ _)))); intro v112 w6 ho7 hb hg_ hnew_; clear hg_ hnew_; (first | rw [← Ny111.out] at ho7 | (simp only [Int.reduceToNat] at ho7; rw [← Ny111.out] at ho7)); have n0_ := Aside0.mk (Kd.R_lower ho7 (below_size (by repeat (first | (with_reducible first | exact HB.out | apply below_alloc | apply pw_below_drewN | apply below_drew1) | exact HB.out)))); have n1_ := Aside0.mk (below_step (by repeat (first | (with_reducible first | exact HB.out | apply below_alloc | apply pw_below_drewN | apply below_drew1) | exact HB.out)) hb); clear HB; have HO113 := n0_; have HB := n1_; clear n0_ n1_; clear hb ho7; obtain ⟨Ao8, co8, eo8⟩ := Kd.R_slice HO113.out; subst eo8) | ((with_reducible refine gate_callee (f := 46) rfl ?_); refine goesL_ (some 16) rfl rfl Tryd.func46 (by kernel_rfl) rfl #[.slice Ao8 y111.length co8] rfl (by (try simp only [List.map_toArray, List.map_cons, List.map_nil]); first | done | rfl | (simp only [List.length_drop, List.length_take]; rfl)) ?_; (with_reducible refine (isa80_form.calls (fun k_ => some k_ = (.slice Ao8 y111.length co8 : Value).ownBlock) (.slice Ao8 y111.length co8) y111 t114 w _ ?side1 ?side2 A4.out (by first | exact hT | exact tabs_below hT (by repeat (first | (with_reducible first | exact HB.out | apply below_alloc | apply pw_below_drewN | apply below_drew1) | exact HB.out)) | (repeat (first | exact hT | apply tabs_alloc | apply tabs_drewN | apply tabs_drew)))).mono ?_); (case side1 => repeat (first | (with_reducible first | exact HB.out | apply below_alloc | apply pw_below_drewN | apply below_drew1) | exact HB.out)); (case side2 => exact Kd.R_tight rfl HO113.out); rintro e w9 ⟨v115, rfl, ho0, hb, hkp⟩; refine ⟨_, rfl, ?_⟩; have n0_ := Aside0.mk (Kd.R_mono (ok' := fun k_ => True) ho0 (fun k_ hk_ => trivial)); have n1_ := Aside0.mk (hb); clear HB; clear HO113; have HO116 := n0_; have HB := n1_; clear n0_ n1_; (try clear hb); (try clear hkp); (try clear ho0)))
    go_ret
    exact ⟨_, by first | rfl | (simp [errW_none, errW_some] <;> rfl) | (simp [*, errW_none, errW_some] <;> rfl), by (with_reducible repeat (first | apply Kd.R_alloc | apply Kd.R_drewN | apply Kd.R_drew)); exact HO116.out, by repeat (first | (with_reducible first | exact HB.out | apply below_alloc | apply pw_below_drewN | apply below_drew1) | exact HB.out)⟩
  · rw [if_neg c2] at H
    have c2b0 : ((Go.bits .and .u8 a0 7) == 4) = false := beq_eq_false_iff_ne.mpr c2
    have c2b1 : ((Go.bits .and .u8 a0 7) != 4) = true := bne_iff_ne.mpr c2
    by_cases c10 : (Go.bits .and .u8 a0 7) = 5
    · rw [if_pos c10] at H
      have c10b0 : ((Go.bits .and .u8 a0 7) == 5) = true := beq_iff_eq.mpr c10
      have c10b1 : ((Go.bits .and .u8 a0 7) != 5) = false := bne_eq_false_iff_eq.mpr c10
      clear c10
      replace H := Option.bind_eq_some_iff.mp H
      obtain ⟨t117, A110, H⟩ := H
      replace H : ((isa80_form.f (([(⟨#[68, 67, 82]⟩ : ByteArray), t117] : List ByteArray))).bind fun t121 => (some t121)) = some r := H
      have A11 := Aside0.mk A110
      clear A110
      obtain ⟨y118, hy118⟩ : ∃ y_ : List ByteArray, y_ = (([(⟨#[68, 67, 82]⟩ : ByteArray), t117] : List ByteArray)) := ⟨_, rfl⟩
      replace H : ((isa80_form.f y118).bind fun t121 => (some t121)) = some r := by first | (rw [hy118]; with_reducible exact H) | (have H2_ := (Option.bind_some _ _).symm.trans H; rw [hy118]; with_reducible exact H2_) | (have H2_ := (Option.bind_some _ _).symm.trans H; with_reducible exact H2_) | with_reducible exact H | (rw [hy118]; exact H) | exact H
      have Ny118 := Aside0.mk hy118
      clear hy118
      replace H := Option.bind_eq_some_iff.mp H
      obtain ⟨t121, A120, H⟩ := H
      replace H : (some t121) = some r := H
      have A12 := Aside0.mk A120
      clear A120
      obtain rfl := Option.some.inj H
      go_enter Tryd.func45, Tryd.ntmps45
      go_wp2_with (first | ((with_reducible refine gate_callee (f := 47) rfl ?_); refine goesL_ (some 20) rfl rfl Tryd.func47 (by kernel_rfl) rfl #[.int .u8 (a0 / 8)] rfl (by (try simp only [List.map_toArray, List.map_cons, List.map_nil]); first | done | rfl | (simp only [List.length_drop, List.length_take]; rfl)) ?_; (with_reducible refine (isa80_reg.calls (a0 / 8) t117 _ A11.out (by first | exact hT | exact tabs_below hT (by repeat (first | (with_reducible first | exact HB.out | apply below_alloc | apply pw_below_drewN | apply below_drew1) | exact HB.out)) | (repeat (first | exact hT | apply tabs_alloc | apply tabs_drewN | apply tabs_drew)))).mono ?_); rintro e w13 ⟨rfl, hb⟩; refine ⟨_, rfl, ?_⟩; have n0_ := Aside0.mk (below_step (by repeat (first | (with_reducible first | exact HB.out | apply below_alloc | apply pw_below_drewN | apply below_drew1) | exact HB.out)) hb); clear HB; have HB := n0_; clear n0_; (try clear hb); (try clear hb2); (try clear hk); (try clear hi)) | ((with_reducible refine gate_dst (N := 21) rfl ?_); refine Kd.R_lit Kd.string _ 9 ?hg (N := 21) ?hd (xs := ([(⟨#[68, 67, 82]⟩ : ByteArray), t117] : List ByteArray)) (inner := [.string (⟨#[68, 67, 82]⟩ : ByteArray), .string t117]) (ok := fun _ => True) (okp := fun _ => True) ?hr ?hp (fun _ hk => hk) trivial (Below.refl _ _) (Nat.le_refl _) (by simp) ?_; (case hd => rfl); (case hg => rfl); (case hr => first | (go_simp; done) | (go_simp; rfl)); (case hp => exact (Reps.one (show Kd.M Kd.string _ _ _ (⟨#[68, 67, 82]⟩ : ByteArray) [.string (⟨#[68, 67, 82]⟩ : ByteArray)] from rfl) (Reps.one (show Kd.M Kd.string _ _ _ t117 [.string t117] from rfl) (Reps.none _ _)))); intro v119 w14 ho15 hb hg_ hnew_; clear hg_ hnew_; (first | rw [← Ny118.out] at ho15 | (simp only [Int.reduceToNat] at ho15; rw [← Ny118.out] at ho15)); have n0_ := Aside0.mk (Kd.R_lower ho15 (below_size (by repeat (first | (with_reducible first | exact HB.out | apply below_alloc | apply pw_below_drewN | apply below_drew1) | exact HB.out)))); have n1_ := Aside0.mk (below_step (by repeat (first | (with_reducible first | exact HB.out | apply below_alloc | apply pw_below_drewN | apply below_drew1) | exact HB.out)) hb); clear HB; have HO120 := n0_; have HB := n1_; clear n0_ n1_; clear hb ho15; obtain ⟨Ao16, co16, eo16⟩ := Kd.R_slice HO120.out; subst eo16) | ((with_reducible refine gate_callee (f := 46) rfl ?_); refine goesL_ (some 22) rfl rfl Tryd.func46 (by kernel_rfl) rfl #[.slice Ao16 y118.length co16] rfl (by (try simp only [List.map_toArray, List.map_cons, List.map_nil]); first | done | rfl | (simp only [List.length_drop, List.length_take]; rfl)) ?_; (with_reducible refine (isa80_form.calls (fun k_ => some k_ = (.slice Ao16 y118.length co16 : Value).ownBlock) (.slice Ao16 y118.length co16) y118 t121 w _ ?side1 ?side2 A12.out (by first | exact hT | exact tabs_below hT (by repeat (first | (with_reducible first | exact HB.out | apply below_alloc | apply pw_below_drewN | apply below_drew1) | exact HB.out)) | (repeat (first | exact hT | apply tabs_alloc | apply tabs_drewN | apply tabs_drew)))).mono ?_); (case side1 => repeat (first | (with_reducible first | exact HB.out | apply below_alloc | apply pw_below_drewN | apply below_drew1) | exact HB.out)); (case side2 => exact Kd.R_tight rfl HO120.out); rintro e w17 ⟨v122, rfl, ho0, hb, hkp⟩; refine ⟨_, rfl, ?_⟩; have n0_ := Aside0.mk (Kd.R_mono (ok' := fun k_ => True) ho0 (fun k_ hk_ => trivial)); have n1_ := Aside0.mk (hb); clear HB; clear HO120; have HO123 := n0_; have HB := n1_; clear n0_ n1_; (try clear hb); (try clear hkp); (try clear ho0)))
      go_ret
      exact ⟨_, by first | rfl | (simp [errW_none, errW_some] <;> rfl) | (simp [*, errW_none, errW_some] <;> rfl), by (with_reducible repeat (first | apply Kd.R_alloc | apply Kd.R_drewN | apply Kd.R_drew)); exact HO123.out, by repeat (first | (with_reducible first | exact HB.out | apply below_alloc | apply pw_below_drewN | apply below_drew1) | exact HB.out)⟩
    · rw [if_neg c10] at H
      have c10b0 : ((Go.bits .and .u8 a0 7) == 5) = false := beq_eq_false_iff_ne.mpr c10
      have c10b1 : ((Go.bits .and .u8 a0 7) != 5) = true := bne_iff_ne.mpr c10
      by_cases c18 : (Go.bits .and .u8 a0 7) = 6
      · rw [if_pos c18] at H
        have c18b0 : ((Go.bits .and .u8 a0 7) == 6) = true := beq_iff_eq.mpr c18
        have c18b1 : ((Go.bits .and .u8 a0 7) != 6) = false := bne_eq_false_iff_eq.mpr c18
        clear c18
        replace H := Option.bind_eq_some_iff.mp H
        obtain ⟨t124, A190, H⟩ := H
        replace H : ((isa80_form.f (([(⟨#[77, 86, 73]⟩ : ByteArray), t124, (⟨#[100, 56]⟩ : ByteArray)] : List ByteArray))).bind fun t128 => (some t128)) = some r := H
        have A19 := Aside0.mk A190
        clear A190
        obtain ⟨y125, hy125⟩ : ∃ y_ : List ByteArray, y_ = (([(⟨#[77, 86, 73]⟩ : ByteArray), t124, (⟨#[100, 56]⟩ : ByteArray)] : List ByteArray)) := ⟨_, rfl⟩
        replace H : ((isa80_form.f y125).bind fun t128 => (some t128)) = some r := by first | (rw [hy125]; with_reducible exact H) | (have H2_ := (Option.bind_some _ _).symm.trans H; rw [hy125]; with_reducible exact H2_) | (have H2_ := (Option.bind_some _ _).symm.trans H; with_reducible exact H2_) | with_reducible exact H | (rw [hy125]; exact H) | exact H
        have Ny125 := Aside0.mk hy125
        clear hy125
        replace H := Option.bind_eq_some_iff.mp H
        obtain ⟨t128, A200, H⟩ := H
        replace H : (some t128) = some r := H
        have A20 := Aside0.mk A200
        clear A200
        obtain rfl := Option.some.inj H
        go_enter Tryd.func45, Tryd.ntmps45
        go_wp2_with (first | ((with_reducible refine gate_callee (f := 47) rfl ?_); refine goesL_ (some 26) rfl rfl Tryd.func47 (by kernel_rfl) rfl #[.int .u8 (a0 / 8)] rfl (by (try simp only [List.map_toArray, List.map_cons, List.map_nil]); first | done | rfl | (simp only [List.length_drop, List.length_take]; rfl)) ?_; (with_reducible refine (isa80_reg.calls (a0 / 8) t124 _ A19.out (by first | exact hT | exact tabs_below hT (by repeat (first | (with_reducible first | exact HB.out | apply below_alloc | apply pw_below_drewN | apply below_drew1) | exact HB.out)) | (repeat (first | exact hT | apply tabs_alloc | apply tabs_drewN | apply tabs_drew)))).mono ?_); rintro e w21 ⟨rfl, hb⟩; refine ⟨_, rfl, ?_⟩; have n0_ := Aside0.mk (below_step (by repeat (first | (with_reducible first | exact HB.out | apply below_alloc | apply pw_below_drewN | apply below_drew1) | exact HB.out)) hb); clear HB; have HB := n0_; clear n0_; (try clear hb); (try clear hb2); (try clear hk); (try clear hi)) | ((with_reducible refine gate_dst (N := 27) rfl ?_); refine Kd.R_lit Kd.string _ 9 ?hg (N := 27) ?hd (xs := ([(⟨#[77, 86, 73]⟩ : ByteArray), t124, (⟨#[100, 56]⟩ : ByteArray)] : List ByteArray)) (inner := [.string (⟨#[77, 86, 73]⟩ : ByteArray), .string t124, .string (⟨#[100, 56]⟩ : ByteArray)]) (ok := fun _ => True) (okp := fun _ => True) ?hr ?hp (fun _ hk => hk) trivial (Below.refl _ _) (Nat.le_refl _) (by simp) ?_; (case hd => rfl); (case hg => rfl); (case hr => first | (go_simp; done) | (go_simp; rfl)); (case hp => exact (Reps.one (show Kd.M Kd.string _ _ _ (⟨#[77, 86, 73]⟩ : ByteArray) [.string (⟨#[77, 86, 73]⟩ : ByteArray)] from rfl) (Reps.one (show Kd.M Kd.string _ _ _ t124 [.string t124] from rfl) (Reps.one (show Kd.M Kd.string _ _ _ (⟨#[100, 56]⟩ : ByteArray) [.string (⟨#[100, 56]⟩ : ByteArray)] from rfl) (Reps.none _ _))))); intro v126 w22 ho23 hb hg_ hnew_; clear hg_ hnew_; (first | rw [← Ny125.out] at ho23 | (simp only [Int.reduceToNat] at ho23; rw [← Ny125.out] at ho23)); have n0_ := Aside0.mk (Kd.R_lower ho23 (below_size (by repeat (first | (with_reducible first | exact HB.out | apply below_alloc | apply pw_below_drewN | apply below_drew1) | exact HB.out)))); have n1_ := Aside0.mk (below_step (by repeat (first | (with_reducible first | exact HB.out | apply below_alloc | apply pw_below_drewN | apply below_drew1) | exact HB.out)) hb); clear HB; have HO127 := n0_; have HB := n1_; clear n0_ n1_; clear hb ho23; obtain ⟨Ao24, co24, eo24⟩ := Kd.R_slice HO127.out; subst eo24) | ((with_reducible refine gate_callee (f := 46) rfl ?_); refine goesL_ (some 28) rfl rfl Tryd.func46 (by kernel_rfl) rfl #[.slice Ao24 y125.length co24] rfl (by (try simp only [List.map_toArray, List.map_cons, List.map_nil]); first | done | rfl | (simp only [List.length_drop, List.length_take]; rfl)) ?_; (with_reducible refine (isa80_form.calls (fun k_ => some k_ = (.slice Ao24 y125.length co24 : Value).ownBlock) (.slice Ao24 y125.length co24) y125 t128 w _ ?side1 ?side2 A20.out (by first | exact hT | exact tabs_below hT (by repeat (first | (with_reducible first | exact HB.out | apply below_alloc | apply pw_below_drewN | apply below_drew1) | exact HB.out)) | (repeat (first | exact hT | apply tabs_alloc | apply tabs_drewN | apply tabs_drew)))).mono ?_); (case side1 => repeat (first | (with_reducible first | exact HB.out | apply below_alloc | apply pw_below_drewN | apply below_drew1) | exact HB.out)); (case side2 => exact Kd.R_tight rfl HO127.out); rintro e w25 ⟨v129, rfl, ho0, hb, hkp⟩; refine ⟨_, rfl, ?_⟩; have n0_ := Aside0.mk (Kd.R_mono (ok' := fun k_ => True) ho0 (fun k_ hk_ => trivial)); have n1_ := Aside0.mk (hb); clear HB; clear HO127; have HO130 := n0_; have HB := n1_; clear n0_ n1_; (try clear hb); (try clear hkp); (try clear ho0)))
        go_ret
        exact ⟨_, by first | rfl | (simp [errW_none, errW_some] <;> rfl) | (simp [*, errW_none, errW_some] <;> rfl), by (with_reducible repeat (first | apply Kd.R_alloc | apply Kd.R_drewN | apply Kd.R_drew)); exact HO130.out, by repeat (first | (with_reducible first | exact HB.out | apply below_alloc | apply pw_below_drewN | apply below_drew1) | exact HB.out)⟩
      · rw [if_neg c18] at H
        have c18b0 : ((Go.bits .and .u8 a0 7) == 6) = false := beq_eq_false_iff_ne.mpr c18
        have c18b1 : ((Go.bits .and .u8 a0 7) != 6) = true := bne_iff_ne.mpr c18
        by_cases c26 : (Go.bits .and .u8 a0 7) = 7
        · rw [if_pos c26] at H
          have c26b0 : ((Go.bits .and .u8 a0 7) == 7) = true := beq_iff_eq.mpr c26
          have c26b1 : ((Go.bits .and .u8 a0 7) != 7) = false := bne_eq_false_iff_eq.mpr c26
          clear c26
          obtain ⟨y131, hy131⟩ : ∃ y_ : List ByteArray, y_ = (([(⟨#[82, 76, 67]⟩ : ByteArray), (⟨#[82, 82, 67]⟩ : ByteArray), (⟨#[82, 65, 76]⟩ : ByteArray), (⟨#[82, 65, 82]⟩ : ByteArray), (⟨#[68, 65, 65]⟩ : ByteArray), (⟨#[67, 77, 65]⟩ : ByteArray), (⟨#[83, 84, 67]⟩ : ByteArray), (⟨#[67, 77, 67]⟩ : ByteArray)] : List ByteArray)) := ⟨_, rfl⟩
          replace H : ((isa80_pick.f (a0 / 8) y131).bind fun t134 => ((isa80_form.f (([t134] : List ByteArray))).bind fun t138 => (some t138))) = some r := by first | (rw [hy131]; with_reducible exact H) | (have H2_ := (Option.bind_some _ _).symm.trans H; rw [hy131]; with_reducible exact H2_) | (have H2_ := (Option.bind_some _ _).symm.trans H; with_reducible exact H2_) | with_reducible exact H | (rw [hy131]; exact H) | exact H
          have Ny131 := Aside0.mk hy131
          clear hy131
          replace H := Option.bind_eq_some_iff.mp H
          obtain ⟨t134, A270, H⟩ := H
          replace H : ((isa80_form.f (([t134] : List ByteArray))).bind fun t138 => (some t138)) = some r := H
          have A27 := Aside0.mk A270
          clear A270
          obtain ⟨y135, hy135⟩ : ∃ y_ : List ByteArray, y_ = (([t134] : List ByteArray)) := ⟨_, rfl⟩
          replace H : ((isa80_form.f y135).bind fun t138 => (some t138)) = some r := by first | (rw [hy135]; with_reducible exact H) | (have H2_ := (Option.bind_some _ _).symm.trans H; rw [hy135]; with_reducible exact H2_) | (have H2_ := (Option.bind_some _ _).symm.trans H; with_reducible exact H2_) | with_reducible exact H | (rw [hy135]; exact H) | exact H
          have Ny135 := Aside0.mk hy135
          clear hy135
          replace H := Option.bind_eq_some_iff.mp H
          obtain ⟨t138, A280, H⟩ := H
          replace H : (some t138) = some r := H
          have A28 := Aside0.mk A280
          clear A280
          obtain rfl := Option.some.inj H
          go_enter Tryd.func45, Tryd.ntmps45
          go_wp2_with (first | ((with_reducible refine gate_dst (N := 32) rfl ?_); refine Kd.R_lit Kd.string _ 9 ?hg (N := 32) ?hd (xs := ([(⟨#[82, 76, 67]⟩ : ByteArray), (⟨#[82, 82, 67]⟩ : ByteArray), (⟨#[82, 65, 76]⟩ : ByteArray), (⟨#[82, 65, 82]⟩ : ByteArray), (⟨#[68, 65, 65]⟩ : ByteArray), (⟨#[67, 77, 65]⟩ : ByteArray), (⟨#[83, 84, 67]⟩ : ByteArray), (⟨#[67, 77, 67]⟩ : ByteArray)] : List ByteArray)) (inner := [.string (⟨#[82, 76, 67]⟩ : ByteArray), .string (⟨#[82, 82, 67]⟩ : ByteArray), .string (⟨#[82, 65, 76]⟩ : ByteArray), .string (⟨#[82, 65, 82]⟩ : ByteArray), .string (⟨#[68, 65, 65]⟩ : ByteArray), .string (⟨#[67, 77, 65]⟩ : ByteArray), .string (⟨#[83, 84, 67]⟩ : ByteArray), .string (⟨#[67, 77, 67]⟩ : ByteArray)]) (ok := fun _ => True) (okp := fun _ => True) ?hr ?hp (fun _ hk => hk) trivial (Below.refl _ _) (Nat.le_refl _) (by simp) ?_; (case hd => rfl); (case hg => rfl); (case hr => first | (go_simp; done) | (go_simp; rfl)); (case hp => exact (Reps.one (show Kd.M Kd.string _ _ _ (⟨#[82, 76, 67]⟩ : ByteArray) [.string (⟨#[82, 76, 67]⟩ : ByteArray)] from rfl) (Reps.one (show Kd.M Kd.string _ _ _ (⟨#[82, 82, 67]⟩ : ByteArray) [.string (⟨#[82, 82, 67]⟩ : ByteArray)] from rfl) (Reps.one (show Kd.M Kd.string _ _ _ (⟨#[82, 65, 76]⟩ : ByteArray) [.string (⟨#[82, 65, 76]⟩ : ByteArray)] from rfl) (Reps.one (show Kd.M Kd.string _ _ _ (⟨#[82, 65, 82]⟩ : ByteArray) [.string (⟨#[82, 65, 82]⟩ : ByteArray)] from rfl) (Reps.one (show Kd.M Kd.string _ _ _ (⟨#[68, 65, 65]⟩ : ByteArray) [.string (⟨#[68, 65, 65]⟩ : ByteArray)] from rfl) (Reps.one (show Kd.M Kd.string _ _ _ (⟨#[67, 77, 65]⟩ : ByteArray) [.string (⟨#[67, 77, 65]⟩ : ByteArray)] from rfl) (Reps.one (show Kd.M Kd.string _ _ _ (⟨#[83, 84, 67]⟩ : ByteArray) [.string (⟨#[83, 84, 67]⟩ : ByteArray)] from rfl) (Reps.one (show Kd.M Kd.string _ _ _ (⟨#[67, 77, 67]⟩ : ByteArray) [.string (⟨#[67, 77, 67]⟩ : ByteArray)] from rfl) (Reps.none _ _)))))))))); intro v132 w29 ho30 hb hg_ hnew_; clear hg_ hnew_; (first | rw [← Ny131.out] at ho30 | (simp only [Int.reduceToNat] at ho30; rw [← Ny131.out] at ho30)); have n0_ := Aside0.mk (Kd.R_lower ho30 (below_size (by repeat (first | (with_reducible first | exact HB.out | apply below_alloc | apply pw_below_drewN | apply below_drew1) | exact HB.out)))); have n1_ := Aside0.mk (below_step (by repeat (first | (with_reducible first | exact HB.out | apply below_alloc | apply pw_below_drewN | apply below_drew1) | exact HB.out)) hb); clear HB; have HO133 := n0_; have HB := n1_; clear n0_ n1_; clear hb ho30; obtain ⟨Ao31, co31, eo31⟩ := Kd.R_slice HO133.out; subst eo31) | ((with_reducible refine gate_callee (f := 48) rfl ?_); refine goesL_ (some 33) rfl rfl Tryd.func48 (by kernel_rfl) rfl #[.int .u8 (a0 / 8), .slice Ao31 y131.length co31] rfl (by (try simp only [List.map_toArray, List.map_cons, List.map_nil]); first | done | rfl | (simp only [List.length_drop, List.length_take]; rfl)) ?_; (with_reducible refine (isa80_pick.calls (a0 / 8) _ _ y131 t134 _ ?side1 ?side2 A27.out (by first | exact hT | exact tabs_below hT (by repeat (first | (with_reducible first | exact HB.out | apply below_alloc | apply pw_below_drewN | apply below_drew1) | exact HB.out)) | (repeat (first | exact hT | apply tabs_alloc | apply tabs_drewN | apply tabs_drew)))).mono ?_); (case side1 => repeat (first | exact (Kd.R_reads' HO133.out).2.2 | (with_reducible refine Kd.C_alloc ?_ _) | (with_reducible refine Kd.C_drewN ?_ _) | (with_reducible refine Kd.C_drew ?_))); (case side2 => exact (Kd.R_reads' HO133.out).2.1); rintro e w' ⟨rfl, ⟨nd, rfl⟩⟩; refine ⟨_, rfl, ?_⟩) | ((with_reducible refine gate_dst (N := 34) rfl ?_); refine Kd.R_lit Kd.string _ 9 ?hg (N := 34) ?hd (xs := ([t134] : List ByteArray)) (inner := [.string t134]) (ok := fun _ => True) (okp := fun _ => True) ?hr ?hp (fun _ hk => hk) trivial (Below.refl _ _) (Nat.le_refl _) (by simp) ?_; (case hd => rfl); (case hg => rfl); (case hr => first | (go_simp; done) | (go_simp; rfl)); (case hp => exact (Reps.one (show Kd.M Kd.string _ _ _ t134 [.string t134] from rfl) (Reps.none _ _))); intro v136 w32 ho33 hb hg_ hnew_; clear hg_ hnew_; (first | rw [← Ny135.out] at ho33 | (simp only [Int.reduceToNat] at ho33; rw [← Ny135.out] at ho33)); have n0_ := Aside0.mk (Kd.R_elder' (by (with_reducible repeat (first | apply Kd.R_alloc | apply Kd.R_drewN | apply Kd.R_drew)); exact HO133.out) (Kd.R_base ho33) hb); have n1_ := Aside0.mk (Kd.R_lower (Kd.R_new' ho33 (Kd.R_lt (by (with_reducible repeat (first | apply Kd.R_alloc | apply Kd.R_drewN | apply Kd.R_drew)); exact HO133.out))) (below_size (by repeat (first | (with_reducible first | exact HB.out | apply below_alloc | apply pw_below_drewN | apply below_drew1) | exact HB.out)))); have n2_ := Aside0.mk (below_step (by repeat (first | (with_reducible first | exact HB.out | apply below_alloc | apply pw_below_drewN | apply below_drew1) | exact HB.out)) hb); clear HO133; clear HB; have HO133 := n0_; have HO137 := n1_; have HB := n2_; clear n0_ n1_ n2_; clear hb ho33; obtain ⟨Ao34, co34, eo34⟩ := Kd.R_slice HO137.out; subst eo34) | ((with_reducible refine gate_callee (f := 46) rfl ?_); refine goesL_ (some 35) rfl rfl Tryd.func46 (by kernel_rfl) rfl #[.slice Ao34 y135.length co34] rfl (by (try simp only [List.map_toArray, List.map_cons, List.map_nil]); first | done | rfl | (simp only [List.length_drop, List.length_take]; rfl)) ?_; (with_reducible refine (isa80_form.calls (fun k_ => some k_ = (.slice Ao34 y135.length co34 : Value).ownBlock) (.slice Ao34 y135.length co34) y135 t138 w _ ?side1 ?side2 A28.out (by first | exact hT | exact tabs_below hT (by repeat (first | (with_reducible first | exact HB.out | apply below_alloc | apply pw_below_drewN | apply below_drew1) | exact HB.out)) | (repeat (first | exact hT | apply tabs_alloc | apply tabs_drewN | apply tabs_drew)))).mono ?_); (case side1 => repeat (first | (with_reducible first | exact HB.out | apply below_alloc | apply pw_below_drewN | apply below_drew1) | exact HB.out)); (case side2 => exact Kd.R_tight rfl HO137.out); rintro e w35 ⟨v139, rfl, ho0, hb, hkp⟩; refine ⟨_, rfl, ?_⟩; have n0_ := Aside0.mk (Kd.R_mono (ok' := fun k_ => some k_ ≠ (v139 : Value).ownBlock) (Kd.R_keptB (HO133.out) hkp (fun k_ hk_ hs_ => (hk_.2) hs_)) (fun k_ hk_ => fun e_ => Or.elim (ho0.1 k_ e_.symm) (fun hs_ => hk_.2.1 hs_) (fun hn_ => Nat.not_le.2 hk_.2.2 hn_))); have n1_ := Aside0.mk (Kd.R_mono (ok' := fun k_ => some k_ ≠ (.slice Ao31 y131.length co31 : Value).ownBlock) ho0 (fun k_ hk_ => Or.elim hk_ (fun hs_ => fun e_ => (((HO133.out).1 k_ e_.symm).2) hs_) (fun hn_ => (Kd.fresh' (Kd.R_lt (by (with_reducible repeat (first | apply Kd.R_alloc | apply Kd.R_drewN | apply Kd.R_drew)); exact HO133.out)) k_ hn_)))); have n2_ := Aside0.mk (hb); clear HO133; clear HB; clear HO137; have HO133 := n0_; have HO140 := n1_; have HB := n2_; clear n0_ n1_ n2_; (try clear hb); (try clear hkp); (try clear ho0)))
          go_ret
          exact ⟨_, by first | rfl | (simp [errW_none, errW_some] <;> rfl) | (simp [*, errW_none, errW_some] <;> rfl), by (with_reducible repeat (first | apply Kd.R_alloc | apply Kd.R_drewN | apply Kd.R_drew)); exact Kd.R_mono HO140.out (fun _ hk => trivial), by repeat (first | (with_reducible first | exact HB.out | apply below_alloc | apply pw_below_drewN | apply below_drew1) | exact HB.out)⟩
        · rw [if_neg c26] at H
          have c26b0 : ((Go.bits .and .u8 a0 7) == 7) = false := beq_eq_false_iff_ne.mpr c26
          have c26b1 : ((Go.bits .and .u8 a0 7) != 7) = true := bne_iff_ne.mpr c26
          by_cases c36 : (Go.bits .and .u8 a0 15) = 1
          · rw [if_pos c36] at H
            have c36b0 : ((Go.bits .and .u8 a0 15) == 1) = true := beq_iff_eq.mpr c36
            have c36b1 : ((Go.bits .and .u8 a0 15) != 1) = false := bne_eq_false_iff_eq.mpr c36
            clear c36
            replace H := Option.bind_eq_some_iff.mp H
            obtain ⟨t141, A370, H⟩ := H
            replace H : ((isa80_form.f (([(⟨#[76, 88, 73]⟩ : ByteArray), t141, (⟨#[100, 49, 54]⟩ : ByteArray)] : List ByteArray))).bind fun t145 => (some t145)) = some r := H
            have A37 := Aside0.mk A370
            clear A370
            obtain ⟨y142, hy142⟩ : ∃ y_ : List ByteArray, y_ = (([(⟨#[76, 88, 73]⟩ : ByteArray), t141, (⟨#[100, 49, 54]⟩ : ByteArray)] : List ByteArray)) := ⟨_, rfl⟩
            replace H : ((isa80_form.f y142).bind fun t145 => (some t145)) = some r := by first | (rw [hy142]; with_reducible exact H) | (have H2_ := (Option.bind_some _ _).symm.trans H; rw [hy142]; with_reducible exact H2_) | (have H2_ := (Option.bind_some _ _).symm.trans H; with_reducible exact H2_) | with_reducible exact H | (rw [hy142]; exact H) | exact H
            have Ny142 := Aside0.mk hy142
            clear hy142
            replace H := Option.bind_eq_some_iff.mp H
            obtain ⟨t145, A380, H⟩ := H
            replace H : (some t145) = some r := H
            have A38 := Aside0.mk A380
            clear A380
            obtain rfl := Option.some.inj H
            go_enter Tryd.func45, Tryd.ntmps45
            go_wp2_with (first | ((with_reducible refine gate_callee (f := 62) rfl ?_); refine goesL_ (some 41) rfl rfl Tryd.func62 (by kernel_rfl) rfl #[.int .u8 (a0 / 16)] rfl (by (try simp only [List.map_toArray, List.map_cons, List.map_nil]); first | done | rfl | (simp only [List.length_drop, List.length_take]; rfl)) ?_; (with_reducible refine (isa80_pair.calls (a0 / 16) t141 _ A37.out (by first | exact hT | exact tabs_below hT (by repeat (first | (with_reducible first | exact HB.out | apply below_alloc | apply pw_below_drewN | apply below_drew1) | exact HB.out)) | (repeat (first | exact hT | apply tabs_alloc | apply tabs_drewN | apply tabs_drew)))).mono ?_); rintro e w39 ⟨rfl, hb⟩; refine ⟨_, rfl, ?_⟩; have n0_ := Aside0.mk (below_step (by repeat (first | (with_reducible first | exact HB.out | apply below_alloc | apply pw_below_drewN | apply below_drew1) | exact HB.out)) hb); clear HB; have HB := n0_; clear n0_; (try clear hb); (try clear hb2); (try clear hk); (try clear hi)) | ((with_reducible refine gate_dst (N := 42) rfl ?_); refine Kd.R_lit Kd.string _ 9 ?hg (N := 42) ?hd (xs := ([(⟨#[76, 88, 73]⟩ : ByteArray), t141, (⟨#[100, 49, 54]⟩ : ByteArray)] : List ByteArray)) (inner := [.string (⟨#[76, 88, 73]⟩ : ByteArray), .string t141, .string (⟨#[100, 49, 54]⟩ : ByteArray)]) (ok := fun _ => True) (okp := fun _ => True) ?hr ?hp (fun _ hk => hk) trivial (Below.refl _ _) (Nat.le_refl _) (by simp) ?_; (case hd => rfl); (case hg => rfl); (case hr => first | (go_simp; done) | (go_simp; rfl)); (case hp => exact (Reps.one (show Kd.M Kd.string _ _ _ (⟨#[76, 88, 73]⟩ : ByteArray) [.string (⟨#[76, 88, 73]⟩ : ByteArray)] from rfl) (Reps.one (show Kd.M Kd.string _ _ _ t141 [.string t141] from rfl) (Reps.one (show Kd.M Kd.string _ _ _ (⟨#[100, 49, 54]⟩ : ByteArray) [.string (⟨#[100, 49, 54]⟩ : ByteArray)] from rfl) (Reps.none _ _))))); intro v143 w40 ho41 hb hg_ hnew_; clear hg_ hnew_; (first | rw [← Ny142.out] at ho41 | (simp only [Int.reduceToNat] at ho41; rw [← Ny142.out] at ho41)); have n0_ := Aside0.mk (Kd.R_lower ho41 (below_size (by repeat (first | (with_reducible first | exact HB.out | apply below_alloc | apply pw_below_drewN | apply below_drew1) | exact HB.out)))); have n1_ := Aside0.mk (below_step (by repeat (first | (with_reducible first | exact HB.out | apply below_alloc | apply pw_below_drewN | apply below_drew1) | exact HB.out)) hb); clear HB; have HO144 := n0_; have HB := n1_; clear n0_ n1_; clear hb ho41; obtain ⟨Ao42, co42, eo42⟩ := Kd.R_slice HO144.out; subst eo42) | ((with_reducible refine gate_callee (f := 46) rfl ?_); refine goesL_ (some 43) rfl rfl Tryd.func46 (by kernel_rfl) rfl #[.slice Ao42 y142.length co42] rfl (by (try simp only [List.map_toArray, List.map_cons, List.map_nil]); first | done | rfl | (simp only [List.length_drop, List.length_take]; rfl)) ?_; (with_reducible refine (isa80_form.calls (fun k_ => some k_ = (.slice Ao42 y142.length co42 : Value).ownBlock) (.slice Ao42 y142.length co42) y142 t145 w _ ?side1 ?side2 A38.out (by first | exact hT | exact tabs_below hT (by repeat (first | (with_reducible first | exact HB.out | apply below_alloc | apply pw_below_drewN | apply below_drew1) | exact HB.out)) | (repeat (first | exact hT | apply tabs_alloc | apply tabs_drewN | apply tabs_drew)))).mono ?_); (case side1 => repeat (first | (with_reducible first | exact HB.out | apply below_alloc | apply pw_below_drewN | apply below_drew1) | exact HB.out)); (case side2 => exact Kd.R_tight rfl HO144.out); rintro e w43 ⟨v146, rfl, ho0, hb, hkp⟩; refine ⟨_, rfl, ?_⟩; have n0_ := Aside0.mk (Kd.R_mono (ok' := fun k_ => True) ho0 (fun k_ hk_ => trivial)); have n1_ := Aside0.mk (hb); clear HB; clear HO144; have HO147 := n0_; have HB := n1_; clear n0_ n1_; (try clear hb); (try clear hkp); (try clear ho0)))
            go_ret
            exact ⟨_, by first | rfl | (simp [errW_none, errW_some] <;> rfl) | (simp [*, errW_none, errW_some] <;> rfl), by (with_reducible repeat (first | apply Kd.R_alloc | apply Kd.R_drewN | apply Kd.R_drew)); exact HO147.out, by repeat (first | (with_reducible first | exact HB.out | apply below_alloc | apply pw_below_drewN | apply below_drew1) | exact HB.out)⟩
          · rw [if_neg c36] at H
            have c36b0 : ((Go.bits .and .u8 a0 15) == 1) = false := beq_eq_false_iff_ne.mpr c36
            have c36b1 : ((Go.bits .and .u8 a0 15) != 1) = true := bne_iff_ne.mpr c36
            by_cases c44 : (Go.bits .and .u8 a0 15) = 3
            · rw [if_pos c44] at H
              have c44b0 : ((Go.bits .and .u8 a0 15) == 3) = true := beq_iff_eq.mpr c44
              have c44b1 : ((Go.bits .and .u8 a0 15) != 3) = false := bne_eq_false_iff_eq.mpr c44
              clear c44
              replace H := Option.bind_eq_some_iff.mp H
              obtain ⟨t148, A450, H⟩ := H
              replace H : ((isa80_form.f (([(⟨#[73, 78, 88]⟩ : ByteArray), t148] : List ByteArray))).bind fun t152 => (some t152)) = some r := H
              have A45 := Aside0.mk A450
              clear A450
              obtain ⟨y149, hy149⟩ : ∃ y_ : List ByteArray, y_ = (([(⟨#[73, 78, 88]⟩ : ByteArray), t148] : List ByteArray)) := ⟨_, rfl⟩
              replace H : ((isa80_form.f y149).bind fun t152 => (some t152)) = some r := by first | (rw [hy149]; with_reducible exact H) | (have H2_ := (Option.bind_some _ _).symm.trans H; rw [hy149]; with_reducible exact H2_) | (have H2_ := (Option.bind_some _ _).symm.trans H; with_reducible exact H2_) | with_reducible exact H | (rw [hy149]; exact H) | exact H
              have Ny149 := Aside0.mk hy149
              clear hy149
              replace H := Option.bind_eq_some_iff.mp H
              obtain ⟨t152, A460, H⟩ := H
              replace H : (some t152) = some r := H
              have A46 := Aside0.mk A460
              clear A460
              obtain rfl := Option.some.inj H
              go_enter Tryd.func45, Tryd.ntmps45
              go_wp2_with (first | ((with_reducible refine gate_callee (f := 62) rfl ?_); refine goesL_ (some 47) rfl rfl Tryd.func62 (by kernel_rfl) rfl #[.int .u8 (a0 / 16)] rfl (by (try simp only [List.map_toArray, List.map_cons, List.map_nil]); first | done | rfl | (simp only [List.length_drop, List.length_take]; rfl)) ?_; (with_reducible refine (isa80_pair.calls (a0 / 16) t148 _ A45.out (by first | exact hT | exact tabs_below hT (by repeat (first | (with_reducible first | exact HB.out | apply below_alloc | apply pw_below_drewN | apply below_drew1) | exact HB.out)) | (repeat (first | exact hT | apply tabs_alloc | apply tabs_drewN | apply tabs_drew)))).mono ?_); rintro e w47 ⟨rfl, hb⟩; refine ⟨_, rfl, ?_⟩; have n0_ := Aside0.mk (below_step (by repeat (first | (with_reducible first | exact HB.out | apply below_alloc | apply pw_below_drewN | apply below_drew1) | exact HB.out)) hb); clear HB; have HB := n0_; clear n0_; (try clear hb); (try clear hb2); (try clear hk); (try clear hi)) | ((with_reducible refine gate_dst (N := 48) rfl ?_); refine Kd.R_lit Kd.string _ 9 ?hg (N := 48) ?hd (xs := ([(⟨#[73, 78, 88]⟩ : ByteArray), t148] : List ByteArray)) (inner := [.string (⟨#[73, 78, 88]⟩ : ByteArray), .string t148]) (ok := fun _ => True) (okp := fun _ => True) ?hr ?hp (fun _ hk => hk) trivial (Below.refl _ _) (Nat.le_refl _) (by simp) ?_; (case hd => rfl); (case hg => rfl); (case hr => first | (go_simp; done) | (go_simp; rfl)); (case hp => exact (Reps.one (show Kd.M Kd.string _ _ _ (⟨#[73, 78, 88]⟩ : ByteArray) [.string (⟨#[73, 78, 88]⟩ : ByteArray)] from rfl) (Reps.one (show Kd.M Kd.string _ _ _ t148 [.string t148] from rfl) (Reps.none _ _)))); intro v150 w48 ho49 hb hg_ hnew_; clear hg_ hnew_; (first | rw [← Ny149.out] at ho49 | (simp only [Int.reduceToNat] at ho49; rw [← Ny149.out] at ho49)); have n0_ := Aside0.mk (Kd.R_lower ho49 (below_size (by repeat (first | (with_reducible first | exact HB.out | apply below_alloc | apply pw_below_drewN | apply below_drew1) | exact HB.out)))); have n1_ := Aside0.mk (below_step (by repeat (first | (with_reducible first | exact HB.out | apply below_alloc | apply pw_below_drewN | apply below_drew1) | exact HB.out)) hb); clear HB; have HO151 := n0_; have HB := n1_; clear n0_ n1_; clear hb ho49; obtain ⟨Ao50, co50, eo50⟩ := Kd.R_slice HO151.out; subst eo50) | ((with_reducible refine gate_callee (f := 46) rfl ?_); refine goesL_ (some 49) rfl rfl Tryd.func46 (by kernel_rfl) rfl #[.slice Ao50 y149.length co50] rfl (by (try simp only [List.map_toArray, List.map_cons, List.map_nil]); first | done | rfl | (simp only [List.length_drop, List.length_take]; rfl)) ?_; (with_reducible refine (isa80_form.calls (fun k_ => some k_ = (.slice Ao50 y149.length co50 : Value).ownBlock) (.slice Ao50 y149.length co50) y149 t152 w _ ?side1 ?side2 A46.out (by first | exact hT | exact tabs_below hT (by repeat (first | (with_reducible first | exact HB.out | apply below_alloc | apply pw_below_drewN | apply below_drew1) | exact HB.out)) | (repeat (first | exact hT | apply tabs_alloc | apply tabs_drewN | apply tabs_drew)))).mono ?_); (case side1 => repeat (first | (with_reducible first | exact HB.out | apply below_alloc | apply pw_below_drewN | apply below_drew1) | exact HB.out)); (case side2 => exact Kd.R_tight rfl HO151.out); rintro e w51 ⟨v153, rfl, ho0, hb, hkp⟩; refine ⟨_, rfl, ?_⟩; have n0_ := Aside0.mk (Kd.R_mono (ok' := fun k_ => True) ho0 (fun k_ hk_ => trivial)); have n1_ := Aside0.mk (hb); clear HB; clear HO151; have HO154 := n0_; have HB := n1_; clear n0_ n1_; (try clear hb); (try clear hkp); (try clear ho0)))
              go_ret
              exact ⟨_, by first | rfl | (simp [errW_none, errW_some] <;> rfl) | (simp [*, errW_none, errW_some] <;> rfl), by (with_reducible repeat (first | apply Kd.R_alloc | apply Kd.R_drewN | apply Kd.R_drew)); exact HO154.out, by repeat (first | (with_reducible first | exact HB.out | apply below_alloc | apply pw_below_drewN | apply below_drew1) | exact HB.out)⟩
            · rw [if_neg c44] at H
              have c44b0 : ((Go.bits .and .u8 a0 15) == 3) = false := beq_eq_false_iff_ne.mpr c44
              have c44b1 : ((Go.bits .and .u8 a0 15) != 3) = true := bne_iff_ne.mpr c44
              by_cases c52 : (Go.bits .and .u8 a0 15) = 9
              · rw [if_pos c52] at H
                have c52b0 : ((Go.bits .and .u8 a0 15) == 9) = true := beq_iff_eq.mpr c52
                have c52b1 : ((Go.bits .and .u8 a0 15) != 9) = false := bne_eq_false_iff_eq.mpr c52
                clear c52
                replace H := Option.bind_eq_some_iff.mp H
                obtain ⟨t155, A530, H⟩ := H
                replace H : ((isa80_form.f (([(⟨#[68, 65, 68]⟩ : ByteArray), t155] : List ByteArray))).bind fun t159 => (some t159)) = some r := H
                have A53 := Aside0.mk A530
                clear A530
                obtain ⟨y156, hy156⟩ : ∃ y_ : List ByteArray, y_ = (([(⟨#[68, 65, 68]⟩ : ByteArray), t155] : List ByteArray)) := ⟨_, rfl⟩
                replace H : ((isa80_form.f y156).bind fun t159 => (some t159)) = some r := by first | (rw [hy156]; with_reducible exact H) | (have H2_ := (Option.bind_some _ _).symm.trans H; rw [hy156]; with_reducible exact H2_) | (have H2_ := (Option.bind_some _ _).symm.trans H; with_reducible exact H2_) | with_reducible exact H | (rw [hy156]; exact H) | exact H
                have Ny156 := Aside0.mk hy156
                clear hy156
                replace H := Option.bind_eq_some_iff.mp H
                obtain ⟨t159, A540, H⟩ := H
                replace H : (some t159) = some r := H
                have A54 := Aside0.mk A540
                clear A540
                obtain rfl := Option.some.inj H
                go_enter Tryd.func45, Tryd.ntmps45
                go_wp2_with (first | ((with_reducible refine gate_callee (f := 62) rfl ?_); refine goesL_ (some 53) rfl rfl Tryd.func62 (by kernel_rfl) rfl #[.int .u8 (a0 / 16)] rfl (by (try simp only [List.map_toArray, List.map_cons, List.map_nil]); first | done | rfl | (simp only [List.length_drop, List.length_take]; rfl)) ?_; (with_reducible refine (isa80_pair.calls (a0 / 16) t155 _ A53.out (by first | exact hT | exact tabs_below hT (by repeat (first | (with_reducible first | exact HB.out | apply below_alloc | apply pw_below_drewN | apply below_drew1) | exact HB.out)) | (repeat (first | exact hT | apply tabs_alloc | apply tabs_drewN | apply tabs_drew)))).mono ?_); rintro e w55 ⟨rfl, hb⟩; refine ⟨_, rfl, ?_⟩; have n0_ := Aside0.mk (below_step (by repeat (first | (with_reducible first | exact HB.out | apply below_alloc | apply pw_below_drewN | apply below_drew1) | exact HB.out)) hb); clear HB; have HB := n0_; clear n0_; (try clear hb); (try clear hb2); (try clear hk); (try clear hi)) | ((with_reducible refine gate_dst (N := 54) rfl ?_); refine Kd.R_lit Kd.string _ 9 ?hg (N := 54) ?hd (xs := ([(⟨#[68, 65, 68]⟩ : ByteArray), t155] : List ByteArray)) (inner := [.string (⟨#[68, 65, 68]⟩ : ByteArray), .string t155]) (ok := fun _ => True) (okp := fun _ => True) ?hr ?hp (fun _ hk => hk) trivial (Below.refl _ _) (Nat.le_refl _) (by simp) ?_; (case hd => rfl); (case hg => rfl); (case hr => first | (go_simp; done) | (go_simp; rfl)); (case hp => exact (Reps.one (show Kd.M Kd.string _ _ _ (⟨#[68, 65, 68]⟩ : ByteArray) [.string (⟨#[68, 65, 68]⟩ : ByteArray)] from rfl) (Reps.one (show Kd.M Kd.string _ _ _ t155 [.string t155] from rfl) (Reps.none _ _)))); intro v157 w56 ho57 hb hg_ hnew_; clear hg_ hnew_; (first | rw [← Ny156.out] at ho57 | (simp only [Int.reduceToNat] at ho57; rw [← Ny156.out] at ho57)); have n0_ := Aside0.mk (Kd.R_lower ho57 (below_size (by repeat (first | (with_reducible first | exact HB.out | apply below_alloc | apply pw_below_drewN | apply below_drew1) | exact HB.out)))); have n1_ := Aside0.mk (below_step (by repeat (first | (with_reducible first | exact HB.out | apply below_alloc | apply pw_below_drewN | apply below_drew1) | exact HB.out)) hb); clear HB; have HO158 := n0_; have HB := n1_; clear n0_ n1_; clear hb ho57; obtain ⟨Ao58, co58, eo58⟩ := Kd.R_slice HO158.out; subst eo58) | ((with_reducible refine gate_callee (f := 46) rfl ?_); refine goesL_ (some 55) rfl rfl Tryd.func46 (by kernel_rfl) rfl #[.slice Ao58 y156.length co58] rfl (by (try simp only [List.map_toArray, List.map_cons, List.map_nil]); first | done | rfl | (simp only [List.length_drop, List.length_take]; rfl)) ?_; (with_reducible refine (isa80_form.calls (fun k_ => some k_ = (.slice Ao58 y156.length co58 : Value).ownBlock) (.slice Ao58 y156.length co58) y156 t159 w _ ?side1 ?side2 A54.out (by first | exact hT | exact tabs_below hT (by repeat (first | (with_reducible first | exact HB.out | apply below_alloc | apply pw_below_drewN | apply below_drew1) | exact HB.out)) | (repeat (first | exact hT | apply tabs_alloc | apply tabs_drewN | apply tabs_drew)))).mono ?_); (case side1 => repeat (first | (with_reducible first | exact HB.out | apply below_alloc | apply pw_below_drewN | apply below_drew1) | exact HB.out)); (case side2 => exact Kd.R_tight rfl HO158.out); rintro e w59 ⟨v160, rfl, ho0, hb, hkp⟩; refine ⟨_, rfl, ?_⟩; have n0_ := Aside0.mk (Kd.R_mono (ok' := fun k_ => True) ho0 (fun k_ hk_ => trivial)); have n1_ := Aside0.mk (hb); clear HB; clear HO158; have HO161 := n0_; have HB := n1_; clear n0_ n1_; (try clear hb); (try clear hkp); (try clear ho0)))
                go_ret
                exact ⟨_, by first | rfl | (simp [errW_none, errW_some] <;> rfl) | (simp [*, errW_none, errW_some] <;> rfl), by (with_reducible repeat (first | apply Kd.R_alloc | apply Kd.R_drewN | apply Kd.R_drew)); exact HO161.out, by repeat (first | (with_reducible first | exact HB.out | apply below_alloc | apply pw_below_drewN | apply below_drew1) | exact HB.out)⟩
              · rw [if_neg c52] at H
                have c52b0 : ((Go.bits .and .u8 a0 15) == 9) = false := beq_eq_false_iff_ne.mpr c52
                have c52b1 : ((Go.bits .and .u8 a0 15) != 9) = true := bne_iff_ne.mpr c52
                by_cases c60 : (Go.bits .and .u8 a0 15) = 11
                · rw [if_pos c60] at H
                  have c60b0 : ((Go.bits .and .u8 a0 15) == 11) = true := beq_iff_eq.mpr c60
                  have c60b1 : ((Go.bits .and .u8 a0 15) != 11) = false := bne_eq_false_iff_eq.mpr c60
                  clear c60
                  replace H := Option.bind_eq_some_iff.mp H
                  obtain ⟨t162, A610, H⟩ := H
                  replace H : ((isa80_form.f (([(⟨#[68, 67, 88]⟩ : ByteArray), t162] : List ByteArray))).bind fun t166 => (some t166)) = some r := H
                  have A61 := Aside0.mk A610
                  clear A610
                  obtain ⟨y163, hy163⟩ : ∃ y_ : List ByteArray, y_ = (([(⟨#[68, 67, 88]⟩ : ByteArray), t162] : List ByteArray)) := ⟨_, rfl⟩
                  replace H : ((isa80_form.f y163).bind fun t166 => (some t166)) = some r := by first | (rw [hy163]; with_reducible exact H) | (have H2_ := (Option.bind_some _ _).symm.trans H; rw [hy163]; with_reducible exact H2_) | (have H2_ := (Option.bind_some _ _).symm.trans H; with_reducible exact H2_) | with_reducible exact H | (rw [hy163]; exact H) | exact H
                  have Ny163 := Aside0.mk hy163
                  clear hy163
                  replace H := Option.bind_eq_some_iff.mp H
                  obtain ⟨t166, A620, H⟩ := H
                  replace H : (some t166) = some r := H
                  have A62 := Aside0.mk A620
                  clear A620
                  obtain rfl := Option.some.inj H
                  go_enter Tryd.func45, Tryd.ntmps45
                  go_wp2_with (first | ((with_reducible refine gate_callee (f := 62) rfl ?_); refine goesL_ (some 59) rfl rfl Tryd.func62 (by kernel_rfl) rfl #[.int .u8 (a0 / 16)] rfl (by (try simp only [List.map_toArray, List.map_cons, List.map_nil]); first | done | rfl | (simp only [List.length_drop, List.length_take]; rfl)) ?_; (with_reducible refine (isa80_pair.calls (a0 / 16) t162 _ A61.out (by first | exact hT | exact tabs_below hT (by repeat (first | (with_reducible first | exact HB.out | apply below_alloc | apply pw_below_drewN | apply below_drew1) | exact HB.out)) | (repeat (first | exact hT | apply tabs_alloc | apply tabs_drewN | apply tabs_drew)))).mono ?_); rintro e w63 ⟨rfl, hb⟩; refine ⟨_, rfl, ?_⟩; have n0_ := Aside0.mk (below_step (by repeat (first | (with_reducible first | exact HB.out | apply below_alloc | apply pw_below_drewN | apply below_drew1) | exact HB.out)) hb); clear HB; have HB := n0_; clear n0_; (try clear hb); (try clear hb2); (try clear hk); (try clear hi)) | ((with_reducible refine gate_dst (N := 60) rfl ?_); refine Kd.R_lit Kd.string _ 9 ?hg (N := 60) ?hd (xs := ([(⟨#[68, 67, 88]⟩ : ByteArray), t162] : List ByteArray)) (inner := [.string (⟨#[68, 67, 88]⟩ : ByteArray), .string t162]) (ok := fun _ => True) (okp := fun _ => True) ?hr ?hp (fun _ hk => hk) trivial (Below.refl _ _) (Nat.le_refl _) (by simp) ?_; (case hd => rfl); (case hg => rfl); (case hr => first | (go_simp; done) | (go_simp; rfl)); (case hp => exact (Reps.one (show Kd.M Kd.string _ _ _ (⟨#[68, 67, 88]⟩ : ByteArray) [.string (⟨#[68, 67, 88]⟩ : ByteArray)] from rfl) (Reps.one (show Kd.M Kd.string _ _ _ t162 [.string t162] from rfl) (Reps.none _ _)))); intro v164 w64 ho65 hb hg_ hnew_; clear hg_ hnew_; (first | rw [← Ny163.out] at ho65 | (simp only [Int.reduceToNat] at ho65; rw [← Ny163.out] at ho65)); have n0_ := Aside0.mk (Kd.R_lower ho65 (below_size (by repeat (first | (with_reducible first | exact HB.out | apply below_alloc | apply pw_below_drewN | apply below_drew1) | exact HB.out)))); have n1_ := Aside0.mk (below_step (by repeat (first | (with_reducible first | exact HB.out | apply below_alloc | apply pw_below_drewN | apply below_drew1) | exact HB.out)) hb); clear HB; have HO165 := n0_; have HB := n1_; clear n0_ n1_; clear hb ho65; obtain ⟨Ao66, co66, eo66⟩ := Kd.R_slice HO165.out; subst eo66) | ((with_reducible refine gate_callee (f := 46) rfl ?_); refine goesL_ (some 61) rfl rfl Tryd.func46 (by kernel_rfl) rfl #[.slice Ao66 y163.length co66] rfl (by (try simp only [List.map_toArray, List.map_cons, List.map_nil]); first | done | rfl | (simp only [List.length_drop, List.length_take]; rfl)) ?_; (with_reducible refine (isa80_form.calls (fun k_ => some k_ = (.slice Ao66 y163.length co66 : Value).ownBlock) (.slice Ao66 y163.length co66) y163 t166 w _ ?side1 ?side2 A62.out (by first | exact hT | exact tabs_below hT (by repeat (first | (with_reducible first | exact HB.out | apply below_alloc | apply pw_below_drewN | apply below_drew1) | exact HB.out)) | (repeat (first | exact hT | apply tabs_alloc | apply tabs_drewN | apply tabs_drew)))).mono ?_); (case side1 => repeat (first | (with_reducible first | exact HB.out | apply below_alloc | apply pw_below_drewN | apply below_drew1) | exact HB.out)); (case side2 => exact Kd.R_tight rfl HO165.out); rintro e w67 ⟨v167, rfl, ho0, hb, hkp⟩; refine ⟨_, rfl, ?_⟩; have n0_ := Aside0.mk (Kd.R_mono (ok' := fun k_ => True) ho0 (fun k_ hk_ => trivial)); have n1_ := Aside0.mk (hb); clear HB; clear HO165; have HO168 := n0_; have HB := n1_; clear n0_ n1_; (try clear hb); (try clear hkp); (try clear ho0)))
                  go_ret
                  exact ⟨_, by first | rfl | (simp [errW_none, errW_some] <;> rfl) | (simp [*, errW_none, errW_some] <;> rfl), by (with_reducible repeat (first | apply Kd.R_alloc | apply Kd.R_drewN | apply Kd.R_drew)); exact HO168.out, by repeat (first | (with_reducible first | exact HB.out | apply below_alloc | apply pw_below_drewN | apply below_drew1) | exact HB.out)⟩
                · rw [if_neg c60] at H
                  have c60b0 : ((Go.bits .and .u8 a0 15) == 11) = false := beq_eq_false_iff_ne.mpr c60
                  have c60b1 : ((Go.bits .and .u8 a0 15) != 11) = true := bne_iff_ne.mpr c60
                  by_cases c68 : a0 = 0
                  · rw [if_pos c68] at H
                    have c68b0 : (a0 == 0) = true := beq_iff_eq.mpr c68
                    have c68b1 : (a0 != 0) = false := bne_eq_false_iff_eq.mpr c68
                    clear c68
                    obtain ⟨y169, hy169⟩ : ∃ y_ : List ByteArray, y_ = (([(⟨#[78, 79, 80]⟩ : ByteArray)] : List ByteArray)) := ⟨_, rfl⟩
                    replace H : ((isa80_form.f y169).bind fun t172 => (some t172)) = some r := by first | (rw [hy169]; with_reducible exact H) | (have H2_ := (Option.bind_some _ _).symm.trans H; rw [hy169]; with_reducible exact H2_) | (have H2_ := (Option.bind_some _ _).symm.trans H; with_reducible exact H2_) | with_reducible exact H | (rw [hy169]; exact H) | exact H
                    have Ny169 := Aside0.mk hy169
                    clear hy169
                    replace H := Option.bind_eq_some_iff.mp H
                    obtain ⟨t172, A690, H⟩ := H
                    replace H : (some t172) = some r := H
                    have A69 := Aside0.mk A690
                    clear A690
                    obtain rfl := Option.some.inj H
                    go_enter Tryd.func45, Tryd.ntmps45
                    go_wp2_with (first | ((with_reducible refine gate_dst (N := 65) rfl ?_); refine Kd.R_lit Kd.string _ 9 ?hg (N := 65) ?hd (xs := ([(⟨#[78, 79, 80]⟩ : ByteArray)] : List ByteArray)) (inner := [.string (⟨#[78, 79, 80]⟩ : ByteArray)]) (ok := fun _ => True) (okp := fun _ => True) ?hr ?hp (fun _ hk => hk) trivial (Below.refl _ _) (Nat.le_refl _) (by simp) ?_; (case hd => rfl); (case hg => rfl); (case hr => first | (go_simp; done) | (go_simp; rfl)); (case hp => exact (Reps.one (show Kd.M Kd.string _ _ _ (⟨#[78, 79, 80]⟩ : ByteArray) [.string (⟨#[78, 79, 80]⟩ : ByteArray)] from rfl) (Reps.none _ _))); intro v170 w70 ho71 hb hg_ hnew_; clear hg_ hnew_; (first | rw [← Ny169.out] at ho71 | (simp only [Int.reduceToNat] at ho71; rw [← Ny169.out] at ho71)); have n0_ := Aside0.mk (Kd.R_lower ho71 (below_size (by repeat (first | (with_reducible first | exact HB.out | apply below_alloc | apply pw_below_drewN | apply below_drew1) | exact HB.out)))); have n1_ := Aside0.mk (below_step (by repeat (first | (with_reducible first | exact HB.out | apply below_alloc | apply pw_below_drewN | apply below_drew1) | exact HB.out)) hb); clear HB; have HO171 := n0_; have HB := n1_; clear n0_ n1_; clear hb ho71; obtain ⟨Ao72, co72, eo72⟩ := Kd.R_slice HO171.out; subst eo72) | ((with_reducible refine gate_callee (f := 46) rfl ?_); refine goesL_ (some 66) rfl rfl Tryd.func46 (by kernel_rfl) rfl #[.slice Ao72 y169.length co72] rfl (by (try simp only [List.map_toArray, List.map_cons, List.map_nil]); first | done | rfl | (simp only [List.length_drop, List.length_take]; rfl)) ?_; (with_reducible refine (isa80_form.calls (fun k_ => some k_ = (.slice Ao72 y169.length co72 : Value).ownBlock) (.slice Ao72 y169.length co72) y169 t172 w _ ?side1 ?side2 A69.out (by first | exact hT | exact tabs_below hT (by repeat (first | (with_reducible first | exact HB.out | apply below_alloc | apply pw_below_drewN | apply below_drew1) | exact HB.out)) | (repeat (first | exact hT | apply tabs_alloc | apply tabs_drewN | apply tabs_drew)))).mono ?_); (case side1 => repeat (first | (with_reducible first | exact HB.out | apply below_alloc | apply pw_below_drewN | apply below_drew1) | exact HB.out)); (case side2 => exact Kd.R_tight rfl HO171.out); rintro e w73 ⟨v173, rfl, ho0, hb, hkp⟩; refine ⟨_, rfl, ?_⟩; have n0_ := Aside0.mk (Kd.R_mono (ok' := fun k_ => True) ho0 (fun k_ hk_ => trivial)); have n1_ := Aside0.mk (hb); clear HB; clear HO171; have HO174 := n0_; have HB := n1_; clear n0_ n1_; (try clear hb); (try clear hkp); (try clear ho0)))
                    go_ret
                    exact ⟨_, by first | rfl | (simp [errW_none, errW_some] <;> rfl) | (simp [*, errW_none, errW_some] <;> rfl), by (with_reducible repeat (first | apply Kd.R_alloc | apply Kd.R_drewN | apply Kd.R_drew)); exact HO174.out, by repeat (first | (with_reducible first | exact HB.out | apply below_alloc | apply pw_below_drewN | apply below_drew1) | exact HB.out)⟩
                  · rw [if_neg c68] at H
                    have c68b0 : (a0 == 0) = false := beq_eq_false_iff_ne.mpr c68
                    have c68b1 : (a0 != 0) = true := bne_iff_ne.mpr c68
                    have HC74 := Aside0.mk H
                    clear H
                    go_enter Tryd.func45, Tryd.ntmps45
                    go_upto_if 67 with (fail)
                    go_cut [67] (fun v67 wc => ∃ (kq : Nat) (x67_73 : Bool), v67 = .bool x67_73 ∧ Aside0 (isa80_low.j0 kq (a0 / 8) (a0 / 16) a0 x67_73 = some r) ∧ Aside0 (kq ≤ k) ∧ Aside0 (Below w.heap.size w wc))
                    case first =>
                      have H := HC74.out
                      clear HC74
                      by_cases c75 : a0 = 2
                      · rw [if_pos c75] at H
                        have c75b0 : (a0 == 2) = true := beq_iff_eq.mpr c75
                        have c75b1 : (a0 != 2) = false := bne_eq_false_iff_eq.mpr c75
                        clear c75
                        (first | rw [c75b0] | (simp only [i64_w, i32_w]; rw [c75b0]) | skip)
                        have H' := Aside0.mk H
                        clear H
                        go_wp2
                        go_meet
                        case rel => exact ⟨_, ((a0 == 2)), (by first | rfl | (simp; done) | (simp [*]; done)), H', ⟨by first | omega | exact Nat.le_refl _⟩, ⟨by repeat (first | (with_reducible first | exact HB.out | apply below_alloc | apply pw_below_drewN | apply below_drew1) | exact HB.out)⟩⟩
                      · rw [if_neg c75] at H
                        have c75b0 : (a0 == 2) = false := beq_eq_false_iff_ne.mpr c75
                        have c75b1 : (a0 != 2) = true := bne_iff_ne.mpr c75
                        (first | rw [c75b0] | (simp only [i64_w, i32_w]; rw [c75b0]) | skip)
                        have H' := Aside0.mk H
                        clear H
                        go_wp2
                        go_meet
                        case rel => exact ⟨_, ((a0 == 18)), (by first | rfl | (simp; done) | (simp [*]; done)), H', ⟨by first | omega | exact Nat.le_refl _⟩, ⟨by repeat (first | (with_reducible first | exact HB.out | apply below_alloc | apply pw_below_drewN | apply below_drew1) | exact HB.out)⟩⟩
                    case rest =>
                      clear HC74
                      try clear c1
                      try clear c2
                      try clear c2b0
                      try clear c2b1
                      try clear p2
                      try clear c3
                      try clear c4
                      try clear c5
                      try clear c6
                      try clear c7
                      try clear c10
                      try clear c10b0
                      try clear c10b1
                      try clear c18
                      try clear c18b0
                      try clear c18b1
                      try clear c26
                      try clear c26b0
                      try clear c26b1
                      try clear c36
                      try clear c36b0
                      try clear c36b1
                      try clear c44
                      try clear c44b0
                      try clear c44b1
                      try clear c45
                      try clear c46
                      try clear c47
                      try clear c48
                      try clear c52
                      try clear c52b0
                      try clear c52b1
                      try clear c60
                      try clear c60b0
                      try clear c60b1
                      try clear c62
                      try clear c68
                      try clear c68b0
                      try clear c68b1
                      try clear c75
                      try clear c75b0
                      try clear c75b1
                      obtain ⟨kq, x67_73, rfl, HA, HJ73, HB⟩ := hcut
                      cases kq with
                      | zero => exact absurd HA.out (by simp [isa80_low.j0])
                      | succ kj73 =>
                        have H := HA.out
                        clear HA
                        simp only [isa80_low.j0] at H
                        by_cases c76 : x67_73 = true
                        · subst c76
                          have H1 : ((isa80_pair.f (a0 / 16)).bind fun t175 => ((isa80_form.f (([(⟨#[83, 84, 65, 88]⟩ : ByteArray), t175] : List ByteArray))).bind fun t179 => (some t179))) = some r := by rw [if_pos rfl] at H; exact H
                          clear H
                          have H := H1
                          clear H1
                          replace H := Option.bind_eq_some_iff.mp H
                          obtain ⟨t175, A770, H⟩ := H
                          replace H : ((isa80_form.f (([(⟨#[83, 84, 65, 88]⟩ : ByteArray), t175] : List ByteArray))).bind fun t179 => (some t179)) = some r := H
                          have A77 := Aside0.mk A770
                          clear A770
                          obtain ⟨y176, hy176⟩ : ∃ y_ : List ByteArray, y_ = (([(⟨#[83, 84, 65, 88]⟩ : ByteArray), t175] : List ByteArray)) := ⟨_, rfl⟩
                          replace H : ((isa80_form.f y176).bind fun t179 => (some t179)) = some r := by first | (rw [hy176]; with_reducible exact H) | (have H2_ := (Option.bind_some _ _).symm.trans H; rw [hy176]; with_reducible exact H2_) | (have H2_ := (Option.bind_some _ _).symm.trans H; with_reducible exact H2_) | with_reducible exact H | (rw [hy176]; exact H) | exact H
                          have Ny176 := Aside0.mk hy176
                          clear hy176
                          replace H := Option.bind_eq_some_iff.mp H
                          obtain ⟨t179, A780, H⟩ := H
                          replace H : (some t179) = some r := H
                          have A78 := Aside0.mk A780
                          clear A780
                          obtain rfl := Option.some.inj H
                          go_wp2_with (first | ((with_reducible refine gate_callee (f := 62) rfl ?_); refine goesL_ (some 71) rfl rfl Tryd.func62 (by kernel_rfl) rfl #[.int .u8 (a0 / 16)] rfl (by (try simp only [List.map_toArray, List.map_cons, List.map_nil]); first | done | rfl | (simp only [List.length_drop, List.length_take]; rfl)) ?_; (with_reducible refine (isa80_pair.calls (a0 / 16) t175 _ A77.out (by first | exact hT | exact tabs_below hT (by repeat (first | (with_reducible first | exact HB.out | apply below_alloc | apply pw_below_drewN | apply below_drew1) | exact HB.out)) | (repeat (first | exact hT | apply tabs_alloc | apply tabs_drewN | apply tabs_drew)))).mono ?_); rintro e w79 ⟨rfl, hb⟩; refine ⟨_, rfl, ?_⟩; have n0_ := Aside0.mk (below_step (by repeat (first | (with_reducible first | exact HB.out | apply below_alloc | apply pw_below_drewN | apply below_drew1) | exact HB.out)) hb); clear HB; have HB := n0_; clear n0_; (try clear hb); (try clear hb2); (try clear hk); (try clear hi)) | ((with_reducible refine gate_dst (N := 72) rfl ?_); refine Kd.R_lit Kd.string _ 9 ?hg (N := 72) ?hd (xs := ([(⟨#[83, 84, 65, 88]⟩ : ByteArray), t175] : List ByteArray)) (inner := [.string (⟨#[83, 84, 65, 88]⟩ : ByteArray), .string t175]) (ok := fun _ => True) (okp := fun _ => True) ?hr ?hp (fun _ hk => hk) trivial (Below.refl _ _) (Nat.le_refl _) (by simp) ?_; (case hd => rfl); (case hg => rfl); (case hr => first | (go_simp; done) | (go_simp; rfl)); (case hp => exact (Reps.one (show Kd.M Kd.string _ _ _ (⟨#[83, 84, 65, 88]⟩ : ByteArray) [.string (⟨#[83, 84, 65, 88]⟩ : ByteArray)] from rfl) (Reps.one (show Kd.M Kd.string _ _ _ t175 [.string t175] from rfl) (Reps.none _ _)))); intro v177 w80 ho81 hb hg_ hnew_; clear hg_ hnew_; (first | rw [← Ny176.out] at ho81 | (simp only [Int.reduceToNat] at ho81; rw [← Ny176.out] at ho81)); have n0_ := Aside0.mk (Kd.R_lower ho81 (below_size (by repeat (first | (with_reducible first | exact HB.out | apply below_alloc | apply pw_below_drewN | apply below_drew1) | exact HB.out)))); have n1_ := Aside0.mk (below_step (by repeat (first | (with_reducible first | exact HB.out | apply below_alloc | apply pw_below_drewN | apply below_drew1) | exact HB.out)) hb); clear HB; have HO178 := n0_; have HB := n1_; clear n0_ n1_; clear hb ho81; obtain ⟨Ao82, co82, eo82⟩ := Kd.R_slice HO178.out; subst eo82) | ((with_reducible refine gate_callee (f := 46) rfl ?_); refine goesL_ (some 73) rfl rfl Tryd.func46 (by kernel_rfl) rfl #[.slice Ao82 y176.length co82] rfl (by (try simp only [List.map_toArray, List.map_cons, List.map_nil]); first | done | rfl | (simp only [List.length_drop, List.length_take]; rfl)) ?_; (with_reducible refine (isa80_form.calls (fun k_ => some k_ = (.slice Ao82 y176.length co82 : Value).ownBlock) (.slice Ao82 y176.length co82) y176 t179 w _ ?side1 ?side2 A78.out (by first | exact hT | exact tabs_below hT (by repeat (first | (with_reducible first | exact HB.out | apply below_alloc | apply pw_below_drewN | apply below_drew1) | exact HB.out)) | (repeat (first | exact hT | apply tabs_alloc | apply tabs_drewN | apply tabs_drew)))).mono ?_); (case side1 => repeat (first | (with_reducible first | exact HB.out | apply below_alloc | apply pw_below_drewN | apply below_drew1) | exact HB.out)); (case side2 => exact Kd.R_tight rfl HO178.out); rintro e w83 ⟨v180, rfl, ho0, hb, hkp⟩; refine ⟨_, rfl, ?_⟩; have n0_ := Aside0.mk (Kd.R_mono (ok' := fun k_ => True) ho0 (fun k_ hk_ => trivial)); have n1_ := Aside0.mk (hb); clear HB; clear HO178; have HO181 := n0_; have HB := n1_; clear n0_ n1_; (try clear hb); (try clear hkp); (try clear ho0)))
                          go_ret
                          exact ⟨_, by first | rfl | (simp [errW_none, errW_some] <;> rfl) | (simp [*, errW_none, errW_some] <;> rfl), by (with_reducible repeat (first | apply Kd.R_alloc | apply Kd.R_drewN | apply Kd.R_drew)); exact HO181.out, by repeat (first | (with_reducible first | exact HB.out | apply below_alloc | apply pw_below_drewN | apply below_drew1) | exact HB.out)⟩
                        · replace c76 := Bool.eq_false_iff.mpr c76
                          subst c76
                          have H1 : (if a0 = 10 then (isa80_low.j1 kj73 (a0 / 8) (a0 / 16) a0 (a0 == 10)) else (isa80_low.j1 kj73 (a0 / 8) (a0 / 16) a0 (a0 == 26))) = some r := by rw [if_neg (show ¬ (false = true) by decide)] at H; exact H
                          clear H
                          have H := H1
                          clear H1
                          have HC84 := Aside0.mk H
                          clear H
                          go_upto_if 74 with (fail)
                          go_cut [74] (fun v74 wc => ∃ (kq : Nat) (x74_83 : Bool), v74 = .bool x74_83 ∧ Aside0 (isa80_low.j1 kq (a0 / 8) (a0 / 16) a0 x74_83 = some r) ∧ Aside0 (kq ≤ kj73) ∧ Aside0 (Below w.heap.size w wc))
                          case first =>
                            have H := HC84.out
                            clear HC84
                            by_cases c85 : a0 = 10
                            · rw [if_pos c85] at H
                              have c85b0 : (a0 == 10) = true := beq_iff_eq.mpr c85
                              have c85b1 : (a0 != 10) = false := bne_eq_false_iff_eq.mpr c85
                              clear c85
                              (first | rw [c85b0] | (simp only [i64_w, i32_w]; rw [c85b0]) | skip)
                              have H' := Aside0.mk H
                              clear H
                              go_wp2
                              go_meet
                              case rel => exact ⟨_, ((a0 == 10)), (by first | rfl | (simp; done) | (simp [*]; done)), H', ⟨by have := HJ73.out; first | omega | exact Nat.le_refl _⟩, ⟨by repeat (first | (with_reducible first | exact HB.out | apply below_alloc | apply pw_below_drewN | apply below_drew1) | exact HB.out)⟩⟩
                            · rw [if_neg c85] at H
                              have c85b0 : (a0 == 10) = false := beq_eq_false_iff_ne.mpr c85
                              have c85b1 : (a0 != 10) = true := bne_iff_ne.mpr c85
                              (first | rw [c85b0] | (simp only [i64_w, i32_w]; rw [c85b0]) | skip)
                              have H' := Aside0.mk H
                              clear H
                              go_wp2
                              go_meet
                              case rel => exact ⟨_, ((a0 == 26)), (by first | rfl | (simp; done) | (simp [*]; done)), H', ⟨by have := HJ73.out; first | omega | exact Nat.le_refl _⟩, ⟨by repeat (first | (with_reducible first | exact HB.out | apply below_alloc | apply pw_below_drewN | apply below_drew1) | exact HB.out)⟩⟩
                          case rest =>
                            clear HC84
                            try clear c1
                            try clear c2
                            try clear c2b0
                            try clear c2b1
                            try clear p2
                            try clear c3
                            try clear c4
                            try clear c5
                            try clear c6
                            try clear c7
                            try clear c8
                            try clear c10
                            try clear c10b0
                            try clear c10b1
                            try clear c18
                            try clear c18b0
                            try clear c18b1
                            try clear c26
                            try clear c26b0
                            try clear c26b1
                            try clear c36
                            try clear c36b0
                            try clear c36b1
                            try clear c44
                            try clear c44b0
                            try clear c44b1
                            try clear c45
                            try clear c46
                            try clear c47
                            try clear c48
                            try clear c52
                            try clear c52b0
                            try clear c52b1
                            try clear c60
                            try clear c60b0
                            try clear c60b1
                            try clear c62
                            try clear c68
                            try clear c68b0
                            try clear c68b1
                            try clear c75
                            try clear c75b0
                            try clear c75b1
                            try clear c76
                            try clear c85
                            try clear c85b0
                            try clear c85b1
                            try clear p2
                            obtain ⟨kq, x74_83, rfl, HA, HJ83, HB⟩ := hcut
                            cases kq with
                            | zero => exact absurd HA.out (by simp [isa80_low.j1])
                            | succ kj83 =>
                              have H := HA.out
                              clear HA
                              simp only [isa80_low.j1] at H
                              by_cases c86 : x74_83 = true
                              · subst c86
                                have H1 : ((isa80_pair.f (a0 / 16)).bind fun t182 => ((isa80_form.f (([(⟨#[76, 68, 65, 88]⟩ : ByteArray), t182] : List ByteArray))).bind fun t186 => (some t186))) = some r := by rw [if_pos rfl] at H; exact H
                                clear H
                                have H := H1
                                clear H1
                                replace H := Option.bind_eq_some_iff.mp H
                                obtain ⟨t182, A870, H⟩ := H
                                replace H : ((isa80_form.f (([(⟨#[76, 68, 65, 88]⟩ : ByteArray), t182] : List ByteArray))).bind fun t186 => (some t186)) = some r := H
                                have A87 := Aside0.mk A870
                                clear A870
                                obtain ⟨y183, hy183⟩ : ∃ y_ : List ByteArray, y_ = (([(⟨#[76, 68, 65, 88]⟩ : ByteArray), t182] : List ByteArray)) := ⟨_, rfl⟩
                                replace H : ((isa80_form.f y183).bind fun t186 => (some t186)) = some r := by first | (rw [hy183]; with_reducible exact H) | (have H2_ := (Option.bind_some _ _).symm.trans H; rw [hy183]; with_reducible exact H2_) | (have H2_ := (Option.bind_some _ _).symm.trans H; with_reducible exact H2_) | with_reducible exact H | (rw [hy183]; exact H) | exact H
                                have Ny183 := Aside0.mk hy183
                                clear hy183
                                replace H := Option.bind_eq_some_iff.mp H
                                obtain ⟨t186, A880, H⟩ := H
                                replace H : (some t186) = some r := H
                                have A88 := Aside0.mk A880
                                clear A880
                                obtain rfl := Option.some.inj H
                                go_wp2_with (first | ((with_reducible refine gate_callee (f := 62) rfl ?_); refine goesL_ (some 78) rfl rfl Tryd.func62 (by kernel_rfl) rfl #[.int .u8 (a0 / 16)] rfl (by (try simp only [List.map_toArray, List.map_cons, List.map_nil]); first | done | rfl | (simp only [List.length_drop, List.length_take]; rfl)) ?_; (with_reducible refine (isa80_pair.calls (a0 / 16) t182 _ A87.out (by first | exact hT | exact tabs_below hT (by repeat (first | (with_reducible first | exact HB.out | apply below_alloc | apply pw_below_drewN | apply below_drew1) | exact HB.out)) | (repeat (first | exact hT | apply tabs_alloc | apply tabs_drewN | apply tabs_drew)))).mono ?_); rintro e w89 ⟨rfl, hb⟩; refine ⟨_, rfl, ?_⟩; have n0_ := Aside0.mk (below_step (by repeat (first | (with_reducible first | exact HB.out | apply below_alloc | apply pw_below_drewN | apply below_drew1) | exact HB.out)) hb); clear HB; have HB := n0_; clear n0_; (try clear hb); (try clear hb2); (try clear hk); (try clear hi)) | ((with_reducible refine gate_dst (N := 79) rfl ?_); refine Kd.R_lit Kd.string _ 9 ?hg (N := 79) ?hd (xs := ([(⟨#[76, 68, 65, 88]⟩ : ByteArray), t182] : List ByteArray)) (inner := [.string (⟨#[76, 68, 65, 88]⟩ : ByteArray), .string t182]) (ok := fun _ => True) (okp := fun _ => True) ?hr ?hp (fun _ hk => hk) trivial (Below.refl _ _) (Nat.le_refl _) (by simp) ?_; (case hd => rfl); (case hg => rfl); (case hr => first | (go_simp; done) | (go_simp; rfl)); (case hp => exact (Reps.one (show Kd.M Kd.string _ _ _ (⟨#[76, 68, 65, 88]⟩ : ByteArray) [.string (⟨#[76, 68, 65, 88]⟩ : ByteArray)] from rfl) (Reps.one (show Kd.M Kd.string _ _ _ t182 [.string t182] from rfl) (Reps.none _ _)))); intro v184 w90 ho91 hb hg_ hnew_; clear hg_ hnew_; (first | rw [← Ny183.out] at ho91 | (simp only [Int.reduceToNat] at ho91; rw [← Ny183.out] at ho91)); have n0_ := Aside0.mk (Kd.R_lower ho91 (below_size (by repeat (first | (with_reducible first | exact HB.out | apply below_alloc | apply pw_below_drewN | apply below_drew1) | exact HB.out)))); have n1_ := Aside0.mk (below_step (by repeat (first | (with_reducible first | exact HB.out | apply below_alloc | apply pw_below_drewN | apply below_drew1) | exact HB.out)) hb); clear HB; have HO185 := n0_; have HB := n1_; clear n0_ n1_; clear hb ho91; obtain ⟨Ao92, co92, eo92⟩ := Kd.R_slice HO185.out; subst eo92) | ((with_reducible refine gate_callee (f := 46) rfl ?_); refine goesL_ (some 80) rfl rfl Tryd.func46 (by kernel_rfl) rfl #[.slice Ao92 y183.length co92] rfl (by (try simp only [List.map_toArray, List.map_cons, List.map_nil]); first | done | rfl | (simp only [List.length_drop, List.length_take]; rfl)) ?_; (with_reducible refine (isa80_form.calls (fun k_ => some k_ = (.slice Ao92 y183.length co92 : Value).ownBlock) (.slice Ao92 y183.length co92) y183 t186 w _ ?side1 ?side2 A88.out (by first | exact hT | exact tabs_below hT (by repeat (first | (with_reducible first | exact HB.out | apply below_alloc | apply pw_below_drewN | apply below_drew1) | exact HB.out)) | (repeat (first | exact hT | apply tabs_alloc | apply tabs_drewN | apply tabs_drew)))).mono ?_); (case side1 => repeat (first | (with_reducible first | exact HB.out | apply below_alloc | apply pw_below_drewN | apply below_drew1) | exact HB.out)); (case side2 => exact Kd.R_tight rfl HO185.out); rintro e w93 ⟨v187, rfl, ho0, hb, hkp⟩; refine ⟨_, rfl, ?_⟩; have n0_ := Aside0.mk (Kd.R_mono (ok' := fun k_ => True) ho0 (fun k_ hk_ => trivial)); have n1_ := Aside0.mk (hb); clear HB; clear HO185; have HO188 := n0_; have HB := n1_; clear n0_ n1_; (try clear hb); (try clear hkp); (try clear ho0)))
                                go_ret
                                exact ⟨_, by first | rfl | (simp [errW_none, errW_some] <;> rfl) | (simp [*, errW_none, errW_some] <;> rfl), by (with_reducible repeat (first | apply Kd.R_alloc | apply Kd.R_drewN | apply Kd.R_drew)); exact HO188.out, by repeat (first | (with_reducible first | exact HB.out | apply below_alloc | apply pw_below_drewN | apply below_drew1) | exact HB.out)⟩
                              · replace c86 := Bool.eq_false_iff.mpr c86
                                subst c86
                                have H1 : (if a0 = 34 then (isa80_low.j2 kj83 (a0 / 8) (a0 == 34)) else (if a0 = 42 then (isa80_low.j2 kj83 (a0 / 8) (a0 == 42)) else (if a0 = 50 then (isa80_low.j2 kj83 (a0 / 8) (a0 == 50)) else (isa80_low.j2 kj83 (a0 / 8) (a0 == 58))))) = some r := by rw [if_neg (show ¬ (false = true) by decide)] at H; exact H
                                clear H
                                have H := H1
                                clear H1
                                have HC94 := Aside0.mk H
                                clear H
                                go_upto_if 81 with (fail)
                                go_cut [81] (fun v81 wc => ∃ (kq : Nat) (x81_93 : Bool), v81 = .bool x81_93 ∧ Aside0 (isa80_low.j2 kq (a0 / 8) x81_93 = some r) ∧ Aside0 (kq ≤ kj83) ∧ Aside0 (Below w.heap.size w wc))
                                case first =>
                                  have H := HC94.out
                                  clear HC94
                                  by_cases c95 : a0 = 34
                                  · rw [if_pos c95] at H
                                    have c95b0 : (a0 == 34) = true := beq_iff_eq.mpr c95
                                    have c95b1 : (a0 != 34) = false := bne_eq_false_iff_eq.mpr c95
                                    clear c95
                                    (first | rw [c95b0] | (simp only [i64_w, i32_w]; rw [c95b0]) | skip)
                                    have H' := Aside0.mk H
                                    clear H
                                    go_wp2
                                    go_meet
                                    case rel => exact ⟨_, ((a0 == 34)), (by first | rfl | (simp; done) | (simp [*]; done)), H', ⟨by have := HJ73.out; have := HJ83.out; first | omega | exact Nat.le_refl _⟩, ⟨by repeat (first | (with_reducible first | exact HB.out | apply below_alloc | apply pw_below_drewN | apply below_drew1) | exact HB.out)⟩⟩
                                  · rw [if_neg c95] at H
                                    have c95b0 : (a0 == 34) = false := beq_eq_false_iff_ne.mpr c95
                                    have c95b1 : (a0 != 34) = true := bne_iff_ne.mpr c95
                                    (first | rw [c95b0] | (simp only [i64_w, i32_w]; rw [c95b0]) | skip)
                                    by_cases c96 : a0 = 42
                                    · rw [if_pos c96] at H
                                      have c96b0 : (a0 == 42) = true := beq_iff_eq.mpr c96
                                      have c96b1 : (a0 != 42) = false := bne_eq_false_iff_eq.mpr c96
                                      clear c96
                                      have H' := Aside0.mk H
                                      clear H
                                      go_wp2
                                      go_meet
                                      case rel => exact ⟨_, ((a0 == 42)), (by first | rfl | (simp; done) | (simp [*]; done)), H', ⟨by have := HJ73.out; have := HJ83.out; first | omega | exact Nat.le_refl _⟩, ⟨by repeat (first | (with_reducible first | exact HB.out | apply below_alloc | apply pw_below_drewN | apply below_drew1) | exact HB.out)⟩⟩
                                    · rw [if_neg c96] at H
                                      have c96b0 : (a0 == 42) = false := beq_eq_false_iff_ne.mpr c96
                                      have c96b1 : (a0 != 42) = true := bne_iff_ne.mpr c96
                                      by_cases c97 : a0 = 50
                                      · rw [if_pos c97] at H
                                        have c97b0 : (a0 == 50) = true := beq_iff_eq.mpr c97
                                        have c97b1 : (a0 != 50) = false := bne_eq_false_iff_eq.mpr c97
                                        clear c97
                                        have H' := Aside0.mk H
                                        clear H
                                        go_wp2
                                        go_meet
                                        case rel => exact ⟨_, ((a0 == 50)), (by first | rfl | (simp; done) | (simp [*]; done)), H', ⟨by have := HJ73.out; have := HJ83.out; first | omega | exact Nat.le_refl _⟩, ⟨by repeat (first | (with_reducible first | exact HB.out | apply below_alloc | apply pw_below_drewN | apply below_drew1) | exact HB.out)⟩⟩
                                      · rw [if_neg c97] at H
                                        have c97b0 : (a0 == 50) = false := beq_eq_false_iff_ne.mpr c97
                                        have c97b1 : (a0 != 50) = true := bne_iff_ne.mpr c97
                                        have H' := Aside0.mk H
                                        clear H
                                        go_wp2
                                        go_meet
                                        case rel => exact ⟨_, ((a0 == 58)), (by first | rfl | (simp; done) | (simp [*]; done)), H', ⟨by have := HJ73.out; have := HJ83.out; first | omega | exact Nat.le_refl _⟩, ⟨by repeat (first | (with_reducible first | exact HB.out | apply below_alloc | apply pw_below_drewN | apply below_drew1) | exact HB.out)⟩⟩
                                case rest =>
                                  clear HC94
                                  try clear c1
                                  try clear c2
                                  try clear c2b0
                                  try clear c2b1
                                  try clear p2
                                  try clear c3
                                  try clear c4
                                  try clear c5
                                  try clear c6
                                  try clear c7
                                  try clear c8
                                  try clear c9
                                  try clear c10
                                  try clear c10b0
                                  try clear c10b1
                                  try clear c18
                                  try clear c18b0
                                  try clear c18b1
                                  try clear c26
                                  try clear c26b0
                                  try clear c26b1
                                  try clear c36
                                  try clear c36b0
                                  try clear c36b1
                                  try clear c44
                                  try clear c44b0
                                  try clear c44b1
                                  try clear c45
                                  try clear c46
                                  try clear c47
                                  try clear c48
                                  try clear c52
                                  try clear c52b0
                                  try clear c52b1
                                  try clear c60
                                  try clear c60b0
                                  try clear c60b1
                                  try clear c62
                                  try clear c68
                                  try clear c68b0
                                  try clear c68b1
                                  try clear c75
                                  try clear c75b0
                                  try clear c75b1
                                  try clear c76
                                  try clear c85
                                  try clear c85b0
                                  try clear c85b1
                                  try clear c86
                                  try clear c95
                                  try clear c95b0
                                  try clear c95b1
                                  try clear c96
                                  try clear c96b0
                                  try clear c96b1
                                  try clear c97
                                  try clear c97b0
                                  try clear c97b1
                                  try clear p2
                                  obtain ⟨kq, x81_93, rfl, HA, HJ93, HB⟩ := hcut
                                  cases kq with
                                  | zero => exact absurd HA.out (by simp [isa80_low.j2])
                                  | succ kj93 =>
                                    have H := HA.out
                                    clear HA
                                    simp only [isa80_low.j2] at H
                                    by_cases c98 : x81_93 = true
                                    · subst c98
                                      have H1 : ((isa80_pick.f (Go.bits .and .u8 (a0 / 8) 3) (([(⟨#[83, 72, 76, 68]⟩ : ByteArray), (⟨#[76, 72, 76, 68]⟩ : ByteArray), (⟨#[83, 84, 65]⟩ : ByteArray), (⟨#[76, 68, 65]⟩ : ByteArray)] : List ByteArray))).bind fun t192 => ((isa80_form.f (([t192, (⟨#[100, 49, 54]⟩ : ByteArray)] : List ByteArray))).bind fun t196 => (some t196))) = some r := by rw [if_pos rfl] at H; exact H
                                      clear H
                                      have H := H1
                                      clear H1
                                      obtain ⟨y189, hy189⟩ : ∃ y_ : List ByteArray, y_ = (([(⟨#[83, 72, 76, 68]⟩ : ByteArray), (⟨#[76, 72, 76, 68]⟩ : ByteArray), (⟨#[83, 84, 65]⟩ : ByteArray), (⟨#[76, 68, 65]⟩ : ByteArray)] : List ByteArray)) := ⟨_, rfl⟩
                                      replace H : ((isa80_pick.f (Go.bits .and .u8 (a0 / 8) 3) y189).bind fun t192 => ((isa80_form.f (([t192, (⟨#[100, 49, 54]⟩ : ByteArray)] : List ByteArray))).bind fun t196 => (some t196))) = some r := by first | (rw [hy189]; with_reducible exact H) | (have H2_ := (Option.bind_some _ _).symm.trans H; rw [hy189]; with_reducible exact H2_) | (have H2_ := (Option.bind_some _ _).symm.trans H; with_reducible exact H2_) | with_reducible exact H | (rw [hy189]; exact H) | exact H
                                      have Ny189 := Aside0.mk hy189
                                      clear hy189
                                      replace H := Option.bind_eq_some_iff.mp H
                                      obtain ⟨t192, A990, H⟩ := H
                                      replace H : ((isa80_form.f (([t192, (⟨#[100, 49, 54]⟩ : ByteArray)] : List ByteArray))).bind fun t196 => (some t196)) = some r := H
                                      have A99 := Aside0.mk A990
                                      clear A990
                                      obtain ⟨y193, hy193⟩ : ∃ y_ : List ByteArray, y_ = (([t192, (⟨#[100, 49, 54]⟩ : ByteArray)] : List ByteArray)) := ⟨_, rfl⟩
                                      replace H : ((isa80_form.f y193).bind fun t196 => (some t196)) = some r := by first | (rw [hy193]; with_reducible exact H) | (have H2_ := (Option.bind_some _ _).symm.trans H; rw [hy193]; with_reducible exact H2_) | (have H2_ := (Option.bind_some _ _).symm.trans H; with_reducible exact H2_) | with_reducible exact H | (rw [hy193]; exact H) | exact H
                                      have Ny193 := Aside0.mk hy193
                                      clear hy193
                                      replace H := Option.bind_eq_some_iff.mp H
                                      obtain ⟨t196, A1000, H⟩ := H
                                      replace H : (some t196) = some r := H
                                      have A100 := Aside0.mk A1000
                                      clear A1000
                                      obtain rfl := Option.some.inj H
                                      go_wp2_with (first | ((with_reducible refine gate_dst (N := 88) rfl ?_); refine Kd.R_lit Kd.string _ 9 ?hg (N := 88) ?hd (xs := ([(⟨#[83, 72, 76, 68]⟩ : ByteArray), (⟨#[76, 72, 76, 68]⟩ : ByteArray), (⟨#[83, 84, 65]⟩ : ByteArray), (⟨#[76, 68, 65]⟩ : ByteArray)] : List ByteArray)) (inner := [.string (⟨#[83, 72, 76, 68]⟩ : ByteArray), .string (⟨#[76, 72, 76, 68]⟩ : ByteArray), .string (⟨#[83, 84, 65]⟩ : ByteArray), .string (⟨#[76, 68, 65]⟩ : ByteArray)]) (ok := fun _ => True) (okp := fun _ => True) ?hr ?hp (fun _ hk => hk) trivial (Below.refl _ _) (Nat.le_refl _) (by simp) ?_; (case hd => rfl); (case hg => rfl); (case hr => first | (go_simp; done) | (go_simp; rfl)); (case hp => exact (Reps.one (show Kd.M Kd.string _ _ _ (⟨#[83, 72, 76, 68]⟩ : ByteArray) [.string (⟨#[83, 72, 76, 68]⟩ : ByteArray)] from rfl) (Reps.one (show Kd.M Kd.string _ _ _ (⟨#[76, 72, 76, 68]⟩ : ByteArray) [.string (⟨#[76, 72, 76, 68]⟩ : ByteArray)] from rfl) (Reps.one (show Kd.M Kd.string _ _ _ (⟨#[83, 84, 65]⟩ : ByteArray) [.string (⟨#[83, 84, 65]⟩ : ByteArray)] from rfl) (Reps.one (show Kd.M Kd.string _ _ _ (⟨#[76, 68, 65]⟩ : ByteArray) [.string (⟨#[76, 68, 65]⟩ : ByteArray)] from rfl) (Reps.none _ _)))))); intro v190 w101 ho102 hb hg_ hnew_; clear hg_ hnew_; (first | rw [← Ny189.out] at ho102 | (simp only [Int.reduceToNat] at ho102; rw [← Ny189.out] at ho102)); have n0_ := Aside0.mk (Kd.R_lower ho102 (below_size (by repeat (first | (with_reducible first | exact HB.out | apply below_alloc | apply pw_below_drewN | apply below_drew1) | exact HB.out)))); have n1_ := Aside0.mk (below_step (by repeat (first | (with_reducible first | exact HB.out | apply below_alloc | apply pw_below_drewN | apply below_drew1) | exact HB.out)) hb); clear HB; have HO191 := n0_; have HB := n1_; clear n0_ n1_; clear hb ho102; obtain ⟨Ao103, co103, eo103⟩ := Kd.R_slice HO191.out; subst eo103) | ((with_reducible refine gate_callee (f := 48) rfl ?_); refine goesL_ (some 89) rfl rfl Tryd.func48 (by kernel_rfl) rfl #[.int .u8 (Go.bits .and .u8 (a0 / 8) 3), .slice Ao103 y189.length co103] rfl (by (try simp only [List.map_toArray, List.map_cons, List.map_nil]); first | done | rfl | (simp only [List.length_drop, List.length_take]; rfl)) ?_; (with_reducible refine (isa80_pick.calls (Go.bits .and .u8 (a0 / 8) 3) _ _ y189 t192 _ ?side1 ?side2 A99.out (by first | exact hT | exact tabs_below hT (by repeat (first | (with_reducible first | exact HB.out | apply below_alloc | apply pw_below_drewN | apply below_drew1) | exact HB.out)) | (repeat (first | exact hT | apply tabs_alloc | apply tabs_drewN | apply tabs_drew)))).mono ?_); (case side1 => repeat (first | exact (Kd.R_reads' HO191.out).2.2 | (with_reducible refine Kd.C_alloc ?_ _) | (with_reducible refine Kd.C_drewN ?_ _) | (with_reducible refine Kd.C_drew ?_))); (case side2 => exact (Kd.R_reads' HO191.out).2.1); rintro e w' ⟨rfl, ⟨nd, rfl⟩⟩; refine ⟨_, rfl, ?_⟩) | ((with_reducible refine gate_dst (N := 90) rfl ?_); refine Kd.R_lit Kd.string _ 9 ?hg (N := 90) ?hd (xs := ([t192, (⟨#[100, 49, 54]⟩ : ByteArray)] : List ByteArray)) (inner := [.string t192, .string (⟨#[100, 49, 54]⟩ : ByteArray)]) (ok := fun _ => True) (okp := fun _ => True) ?hr ?hp (fun _ hk => hk) trivial (Below.refl _ _) (Nat.le_refl _) (by simp) ?_; (case hd => rfl); (case hg => rfl); (case hr => first | (go_simp; done) | (go_simp; rfl)); (case hp => exact (Reps.one (show Kd.M Kd.string _ _ _ t192 [.string t192] from rfl) (Reps.one (show Kd.M Kd.string _ _ _ (⟨#[100, 49, 54]⟩ : ByteArray) [.string (⟨#[100, 49, 54]⟩ : ByteArray)] from rfl) (Reps.none _ _)))); intro v194 w104 ho105 hb hg_ hnew_; clear hg_ hnew_; (first | rw [← Ny193.out] at ho105 | (simp only [Int.reduceToNat] at ho105; rw [← Ny193.out] at ho105)); have n0_ := Aside0.mk (Kd.R_elder' (by (with_reducible repeat (first | apply Kd.R_alloc | apply Kd.R_drewN | apply Kd.R_drew)); exact HO191.out) (Kd.R_base ho105) hb); have n1_ := Aside0.mk (Kd.R_lower (Kd.R_new' ho105 (Kd.R_lt (by (with_reducible repeat (first | apply Kd.R_alloc | apply Kd.R_drewN | apply Kd.R_drew)); exact HO191.out))) (below_size (by repeat (first | (with_reducible first | exact HB.out | apply below_alloc | apply pw_below_drewN | apply below_drew1) | exact HB.out)))); have n2_ := Aside0.mk (below_step (by repeat (first | (with_reducible first | exact HB.out | apply below_alloc | apply pw_below_drewN | apply below_drew1) | exact HB.out)) hb); clear HO191; clear HB; have HO191 := n0_; have HO195 := n1_; have HB := n2_; clear n0_ n1_ n2_; clear hb ho105; obtain ⟨Ao106, co106, eo106⟩ := Kd.R_slice HO195.out; subst eo106) | ((with_reducible refine gate_callee (f := 46) rfl ?_); refine goesL_ (some 91) rfl rfl Tryd.func46 (by kernel_rfl) rfl #[.slice Ao106 y193.length co106] rfl (by (try simp only [List.map_toArray, List.map_cons, List.map_nil]); first | done | rfl | (simp only [List.length_drop, List.length_take]; rfl)) ?_; (with_reducible refine (isa80_form.calls (fun k_ => some k_ = (.slice Ao106 y193.length co106 : Value).ownBlock) (.slice Ao106 y193.length co106) y193 t196 w _ ?side1 ?side2 A100.out (by first | exact hT | exact tabs_below hT (by repeat (first | (with_reducible first | exact HB.out | apply below_alloc | apply pw_below_drewN | apply below_drew1) | exact HB.out)) | (repeat (first | exact hT | apply tabs_alloc | apply tabs_drewN | apply tabs_drew)))).mono ?_); (case side1 => repeat (first | (with_reducible first | exact HB.out | apply below_alloc | apply pw_below_drewN | apply below_drew1) | exact HB.out)); (case side2 => exact Kd.R_tight rfl HO195.out); rintro e w107 ⟨v197, rfl, ho0, hb, hkp⟩; refine ⟨_, rfl, ?_⟩; have n0_ := Aside0.mk (Kd.R_mono (ok' := fun k_ => some k_ ≠ (v197 : Value).ownBlock) (Kd.R_keptB (HO191.out) hkp (fun k_ hk_ hs_ => (hk_.2) hs_)) (fun k_ hk_ => fun e_ => Or.elim (ho0.1 k_ e_.symm) (fun hs_ => hk_.2.1 hs_) (fun hn_ => Nat.not_le.2 hk_.2.2 hn_))); have n1_ := Aside0.mk (Kd.R_mono (ok' := fun k_ => some k_ ≠ (.slice Ao103 y189.length co103 : Value).ownBlock) ho0 (fun k_ hk_ => Or.elim hk_ (fun hs_ => fun e_ => (((HO191.out).1 k_ e_.symm).2) hs_) (fun hn_ => (Kd.fresh' (Kd.R_lt (by (with_reducible repeat (first | apply Kd.R_alloc | apply Kd.R_drewN | apply Kd.R_drew)); exact HO191.out)) k_ hn_)))); have n2_ := Aside0.mk (hb); clear HO191; clear HB; clear HO195; have HO191 := n0_; have HO198 := n1_; have HB := n2_; clear n0_ n1_ n2_; (try clear hb); (try clear hkp); (try clear ho0)))
                                      go_ret
                                      exact ⟨_, by first | rfl | (simp [errW_none, errW_some] <;> rfl) | (simp [*, errW_none, errW_some] <;> rfl), by (with_reducible repeat (first | apply Kd.R_alloc | apply Kd.R_drewN | apply Kd.R_drew)); exact Kd.R_mono HO198.out (fun _ hk => trivial), by repeat (first | (with_reducible first | exact HB.out | apply below_alloc | apply pw_below_drewN | apply below_drew1) | exact HB.out)⟩
                                    · replace c98 := Bool.eq_false_iff.mpr c98
                                      subst c98
                                      have H1 : (some ([] : List ByteArray)) = some r := by rw [if_neg (show ¬ (false = true) by decide)] at H; exact H
                                      clear H
                                      have H := H1
                                      clear H1
                                      obtain rfl := Option.some.inj H
                                      go_wp2
                                      go_ret
                                      exact ⟨_, by first | rfl | (simp [errW_none, errW_some] <;> rfl) | (simp [*, errW_none, errW_some] <;> rfl), by first | exact Kd.R_nil _ _ _ _ _ | exact Kd.N_nil _ _ _ _ _ | exact Kd.V_nil _ _ _ _ _ | exact Kd.Q_nil _ _ _ _ _ | exact Kd.S_nil _ _ _ _ _, by repeat (first | (with_reducible first | exact HB.out | apply below_alloc | apply pw_below_drewN | apply below_drew1) | exact HB.out)⟩

/-! ### isa80_cond: function 63 -/
def isa80_cond.f (a0 : Int) : Option (ByteArray) := (isa80_pick.f (Go.bits .and .u8 a0 7) (([(⟨#[78, 90]⟩ : ByteArray), (⟨#[90]⟩ : ByteArray), (⟨#[78, 67]⟩ : ByteArray), (⟨#[67]⟩ : ByteArray), (⟨#[80, 79]⟩ : ByteArray), (⟨#[80, 69]⟩ : ByteArray), (⟨#[80]⟩ : ByteArray), (⟨#[77]⟩ : ByteArray)] : List ByteArray))).bind fun t202 => (some t202)
set_option maxHeartbeats 8000000 in
set_option maxRecDepth 100000 in
theorem isa80_cond.calls (a0 : Int) (r : ByteArray) (w : World) (h : isa80_cond.f a0 = some r) (hT : Tabs w) :
    Calls Tryd.prog 63 #[.int .u8 a0] w fun e w' => e = .returned (.string r) ∧ Below w.heap.size w w' := by
  have HB := Aside0.mk (Below.refl w.heap.size w)
  have H : ((isa80_pick.f (Go.bits .and .u8 a0 7) (([(⟨#[78, 90]⟩ : ByteArray), (⟨#[90]⟩ : ByteArray), (⟨#[78, 67]⟩ : ByteArray), (⟨#[67]⟩ : ByteArray), (⟨#[80, 79]⟩ : ByteArray), (⟨#[80, 69]⟩ : ByteArray), (⟨#[80]⟩ : ByteArray), (⟨#[77]⟩ : ByteArray)] : List ByteArray))).bind fun t202 => (some t202)) = some r := h
  clear h
  obtain ⟨y199, hy199⟩ : ∃ y_ : List ByteArray, y_ = (([(⟨#[78, 90]⟩ : ByteArray), (⟨#[90]⟩ : ByteArray), (⟨#[78, 67]⟩ : ByteArray), (⟨#[67]⟩ : ByteArray), (⟨#[80, 79]⟩ : ByteArray), (⟨#[80, 69]⟩ : ByteArray), (⟨#[80]⟩ : ByteArray), (⟨#[77]⟩ : ByteArray)] : List ByteArray)) := ⟨_, rfl⟩
  replace H : ((isa80_pick.f (Go.bits .and .u8 a0 7) y199).bind fun t202 => (some t202)) = some r := by first | (rw [hy199]; with_reducible exact H) | (have H2_ := (Option.bind_some _ _).symm.trans H; rw [hy199]; with_reducible exact H2_) | (have H2_ := (Option.bind_some _ _).symm.trans H; with_reducible exact H2_) | with_reducible exact H | (rw [hy199]; exact H) | exact H
  have Ny199 := Aside0.mk hy199
  clear hy199
  replace H := Option.bind_eq_some_iff.mp H
  obtain ⟨t202, A20, H⟩ := H
  replace H : (some t202) = some r := H
  have A2 := Aside0.mk A20
  clear A20
  obtain rfl := Option.some.inj H
  go_enter Tryd.func63, Tryd.ntmps63
  go_wp2_with (first | ((with_reducible refine gate_dst (N := 5) rfl ?_); refine Kd.R_lit Kd.string _ 9 ?hg (N := 5) ?hd (xs := ([(⟨#[78, 90]⟩ : ByteArray), (⟨#[90]⟩ : ByteArray), (⟨#[78, 67]⟩ : ByteArray), (⟨#[67]⟩ : ByteArray), (⟨#[80, 79]⟩ : ByteArray), (⟨#[80, 69]⟩ : ByteArray), (⟨#[80]⟩ : ByteArray), (⟨#[77]⟩ : ByteArray)] : List ByteArray)) (inner := [.string (⟨#[78, 90]⟩ : ByteArray), .string (⟨#[90]⟩ : ByteArray), .string (⟨#[78, 67]⟩ : ByteArray), .string (⟨#[67]⟩ : ByteArray), .string (⟨#[80, 79]⟩ : ByteArray), .string (⟨#[80, 69]⟩ : ByteArray), .string (⟨#[80]⟩ : ByteArray), .string (⟨#[77]⟩ : ByteArray)]) (ok := fun _ => True) (okp := fun _ => True) ?hr ?hp (fun _ hk => hk) trivial (Below.refl _ _) (Nat.le_refl _) (by simp) ?_; (case hd => rfl); (case hg => rfl); (case hr => first | (go_simp; done) | (go_simp; rfl)); (case hp => exact (Reps.one (show Kd.M Kd.string _ _ _ (⟨#[78, 90]⟩ : ByteArray) [.string (⟨#[78, 90]⟩ : ByteArray)] from rfl) (Reps.one (show Kd.M Kd.string _ _ _ (⟨#[90]⟩ : ByteArray) [.string (⟨#[90]⟩ : ByteArray)] from rfl) (Reps.one (show Kd.M Kd.string _ _ _ (⟨#[78, 67]⟩ : ByteArray) [.string (⟨#[78, 67]⟩ : ByteArray)] from rfl) (Reps.one (show Kd.M Kd.string _ _ _ (⟨#[67]⟩ : ByteArray) [.string (⟨#[67]⟩ : ByteArray)] from rfl) (Reps.one (show Kd.M Kd.string _ _ _ (⟨#[80, 79]⟩ : ByteArray) [.string (⟨#[80, 79]⟩ : ByteArray)] from rfl) (Reps.one (show Kd.M Kd.string _ _ _ (⟨#[80, 69]⟩ : ByteArray) [.string (⟨#[80, 69]⟩ : ByteArray)] from rfl) (Reps.one (show Kd.M Kd.string _ _ _ (⟨#[80]⟩ : ByteArray) [.string (⟨#[80]⟩ : ByteArray)] from rfl) (Reps.one (show Kd.M Kd.string _ _ _ (⟨#[77]⟩ : ByteArray) [.string (⟨#[77]⟩ : ByteArray)] from rfl) (Reps.none _ _)))))))))); intro v200 w3 ho4 hb hg_ hnew_; clear hg_ hnew_; (first | rw [← Ny199.out] at ho4 | (simp only [Int.reduceToNat] at ho4; rw [← Ny199.out] at ho4)); have n0_ := Aside0.mk (Kd.R_lower ho4 (below_size (by repeat (first | (with_reducible first | exact HB.out | apply below_alloc | apply pw_below_drewN | apply below_drew1) | exact HB.out)))); have n1_ := Aside0.mk (below_step (by repeat (first | (with_reducible first | exact HB.out | apply below_alloc | apply pw_below_drewN | apply below_drew1) | exact HB.out)) hb); clear HB; have HO201 := n0_; have HB := n1_; clear n0_ n1_; clear hb ho4; obtain ⟨Ao5, co5, eo5⟩ := Kd.R_slice HO201.out; subst eo5) | ((with_reducible refine gate_callee (f := 48) rfl ?_); refine goesL_ (some 6) rfl rfl Tryd.func48 (by kernel_rfl) rfl #[.int .u8 (Go.bits .and .u8 a0 7), .slice Ao5 y199.length co5] rfl (by (try simp only [List.map_toArray, List.map_cons, List.map_nil]); first | done | rfl | (simp only [List.length_drop, List.length_take]; rfl)) ?_; (with_reducible refine (isa80_pick.calls (Go.bits .and .u8 a0 7) _ _ y199 t202 _ ?side1 ?side2 A2.out (by first | exact hT | exact tabs_below hT (by repeat (first | (with_reducible first | exact HB.out | apply below_alloc | apply pw_below_drewN | apply below_drew1) | exact HB.out)) | (repeat (first | exact hT | apply tabs_alloc | apply tabs_drewN | apply tabs_drew)))).mono ?_); (case side1 => repeat (first | exact (Kd.R_reads' HO201.out).2.2 | (with_reducible refine Kd.C_alloc ?_ _) | (with_reducible refine Kd.C_drewN ?_ _) | (with_reducible refine Kd.C_drew ?_))); (case side2 => exact (Kd.R_reads' HO201.out).2.1); rintro e w' ⟨rfl, ⟨nd, rfl⟩⟩; refine ⟨_, rfl, ?_⟩))
  go_ret
  exact ⟨by first | rfl | (simp [errW_none, errW_some] <;> rfl) | (simp [*, errW_none, errW_some] <;> rfl), by repeat (first | (with_reducible first | exact HB.out | apply below_alloc | apply pw_below_drewN | apply below_drew1) | exact HB.out)⟩

end Go.Proofs.YtldmnenomcipcaaDoor.G

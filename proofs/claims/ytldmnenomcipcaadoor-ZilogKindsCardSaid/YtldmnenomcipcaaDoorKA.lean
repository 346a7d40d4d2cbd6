/- The walk of the law ZilogKinds, one theorem for each kind of opcode: which tests answer yes. -/
import Derived.Test.YtldmnenomcipcaaDoorG7
namespace Go.Proofs.YtldmnenomcipcaaDoor.G
open Go.RowKit Go.Proofs.YtldmnenomcipcaaDoorW.PrintWords Go.Proofs.YtldmnenomcipcaaDoorW.PrintLast Go.Proofs.YtldmnenomcipcaaDoorW.PrintMore
attribute [local go_sem] max2_int min2_int max_two min_two max_three min_three max_four min_four
set_option linter.unusedVariables false
set_option linter.unusedSimpArgs false
set_option maxHeartbeats 4000000 in
set_option maxRecDepth 100000 in
theorem kinds0 (k : Nat) (a0 cc : Int) (nm im : ByteArray) (w : World) (A1 : Aside0 (zilog_Name.f k a0 = some nm)) (A2 : Aside0 (isa80_Name.f k a0 = some im)) (A3 : Aside0 (isa80_Cond.f a0 = some cc)) (A4 : Aside0 (pidginlaw07_alive.f k = some true))
    (iJMP : (im.toList == [74, 77, 80]) = false)
    (iPCHL : (im.toList == [80, 67, 72, 76]) = false)
    (iCALL : (im.toList == [67, 65, 76, 76]) = false)
    (iRET : (im.toList == [82, 69, 84]) = false)
    (iRST : (im.toList == [82, 83, 84]) = false)
    (iHLT : (im.toList == [72, 76, 84]) = false)
    (iMOV : (im.toList == [77, 79, 86]) = false)
    (iMVI : (im.toList == [77, 86, 73]) = false)
    (iLXI : (im.toList == [76, 88, 73]) = false)
    (iLDA : (im.toList == [76, 68, 65]) = false)
    (iSTA : (im.toList == [83, 84, 65]) = false)
    (iLHLD : (im.toList == [76, 72, 76, 68]) = false)
    (iSHLD : (im.toList == [83, 72, 76, 68]) = false)
    (iLDAX : (im.toList == [76, 68, 65, 88]) = false)
    (iSTAX : (im.toList == [83, 84, 65, 88]) = false)
    (iSPHL : (im.toList == [83, 80, 72, 76]) = false)
    (nJP : (nm.toList == [74, 80]) = false)
    (nCALL : (nm.toList == [67, 65, 76, 76]) = false)
    (nRET : (nm.toList == [82, 69, 84]) = false)
    (nRST : (nm.toList == [82, 83, 84]) = false)
    (nHALT : (nm.toList == [72, 65, 76, 84]) = false)
    (nLD : (nm.toList == [76, 68]) = false)
    (hc : decide (cc ≥ 0) = false)
    (hT : Tabs w) : Calls Tryd.prog 6 #[.int .u8 a0] w fun e w' => e = .returned (.bool true) ∧ Below w.heap.size w w' := by
  have HB := Aside0.mk (Below.refl w.heap.size w)
  have hc2 : decide (0 ≤ cc) = false := hc
  go_enter Tryd.func6, Tryd.ntmps6
  go_wp2_with (first | ((with_reducible refine gate_callee (f := 8) rfl ?_); refine goesL_ (some 10) rfl rfl Tryd.func8 (by kernel_rfl) rfl #[.int .u8 a0] rfl (by (try simp only [List.map_toArray, List.map_cons, List.map_nil]); first | done | rfl) ?_; (with_reducible refine (zilog_Name.calls k a0 nm _ A1.out (by first | exact hT | exact tabs_below hT HB.out | exact tabs_below hT (by repeat (first | exact HB.out | apply below_alloc | apply pw_below_drewN | apply below_drew1)))).mono ?_); rintro e w' ⟨rfl, hb⟩; refine ⟨_, rfl, ?_⟩; have n0_ := Aside0.mk (below_step (by repeat (first | (with_reducible first | exact HB.out | apply below_alloc | apply pw_below_drewN | apply below_drew1) | exact HB.out)) hb); clear HB; have HB := n0_; clear n0_; clear hb) | ((with_reducible refine gate_callee (f := 18) rfl ?_); refine goesL_ (some 12) rfl rfl Tryd.func18 (by kernel_rfl) rfl #[.int .u8 a0] rfl (by (try simp only [List.map_toArray, List.map_cons, List.map_nil]); first | done | rfl) ?_; (with_reducible refine (isa80_Name.calls k a0 im _ A2.out (by first | exact hT | exact tabs_below hT HB.out | exact tabs_below hT (by repeat (first | exact HB.out | apply below_alloc | apply pw_below_drewN | apply below_drew1)))).mono ?_); rintro e w' ⟨rfl, hb⟩; refine ⟨_, rfl, ?_⟩; have n0_ := Aside0.mk (below_step (by repeat (first | (with_reducible first | exact HB.out | apply below_alloc | apply pw_below_drewN | apply below_drew1) | exact HB.out)) hb); clear HB; have HB := n0_; clear n0_; clear hb) | ((with_reducible refine gate_callee (f := 19) rfl ?_); refine goesL_ (some 14) rfl rfl Tryd.func19 (by kernel_rfl) rfl #[.int .u8 a0] rfl (by (try simp only [List.map_toArray, List.map_cons, List.map_nil]); first | done | rfl) ?_; (with_reducible refine (isa80_Cond.calls a0 cc _ A3.out (by first | exact hT | exact tabs_below hT HB.out | exact tabs_below hT (by repeat (first | exact HB.out | apply below_alloc | apply pw_below_drewN | apply below_drew1)))).mono ?_); rintro e w' ⟨rfl, ⟨nd, rfl⟩⟩; refine ⟨_, rfl, ?_⟩) | (go_at_call 13; (with_reducible refine (pidginlaw07_alive.calls k true _ A4.out (by first | exact hT | exact tabs_below hT HB.out | exact tabs_below hT (by repeat (first | exact HB.out | apply below_alloc | apply pw_below_drewN | apply below_drew1)))).mono ?_); rintro e w' ⟨rfl, hb⟩; have n0_ := Aside0.mk (below_step (by repeat (first | (with_reducible first | exact HB.out | apply below_alloc | apply pw_below_drewN | apply below_drew1) | exact HB.out)) hb); clear HB; have HB := n0_; clear n0_; clear hb))
  go_ret
  exact ⟨by first | rfl | (simp; done), by repeat (first | (with_reducible first | exact HB.out | apply below_alloc | apply pw_below_drewN | apply below_drew1) | exact HB.out)⟩
set_option maxHeartbeats 4000000 in
set_option maxRecDepth 100000 in
theorem kinds1 (k : Nat) (a0 cc : Int) (nm im : ByteArray) (w : World) (A1 : Aside0 (zilog_Name.f k a0 = some nm)) (A2 : Aside0 (isa80_Name.f k a0 = some im)) (A3 : Aside0 (isa80_Cond.f a0 = some cc)) (A4 : Aside0 (pidginlaw07_alive.f k = some true))
    (iJMP : (im.toList == [74, 77, 80]) = false)
    (iPCHL : (im.toList == [80, 67, 72, 76]) = false)
    (iCALL : (im.toList == [67, 65, 76, 76]) = false)
    (iRET : (im.toList == [82, 69, 84]) = false)
    (iRST : (im.toList == [82, 83, 84]) = false)
    (iHLT : (im.toList == [72, 76, 84]) = false)
    (iMOV : (im.toList == [77, 79, 86]) = false)
    (iMVI : (im.toList == [77, 86, 73]) = false)
    (iLXI : (im.toList == [76, 88, 73]) = true)
    (iLDA : (im.toList == [76, 68, 65]) = false)
    (iSTA : (im.toList == [83, 84, 65]) = false)
    (iLHLD : (im.toList == [76, 72, 76, 68]) = false)
    (iSHLD : (im.toList == [83, 72, 76, 68]) = false)
    (iLDAX : (im.toList == [76, 68, 65, 88]) = false)
    (iSTAX : (im.toList == [83, 84, 65, 88]) = false)
    (iSPHL : (im.toList == [83, 80, 72, 76]) = false)
    (nJP : (nm.toList == [74, 80]) = false)
    (nCALL : (nm.toList == [67, 65, 76, 76]) = false)
    (nRET : (nm.toList == [82, 69, 84]) = false)
    (nRST : (nm.toList == [82, 83, 84]) = false)
    (nHALT : (nm.toList == [72, 65, 76, 84]) = false)
    (nLD : (nm.toList == [76, 68]) = true)
    (hc : decide (cc ≥ 0) = false)
    (hT : Tabs w) : Calls Tryd.prog 6 #[.int .u8 a0] w fun e w' => e = .returned (.bool true) ∧ Below w.heap.size w w' := by
  have HB := Aside0.mk (Below.refl w.heap.size w)
  have hc2 : decide (0 ≤ cc) = false := hc
  go_enter Tryd.func6, Tryd.ntmps6
  go_wp2_with (first | ((with_reducible refine gate_callee (f := 8) rfl ?_); refine goesL_ (some 10) rfl rfl Tryd.func8 (by kernel_rfl) rfl #[.int .u8 a0] rfl (by (try simp only [List.map_toArray, List.map_cons, List.map_nil]); first | done | rfl) ?_; (with_reducible refine (zilog_Name.calls k a0 nm _ A1.out (by first | exact hT | exact tabs_below hT HB.out | exact tabs_below hT (by repeat (first | exact HB.out | apply below_alloc | apply pw_below_drewN | apply below_drew1)))).mono ?_); rintro e w' ⟨rfl, hb⟩; refine ⟨_, rfl, ?_⟩; have n0_ := Aside0.mk (below_step (by repeat (first | (with_reducible first | exact HB.out | apply below_alloc | apply pw_below_drewN | apply below_drew1) | exact HB.out)) hb); clear HB; have HB := n0_; clear n0_; clear hb) | ((with_reducible refine gate_callee (f := 18) rfl ?_); refine goesL_ (some 12) rfl rfl Tryd.func18 (by kernel_rfl) rfl #[.int .u8 a0] rfl (by (try simp only [List.map_toArray, List.map_cons, List.map_nil]); first | done | rfl) ?_; (with_reducible refine (isa80_Name.calls k a0 im _ A2.out (by first | exact hT | exact tabs_below hT HB.out | exact tabs_below hT (by repeat (first | exact HB.out | apply below_alloc | apply pw_below_drewN | apply below_drew1)))).mono ?_); rintro e w' ⟨rfl, hb⟩; refine ⟨_, rfl, ?_⟩; have n0_ := Aside0.mk (below_step (by repeat (first | (with_reducible first | exact HB.out | apply below_alloc | apply pw_below_drewN | apply below_drew1) | exact HB.out)) hb); clear HB; have HB := n0_; clear n0_; clear hb) | ((with_reducible refine gate_callee (f := 19) rfl ?_); refine goesL_ (some 14) rfl rfl Tryd.func19 (by kernel_rfl) rfl #[.int .u8 a0] rfl (by (try simp only [List.map_toArray, List.map_cons, List.map_nil]); first | done | rfl) ?_; (with_reducible refine (isa80_Cond.calls a0 cc _ A3.out (by first | exact hT | exact tabs_below hT HB.out | exact tabs_below hT (by repeat (first | exact HB.out | apply below_alloc | apply pw_below_drewN | apply below_drew1)))).mono ?_); rintro e w' ⟨rfl, ⟨nd, rfl⟩⟩; refine ⟨_, rfl, ?_⟩) | (go_at_call 13; (with_reducible refine (pidginlaw07_alive.calls k true _ A4.out (by first | exact hT | exact tabs_below hT HB.out | exact tabs_below hT (by repeat (first | exact HB.out | apply below_alloc | apply pw_below_drewN | apply below_drew1)))).mono ?_); rintro e w' ⟨rfl, hb⟩; have n0_ := Aside0.mk (below_step (by repeat (first | (with_reducible first | exact HB.out | apply below_alloc | apply pw_below_drewN | apply below_drew1) | exact HB.out)) hb); clear HB; have HB := n0_; clear n0_; clear hb))
  go_ret
  exact ⟨by first | rfl | (simp; done), by repeat (first | (with_reducible first | exact HB.out | apply below_alloc | apply pw_below_drewN | apply below_drew1) | exact HB.out)⟩
set_option maxHeartbeats 4000000 in
set_option maxRecDepth 100000 in
theorem kinds2 (k : Nat) (a0 cc : Int) (nm im : ByteArray) (w : World) (A1 : Aside0 (zilog_Name.f k a0 = some nm)) (A2 : Aside0 (isa80_Name.f k a0 = some im)) (A3 : Aside0 (isa80_Cond.f a0 = some cc)) (A4 : Aside0 (pidginlaw07_alive.f k = some true))
    (iJMP : (im.toList == [74, 77, 80]) = false)
    (iPCHL : (im.toList == [80, 67, 72, 76]) = false)
    (iCALL : (im.toList == [67, 65, 76, 76]) = false)
    (iRET : (im.toList == [82, 69, 84]) = false)
    (iRST : (im.toList == [82, 83, 84]) = false)
    (iHLT : (im.toList == [72, 76, 84]) = false)
    (iMOV : (im.toList == [77, 79, 86]) = false)
    (iMVI : (im.toList == [77, 86, 73]) = false)
    (iLXI : (im.toList == [76, 88, 73]) = false)
    (iLDA : (im.toList == [76, 68, 65]) = false)
    (iSTA : (im.toList == [83, 84, 65]) = false)
    (iLHLD : (im.toList == [76, 72, 76, 68]) = false)
    (iSHLD : (im.toList == [83, 72, 76, 68]) = false)
    (iLDAX : (im.toList == [76, 68, 65, 88]) = false)
    (iSTAX : (im.toList == [83, 84, 65, 88]) = true)
    (iSPHL : (im.toList == [83, 80, 72, 76]) = false)
    (nJP : (nm.toList == [74, 80]) = false)
    (nCALL : (nm.toList == [67, 65, 76, 76]) = false)
    (nRET : (nm.toList == [82, 69, 84]) = false)
    (nRST : (nm.toList == [82, 83, 84]) = false)
    (nHALT : (nm.toList == [72, 65, 76, 84]) = false)
    (nLD : (nm.toList == [76, 68]) = true)
    (hc : decide (cc ≥ 0) = false)
    (hT : Tabs w) : Calls Tryd.prog 6 #[.int .u8 a0] w fun e w' => e = .returned (.bool true) ∧ Below w.heap.size w w' := by
  have HB := Aside0.mk (Below.refl w.heap.size w)
  have hc2 : decide (0 ≤ cc) = false := hc
  go_enter Tryd.func6, Tryd.ntmps6
  go_wp2_with (first | ((with_reducible refine gate_callee (f := 8) rfl ?_); refine goesL_ (some 10) rfl rfl Tryd.func8 (by kernel_rfl) rfl #[.int .u8 a0] rfl (by (try simp only [List.map_toArray, List.map_cons, List.map_nil]); first | done | rfl) ?_; (with_reducible refine (zilog_Name.calls k a0 nm _ A1.out (by first | exact hT | exact tabs_below hT HB.out | exact tabs_below hT (by repeat (first | exact HB.out | apply below_alloc | apply pw_below_drewN | apply below_drew1)))).mono ?_); rintro e w' ⟨rfl, hb⟩; refine ⟨_, rfl, ?_⟩; have n0_ := Aside0.mk (below_step (by repeat (first | (with_reducible first | exact HB.out | apply below_alloc | apply pw_below_drewN | apply below_drew1) | exact HB.out)) hb); clear HB; have HB := n0_; clear n0_; clear hb) | ((with_reducible refine gate_callee (f := 18) rfl ?_); refine goesL_ (some 12) rfl rfl Tryd.func18 (by kernel_rfl) rfl #[.int .u8 a0] rfl (by (try simp only [List.map_toArray, List.map_cons, List.map_nil]); first | done | rfl) ?_; (with_reducible refine (isa80_Name.calls k a0 im _ A2.out (by first | exact hT | exact tabs_below hT HB.out | exact tabs_below hT (by repeat (first | exact HB.out | apply below_alloc | apply pw_below_drewN | apply below_drew1)))).mono ?_); rintro e w' ⟨rfl, hb⟩; refine ⟨_, rfl, ?_⟩; have n0_ := Aside0.mk (below_step (by repeat (first | (with_reducible first | exact HB.out | apply below_alloc | apply pw_below_drewN | apply below_drew1) | exact HB.out)) hb); clear HB; have HB := n0_; clear n0_; clear hb) | ((with_reducible refine gate_callee (f := 19) rfl ?_); refine goesL_ (some 14) rfl rfl Tryd.func19 (by kernel_rfl) rfl #[.int .u8 a0] rfl (by (try simp only [List.map_toArray, List.map_cons, List.map_nil]); first | done | rfl) ?_; (with_reducible refine (isa80_Cond.calls a0 cc _ A3.out (by first | exact hT | exact tabs_below hT HB.out | exact tabs_below hT (by repeat (first | exact HB.out | apply below_alloc | apply pw_below_drewN | apply below_drew1)))).mono ?_); rintro e w' ⟨rfl, ⟨nd, rfl⟩⟩; refine ⟨_, rfl, ?_⟩) | (go_at_call 13; (with_reducible refine (pidginlaw07_alive.calls k true _ A4.out (by first | exact hT | exact tabs_below hT HB.out | exact tabs_below hT (by repeat (first | exact HB.out | apply below_alloc | apply pw_below_drewN | apply below_drew1)))).mono ?_); rintro e w' ⟨rfl, hb⟩; have n0_ := Aside0.mk (below_step (by repeat (first | (with_reducible first | exact HB.out | apply below_alloc | apply pw_below_drewN | apply below_drew1) | exact HB.out)) hb); clear HB; have HB := n0_; clear n0_; clear hb))
  go_ret
  exact ⟨by first | rfl | (simp; done), by repeat (first | (with_reducible first | exact HB.out | apply below_alloc | apply pw_below_drewN | apply below_drew1) | exact HB.out)⟩
set_option maxHeartbeats 4000000 in
set_option maxRecDepth 100000 in
theorem kinds3 (k : Nat) (a0 cc : Int) (nm im : ByteArray) (w : World) (A1 : Aside0 (zilog_Name.f k a0 = some nm)) (A2 : Aside0 (isa80_Name.f k a0 = some im)) (A3 : Aside0 (isa80_Cond.f a0 = some cc)) (A4 : Aside0 (pidginlaw07_alive.f k = some true))
    (iJMP : (im.toList == [74, 77, 80]) = false)
    (iPCHL : (im.toList == [80, 67, 72, 76]) = false)
    (iCALL : (im.toList == [67, 65, 76, 76]) = false)
    (iRET : (im.toList == [82, 69, 84]) = false)
    (iRST : (im.toList == [82, 83, 84]) = false)
    (iHLT : (im.toList == [72, 76, 84]) = false)
    (iMOV : (im.toList == [77, 79, 86]) = false)
    (iMVI : (im.toList == [77, 86, 73]) = true)
    (iLXI : (im.toList == [76, 88, 73]) = false)
    (iLDA : (im.toList == [76, 68, 65]) = false)
    (iSTA : (im.toList == [83, 84, 65]) = false)
    (iLHLD : (im.toList == [76, 72, 76, 68]) = false)
    (iSHLD : (im.toList == [83, 72, 76, 68]) = false)
    (iLDAX : (im.toList == [76, 68, 65, 88]) = false)
    (iSTAX : (im.toList == [83, 84, 65, 88]) = false)
    (iSPHL : (im.toList == [83, 80, 72, 76]) = false)
    (nJP : (nm.toList == [74, 80]) = false)
    (nCALL : (nm.toList == [67, 65, 76, 76]) = false)
    (nRET : (nm.toList == [82, 69, 84]) = false)
    (nRST : (nm.toList == [82, 83, 84]) = false)
    (nHALT : (nm.toList == [72, 65, 76, 84]) = false)
    (nLD : (nm.toList == [76, 68]) = true)
    (hc : decide (cc ≥ 0) = false)
    (hT : Tabs w) : Calls Tryd.prog 6 #[.int .u8 a0] w fun e w' => e = .returned (.bool true) ∧ Below w.heap.size w w' := by
  have HB := Aside0.mk (Below.refl w.heap.size w)
  have hc2 : decide (0 ≤ cc) = false := hc
  go_enter Tryd.func6, Tryd.ntmps6
  go_wp2_with (first | ((with_reducible refine gate_callee (f := 8) rfl ?_); refine goesL_ (some 10) rfl rfl Tryd.func8 (by kernel_rfl) rfl #[.int .u8 a0] rfl (by (try simp only [List.map_toArray, List.map_cons, List.map_nil]); first | done | rfl) ?_; (with_reducible refine (zilog_Name.calls k a0 nm _ A1.out (by first | exact hT | exact tabs_below hT HB.out | exact tabs_below hT (by repeat (first | exact HB.out | apply below_alloc | apply pw_below_drewN | apply below_drew1)))).mono ?_); rintro e w' ⟨rfl, hb⟩; refine ⟨_, rfl, ?_⟩; have n0_ := Aside0.mk (below_step (by repeat (first | (with_reducible first | exact HB.out | apply below_alloc | apply pw_below_drewN | apply below_drew1) | exact HB.out)) hb); clear HB; have HB := n0_; clear n0_; clear hb) | ((with_reducible refine gate_callee (f := 18) rfl ?_); refine goesL_ (some 12) rfl rfl Tryd.func18 (by kernel_rfl) rfl #[.int .u8 a0] rfl (by (try simp only [List.map_toArray, List.map_cons, List.map_nil]); first | done | rfl) ?_; (with_reducible refine (isa80_Name.calls k a0 im _ A2.out (by first | exact hT | exact tabs_below hT HB.out | exact tabs_below hT (by repeat (first | exact HB.out | apply below_alloc | apply pw_below_drewN | apply below_drew1)))).mono ?_); rintro e w' ⟨rfl, hb⟩; refine ⟨_, rfl, ?_⟩; have n0_ := Aside0.mk (below_step (by repeat (first | (with_reducible first | exact HB.out | apply below_alloc | apply pw_below_drewN | apply below_drew1) | exact HB.out)) hb); clear HB; have HB := n0_; clear n0_; clear hb) | ((with_reducible refine gate_callee (f := 19) rfl ?_); refine goesL_ (some 14) rfl rfl Tryd.func19 (by kernel_rfl) rfl #[.int .u8 a0] rfl (by (try simp only [List.map_toArray, List.map_cons, List.map_nil]); first | done | rfl) ?_; (with_reducible refine (isa80_Cond.calls a0 cc _ A3.out (by first | exact hT | exact tabs_below hT HB.out | exact tabs_below hT (by repeat (first | exact HB.out | apply below_alloc | apply pw_below_drewN | apply below_drew1)))).mono ?_); rintro e w' ⟨rfl, ⟨nd, rfl⟩⟩; refine ⟨_, rfl, ?_⟩) | (go_at_call 13; (with_reducible refine (pidginlaw07_alive.calls k true _ A4.out (by first | exact hT | exact tabs_below hT HB.out | exact tabs_below hT (by repeat (first | exact HB.out | apply below_alloc | apply pw_below_drewN | apply below_drew1)))).mono ?_); rintro e w' ⟨rfl, hb⟩; have n0_ := Aside0.mk (below_step (by repeat (first | (with_reducible first | exact HB.out | apply below_alloc | apply pw_below_drewN | apply below_drew1) | exact HB.out)) hb); clear HB; have HB := n0_; clear n0_; clear hb))
  go_ret
  exact ⟨by first | rfl | (simp; done), by repeat (first | (with_reducible first | exact HB.out | apply below_alloc | apply pw_below_drewN | apply below_drew1) | exact HB.out)⟩
set_option maxHeartbeats 4000000 in
set_option maxRecDepth 100000 in
theorem kinds4 (k : Nat) (a0 cc : Int) (nm im : ByteArray) (w : World) (A1 : Aside0 (zilog_Name.f k a0 = some nm)) (A2 : Aside0 (isa80_Name.f k a0 = some im)) (A3 : Aside0 (isa80_Cond.f a0 = some cc)) (A4 : Aside0 (pidginlaw07_alive.f k = some true))
    (iJMP : (im.toList == [74, 77, 80]) = false)
    (iPCHL : (im.toList == [80, 67, 72, 76]) = false)
    (iCALL : (im.toList == [67, 65, 76, 76]) = false)
    (iRET : (im.toList == [82, 69, 84]) = false)
    (iRST : (im.toList == [82, 83, 84]) = false)
    (iHLT : (im.toList == [72, 76, 84]) = false)
    (iMOV : (im.toList == [77, 79, 86]) = false)
    (iMVI : (im.toList == [77, 86, 73]) = false)
    (iLXI : (im.toList == [76, 88, 73]) = false)
    (iLDA : (im.toList == [76, 68, 65]) = false)
    (iSTA : (im.toList == [83, 84, 65]) = false)
    (iLHLD : (im.toList == [76, 72, 76, 68]) = false)
    (iSHLD : (im.toList == [83, 72, 76, 68]) = false)
    (iLDAX : (im.toList == [76, 68, 65, 88]) = true)
    (iSTAX : (im.toList == [83, 84, 65, 88]) = false)
    (iSPHL : (im.toList == [83, 80, 72, 76]) = false)
    (nJP : (nm.toList == [74, 80]) = false)
    (nCALL : (nm.toList == [67, 65, 76, 76]) = false)
    (nRET : (nm.toList == [82, 69, 84]) = false)
    (nRST : (nm.toList == [82, 83, 84]) = false)
    (nHALT : (nm.toList == [72, 65, 76, 84]) = false)
    (nLD : (nm.toList == [76, 68]) = true)
    (hc : decide (cc ≥ 0) = false)
    (hT : Tabs w) : Calls Tryd.prog 6 #[.int .u8 a0] w fun e w' => e = .returned (.bool true) ∧ Below w.heap.size w w' := by
  have HB := Aside0.mk (Below.refl w.heap.size w)
  have hc2 : decide (0 ≤ cc) = false := hc
  go_enter Tryd.func6, Tryd.ntmps6
  go_wp2_with (first | ((with_reducible refine gate_callee (f := 8) rfl ?_); refine goesL_ (some 10) rfl rfl Tryd.func8 (by kernel_rfl) rfl #[.int .u8 a0] rfl (by (try simp only [List.map_toArray, List.map_cons, List.map_nil]); first | done | rfl) ?_; (with_reducible refine (zilog_Name.calls k a0 nm _ A1.out (by first | exact hT | exact tabs_below hT HB.out | exact tabs_below hT (by repeat (first | exact HB.out | apply below_alloc | apply pw_below_drewN | apply below_drew1)))).mono ?_); rintro e w' ⟨rfl, hb⟩; refine ⟨_, rfl, ?_⟩; have n0_ := Aside0.mk (below_step (by repeat (first | (with_reducible first | exact HB.out | apply below_alloc | apply pw_below_drewN | apply below_drew1) | exact HB.out)) hb); clear HB; have HB := n0_; clear n0_; clear hb) | ((with_reducible refine gate_callee (f := 18) rfl ?_); refine goesL_ (some 12) rfl rfl Tryd.func18 (by kernel_rfl) rfl #[.int .u8 a0] rfl (by (try simp only [List.map_toArray, List.map_cons, List.map_nil]); first | done | rfl) ?_; (with_reducible refine (isa80_Name.calls k a0 im _ A2.out (by first | exact hT | exact tabs_below hT HB.out | exact tabs_below hT (by repeat (first | exact HB.out | apply below_alloc | apply pw_below_drewN | apply below_drew1)))).mono ?_); rintro e w' ⟨rfl, hb⟩; refine ⟨_, rfl, ?_⟩; have n0_ := Aside0.mk (below_step (by repeat (first | (with_reducible first | exact HB.out | apply below_alloc | apply pw_below_drewN | apply below_drew1) | exact HB.out)) hb); clear HB; have HB := n0_; clear n0_; clear hb) | ((with_reducible refine gate_callee (f := 19) rfl ?_); refine goesL_ (some 14) rfl rfl Tryd.func19 (by kernel_rfl) rfl #[.int .u8 a0] rfl (by (try simp only [List.map_toArray, List.map_cons, List.map_nil]); first | done | rfl) ?_; (with_reducible refine (isa80_Cond.calls a0 cc _ A3.out (by first | exact hT | exact tabs_below hT HB.out | exact tabs_below hT (by repeat (first | exact HB.out | apply below_alloc | apply pw_below_drewN | apply below_drew1)))).mono ?_); rintro e w' ⟨rfl, ⟨nd, rfl⟩⟩; refine ⟨_, rfl, ?_⟩) | (go_at_call 13; (with_reducible refine (pidginlaw07_alive.calls k true _ A4.out (by first | exact hT | exact tabs_below hT HB.out | exact tabs_below hT (by repeat (first | exact HB.out | apply below_alloc | apply pw_below_drewN | apply below_drew1)))).mono ?_); rintro e w' ⟨rfl, hb⟩; have n0_ := Aside0.mk (below_step (by repeat (first | (with_reducible first | exact HB.out | apply below_alloc | apply pw_below_drewN | apply below_drew1) | exact HB.out)) hb); clear HB; have HB := n0_; clear n0_; clear hb))
  go_ret
  exact ⟨by first | rfl | (simp; done), by repeat (first | (with_reducible first | exact HB.out | apply below_alloc | apply pw_below_drewN | apply below_drew1) | exact HB.out)⟩
set_option maxHeartbeats 4000000 in
set_option maxRecDepth 100000 in
theorem kinds5 (k : Nat) (a0 cc : Int) (nm im : ByteArray) (w : World) (A1 : Aside0 (zilog_Name.f k a0 = some nm)) (A2 : Aside0 (isa80_Name.f k a0 = some im)) (A3 : Aside0 (isa80_Cond.f a0 = some cc)) (A4 : Aside0 (pidginlaw07_alive.f k = some true))
    (iJMP : (im.toList == [74, 77, 80]) = false)
    (iPCHL : (im.toList == [80, 67, 72, 76]) = false)
    (iCALL : (im.toList == [67, 65, 76, 76]) = false)
    (iRET : (im.toList == [82, 69, 84]) = false)
    (iRST : (im.toList == [82, 83, 84]) = false)
    (iHLT : (im.toList == [72, 76, 84]) = false)
    (iMOV : (im.toList == [77, 79, 86]) = false)
    (iMVI : (im.toList == [77, 86, 73]) = false)
    (iLXI : (im.toList == [76, 88, 73]) = false)
    (iLDA : (im.toList == [76, 68, 65]) = false)
    (iSTA : (im.toList == [83, 84, 65]) = false)
    (iLHLD : (im.toList == [76, 72, 76, 68]) = false)
    (iSHLD : (im.toList == [83, 72, 76, 68]) = true)
    (iLDAX : (im.toList == [76, 68, 65, 88]) = false)
    (iSTAX : (im.toList == [83, 84, 65, 88]) = false)
    (iSPHL : (im.toList == [83, 80, 72, 76]) = false)
    (nJP : (nm.toList == [74, 80]) = false)
    (nCALL : (nm.toList == [67, 65, 76, 76]) = false)
    (nRET : (nm.toList == [82, 69, 84]) = false)
    (nRST : (nm.toList == [82, 83, 84]) = false)
    (nHALT : (nm.toList == [72, 65, 76, 84]) = false)
    (nLD : (nm.toList == [76, 68]) = true)
    (hc : decide (cc ≥ 0) = false)
    (hT : Tabs w) : Calls Tryd.prog 6 #[.int .u8 a0] w fun e w' => e = .returned (.bool true) ∧ Below w.heap.size w w' := by
  have HB := Aside0.mk (Below.refl w.heap.size w)
  have hc2 : decide (0 ≤ cc) = false := hc
  go_enter Tryd.func6, Tryd.ntmps6
  go_wp2_with (first | ((with_reducible refine gate_callee (f := 8) rfl ?_); refine goesL_ (some 10) rfl rfl Tryd.func8 (by kernel_rfl) rfl #[.int .u8 a0] rfl (by (try simp only [List.map_toArray, List.map_cons, List.map_nil]); first | done | rfl) ?_; (with_reducible refine (zilog_Name.calls k a0 nm _ A1.out (by first | exact hT | exact tabs_below hT HB.out | exact tabs_below hT (by repeat (first | exact HB.out | apply below_alloc | apply pw_below_drewN | apply below_drew1)))).mono ?_); rintro e w' ⟨rfl, hb⟩; refine ⟨_, rfl, ?_⟩; have n0_ := Aside0.mk (below_step (by repeat (first | (with_reducible first | exact HB.out | apply below_alloc | apply pw_below_drewN | apply below_drew1) | exact HB.out)) hb); clear HB; have HB := n0_; clear n0_; clear hb) | ((with_reducible refine gate_callee (f := 18) rfl ?_); refine goesL_ (some 12) rfl rfl Tryd.func18 (by kernel_rfl) rfl #[.int .u8 a0] rfl (by (try simp only [List.map_toArray, List.map_cons, List.map_nil]); first | done | rfl) ?_; (with_reducible refine (isa80_Name.calls k a0 im _ A2.out (by first | exact hT | exact tabs_below hT HB.out | exact tabs_below hT (by repeat (first | exact HB.out | apply below_alloc | apply pw_below_drewN | apply below_drew1)))).mono ?_); rintro e w' ⟨rfl, hb⟩; refine ⟨_, rfl, ?_⟩; have n0_ := Aside0.mk (below_step (by repeat (first | (with_reducible first | exact HB.out | apply below_alloc | apply pw_below_drewN | apply below_drew1) | exact HB.out)) hb); clear HB; have HB := n0_; clear n0_; clear hb) | ((with_reducible refine gate_callee (f := 19) rfl ?_); refine goesL_ (some 14) rfl rfl Tryd.func19 (by kernel_rfl) rfl #[.int .u8 a0] rfl (by (try simp only [List.map_toArray, List.map_cons, List.map_nil]); first | done | rfl) ?_; (with_reducible refine (isa80_Cond.calls a0 cc _ A3.out (by first | exact hT | exact tabs_below hT HB.out | exact tabs_below hT (by repeat (first | exact HB.out | apply below_alloc | apply pw_below_drewN | apply below_drew1)))).mono ?_); rintro e w' ⟨rfl, ⟨nd, rfl⟩⟩; refine ⟨_, rfl, ?_⟩) | (go_at_call 13; (with_reducible refine (pidginlaw07_alive.calls k true _ A4.out (by first | exact hT | exact tabs_below hT HB.out | exact tabs_below hT (by repeat (first | exact HB.out | apply below_alloc | apply pw_below_drewN | apply below_drew1)))).mono ?_); rintro e w' ⟨rfl, hb⟩; have n0_ := Aside0.mk (below_step (by repeat (first | (with_reducible first | exact HB.out | apply below_alloc | apply pw_below_drewN | apply below_drew1) | exact HB.out)) hb); clear HB; have HB := n0_; clear n0_; clear hb))
  go_ret
  exact ⟨by first | rfl | (simp; done), by repeat (first | (with_reducible first | exact HB.out | apply below_alloc | apply pw_below_drewN | apply below_drew1) | exact HB.out)⟩
set_option maxHeartbeats 4000000 in
set_option maxRecDepth 100000 in
theorem kinds6 (k : Nat) (a0 cc : Int) (nm im : ByteArray) (w : World) (A1 : Aside0 (zilog_Name.f k a0 = some nm)) (A2 : Aside0 (isa80_Name.f k a0 = some im)) (A3 : Aside0 (isa80_Cond.f a0 = some cc)) (A4 : Aside0 (pidginlaw07_alive.f k = some true))
    (iJMP : (im.toList == [74, 77, 80]) = false)
    (iPCHL : (im.toList == [80, 67, 72, 76]) = false)
    (iCALL : (im.toList == [67, 65, 76, 76]) = false)
    (iRET : (im.toList == [82, 69, 84]) = false)
    (iRST : (im.toList == [82, 83, 84]) = false)
    (iHLT : (im.toList == [72, 76, 84]) = false)
    (iMOV : (im.toList == [77, 79, 86]) = false)
    (iMVI : (im.toList == [77, 86, 73]) = false)
    (iLXI : (im.toList == [76, 88, 73]) = false)
    (iLDA : (im.toList == [76, 68, 65]) = false)
    (iSTA : (im.toList == [83, 84, 65]) = false)
    (iLHLD : (im.toList == [76, 72, 76, 68]) = true)
    (iSHLD : (im.toList == [83, 72, 76, 68]) = false)
    (iLDAX : (im.toList == [76, 68, 65, 88]) = false)
    (iSTAX : (im.toList == [83, 84, 65, 88]) = false)
    (iSPHL : (im.toList == [83, 80, 72, 76]) = false)
    (nJP : (nm.toList == [74, 80]) = false)
    (nCALL : (nm.toList == [67, 65, 76, 76]) = false)
    (nRET : (nm.toList == [82, 69, 84]) = false)
    (nRST : (nm.toList == [82, 83, 84]) = false)
    (nHALT : (nm.toList == [72, 65, 76, 84]) = false)
    (nLD : (nm.toList == [76, 68]) = true)
    (hc : decide (cc ≥ 0) = false)
    (hT : Tabs w) : Calls Tryd.prog 6 #[.int .u8 a0] w fun e w' => e = .returned (.bool true) ∧ Below w.heap.size w w' := by
  have HB := Aside0.mk (Below.refl w.heap.size w)
  have hc2 : decide (0 ≤ cc) = false := hc
  go_enter Tryd.func6, Tryd.ntmps6
  go_wp2_with (first | ((with_reducible refine gate_callee (f := 8) rfl ?_); refine goesL_ (some 10) rfl rfl Tryd.func8 (by kernel_rfl) rfl #[.int .u8 a0] rfl (by (try simp only [List.map_toArray, List.map_cons, List.map_nil]); first | done | rfl) ?_; (with_reducible refine (zilog_Name.calls k a0 nm _ A1.out (by first | exact hT | exact tabs_below hT HB.out | exact tabs_below hT (by repeat (first | exact HB.out | apply below_alloc | apply pw_below_drewN | apply below_drew1)))).mono ?_); rintro e w' ⟨rfl, hb⟩; refine ⟨_, rfl, ?_⟩; have n0_ := Aside0.mk (below_step (by repeat (first | (with_reducible first | exact HB.out | apply below_alloc | apply pw_below_drewN | apply below_drew1) | exact HB.out)) hb); clear HB; have HB := n0_; clear n0_; clear hb) | ((with_reducible refine gate_callee (f := 18) rfl ?_); refine goesL_ (some 12) rfl rfl Tryd.func18 (by kernel_rfl) rfl #[.int .u8 a0] rfl (by (try simp only [List.map_toArray, List.map_cons, List.map_nil]); first | done | rfl) ?_; (with_reducible refine (isa80_Name.calls k a0 im _ A2.out (by first | exact hT | exact tabs_below hT HB.out | exact tabs_below hT (by repeat (first | exact HB.out | apply below_alloc | apply pw_below_drewN | apply below_drew1)))).mono ?_); rintro e w' ⟨rfl, hb⟩; refine ⟨_, rfl, ?_⟩; have n0_ := Aside0.mk (below_step (by repeat (first | (with_reducible first | exact HB.out | apply below_alloc | apply pw_below_drewN | apply below_drew1) | exact HB.out)) hb); clear HB; have HB := n0_; clear n0_; clear hb) | ((with_reducible refine gate_callee (f := 19) rfl ?_); refine goesL_ (some 14) rfl rfl Tryd.func19 (by kernel_rfl) rfl #[.int .u8 a0] rfl (by (try simp only [List.map_toArray, List.map_cons, List.map_nil]); first | done | rfl) ?_; (with_reducible refine (isa80_Cond.calls a0 cc _ A3.out (by first | exact hT | exact tabs_below hT HB.out | exact tabs_below hT (by repeat (first | exact HB.out | apply below_alloc | apply pw_below_drewN | apply below_drew1)))).mono ?_); rintro e w' ⟨rfl, ⟨nd, rfl⟩⟩; refine ⟨_, rfl, ?_⟩) | (go_at_call 13; (with_reducible refine (pidginlaw07_alive.calls k true _ A4.out (by first | exact hT | exact tabs_below hT HB.out | exact tabs_below hT (by repeat (first | exact HB.out | apply below_alloc | apply pw_below_drewN | apply below_drew1)))).mono ?_); rintro e w' ⟨rfl, hb⟩; have n0_ := Aside0.mk (below_step (by repeat (first | (with_reducible first | exact HB.out | apply below_alloc | apply pw_below_drewN | apply below_drew1) | exact HB.out)) hb); clear HB; have HB := n0_; clear n0_; clear hb))
  go_ret
  exact ⟨by first | rfl | (simp; done), by repeat (first | (with_reducible first | exact HB.out | apply below_alloc | apply pw_below_drewN | apply below_drew1) | exact HB.out)⟩
set_option maxHeartbeats 4000000 in
set_option maxRecDepth 100000 in
theorem kinds7 (k : Nat) (a0 cc : Int) (nm im : ByteArray) (w : World) (A1 : Aside0 (zilog_Name.f k a0 = some nm)) (A2 : Aside0 (isa80_Name.f k a0 = some im)) (A3 : Aside0 (isa80_Cond.f a0 = some cc)) (A4 : Aside0 (pidginlaw07_alive.f k = some true))
    (iJMP : (im.toList == [74, 77, 80]) = false)
    (iPCHL : (im.toList == [80, 67, 72, 76]) = false)
    (iCALL : (im.toList == [67, 65, 76, 76]) = false)
    (iRET : (im.toList == [82, 69, 84]) = false)
    (iRST : (im.toList == [82, 83, 84]) = false)
    (iHLT : (im.toList == [72, 76, 84]) = false)
    (iMOV : (im.toList == [77, 79, 86]) = false)
    (iMVI : (im.toList == [77, 86, 73]) = false)
    (iLXI : (im.toList == [76, 88, 73]) = false)
    (iLDA : (im.toList == [76, 68, 65]) = false)
    (iSTA : (im.toList == [83, 84, 65]) = true)
    (iLHLD : (im.toList == [76, 72, 76, 68]) = false)
    (iSHLD : (im.toList == [83, 72, 76, 68]) = false)
    (iLDAX : (im.toList == [76, 68, 65, 88]) = false)
    (iSTAX : (im.toList == [83, 84, 65, 88]) = false)
    (iSPHL : (im.toList == [83, 80, 72, 76]) = false)
    (nJP : (nm.toList == [74, 80]) = false)
    (nCALL : (nm.toList == [67, 65, 76, 76]) = false)
    (nRET : (nm.toList == [82, 69, 84]) = false)
    (nRST : (nm.toList == [82, 83, 84]) = false)
    (nHALT : (nm.toList == [72, 65, 76, 84]) = false)
    (nLD : (nm.toList == [76, 68]) = true)
    (hc : decide (cc ≥ 0) = false)
    (hT : Tabs w) : Calls Tryd.prog 6 #[.int .u8 a0] w fun e w' => e = .returned (.bool true) ∧ Below w.heap.size w w' := by
  have HB := Aside0.mk (Below.refl w.heap.size w)
  have hc2 : decide (0 ≤ cc) = false := hc
  go_enter Tryd.func6, Tryd.ntmps6
  go_wp2_with (first | ((with_reducible refine gate_callee (f := 8) rfl ?_); refine goesL_ (some 10) rfl rfl Tryd.func8 (by kernel_rfl) rfl #[.int .u8 a0] rfl (by (try simp only [List.map_toArray, List.map_cons, List.map_nil]); first | done | rfl) ?_; (with_reducible refine (zilog_Name.calls k a0 nm _ A1.out (by first | exact hT | exact tabs_below hT HB.out | exact tabs_below hT (by repeat (first | exact HB.out | apply below_alloc | apply pw_below_drewN | apply below_drew1)))).mono ?_); rintro e w' ⟨rfl, hb⟩; refine ⟨_, rfl, ?_⟩; have n0_ := Aside0.mk (below_step (by repeat (first | (with_reducible first | exact HB.out | apply below_alloc | apply pw_below_drewN | apply below_drew1) | exact HB.out)) hb); clear HB; have HB := n0_; clear n0_; clear hb) | ((with_reducible refine gate_callee (f := 18) rfl ?_); refine goesL_ (some 12) rfl rfl Tryd.func18 (by kernel_rfl) rfl #[.int .u8 a0] rfl (by (try simp only [List.map_toArray, List.map_cons, List.map_nil]); first | done | rfl) ?_; (with_reducible refine (isa80_Name.calls k a0 im _ A2.out (by first | exact hT | exact tabs_below hT HB.out | exact tabs_below hT (by repeat (first | exact HB.out | apply below_alloc | apply pw_below_drewN | apply below_drew1)))).mono ?_); rintro e w' ⟨rfl, hb⟩; refine ⟨_, rfl, ?_⟩; have n0_ := Aside0.mk (below_step (by repeat (first | (with_reducible first | exact HB.out | apply below_alloc | apply pw_below_drewN | apply below_drew1) | exact HB.out)) hb); clear HB; have HB := n0_; clear n0_; clear hb) | ((with_reducible refine gate_callee (f := 19) rfl ?_); refine goesL_ (some 14) rfl rfl Tryd.func19 (by kernel_rfl) rfl #[.int .u8 a0] rfl (by (try simp only [List.map_toArray, List.map_cons, List.map_nil]); first | done | rfl) ?_; (with_reducible refine (isa80_Cond.calls a0 cc _ A3.out (by first | exact hT | exact tabs_below hT HB.out | exact tabs_below hT (by repeat (first | exact HB.out | apply below_alloc | apply pw_below_drewN | apply below_drew1)))).mono ?_); rintro e w' ⟨rfl, ⟨nd, rfl⟩⟩; refine ⟨_, rfl, ?_⟩) | (go_at_call 13; (with_reducible refine (pidginlaw07_alive.calls k true _ A4.out (by first | exact hT | exact tabs_below hT HB.out | exact tabs_below hT (by repeat (first | exact HB.out | apply below_alloc | apply pw_below_drewN | apply below_drew1)))).mono ?_); rintro e w' ⟨rfl, hb⟩; have n0_ := Aside0.mk (below_step (by repeat (first | (with_reducible first | exact HB.out | apply below_alloc | apply pw_below_drewN | apply below_drew1) | exact HB.out)) hb); clear HB; have HB := n0_; clear n0_; clear hb))
  go_ret
  exact ⟨by first | rfl | (simp; done), by repeat (first | (with_reducible first | exact HB.out | apply below_alloc | apply pw_below_drewN | apply below_drew1) | exact HB.out)⟩
set_option maxHeartbeats 4000000 in
set_option maxRecDepth 100000 in
theorem kinds8 (k : Nat) (a0 cc : Int) (nm im : ByteArray) (w : World) (A1 : Aside0 (zilog_Name.f k a0 = some nm)) (A2 : Aside0 (isa80_Name.f k a0 = some im)) (A3 : Aside0 (isa80_Cond.f a0 = some cc)) (A4 : Aside0 (pidginlaw07_alive.f k = some true))
    (iJMP : (im.toList == [74, 77, 80]) = false)
    (iPCHL : (im.toList == [80, 67, 72, 76]) = false)
    (iCALL : (im.toList == [67, 65, 76, 76]) = false)
    (iRET : (im.toList == [82, 69, 84]) = false)
    (iRST : (im.toList == [82, 83, 84]) = false)
    (iHLT : (im.toList == [72, 76, 84]) = false)
    (iMOV : (im.toList == [77, 79, 86]) = false)
    (iMVI : (im.toList == [77, 86, 73]) = false)
    (iLXI : (im.toList == [76, 88, 73]) = false)
    (iLDA : (im.toList == [76, 68, 65]) = true)
    (iSTA : (im.toList == [83, 84, 65]) = false)
    (iLHLD : (im.toList == [76, 72, 76, 68]) = false)
    (iSHLD : (im.toList == [83, 72, 76, 68]) = false)
    (iLDAX : (im.toList == [76, 68, 65, 88]) = false)
    (iSTAX : (im.toList == [83, 84, 65, 88]) = false)
    (iSPHL : (im.toList == [83, 80, 72, 76]) = false)
    (nJP : (nm.toList == [74, 80]) = false)
    (nCALL : (nm.toList == [67, 65, 76, 76]) = false)
    (nRET : (nm.toList == [82, 69, 84]) = false)
    (nRST : (nm.toList == [82, 83, 84]) = false)
    (nHALT : (nm.toList == [72, 65, 76, 84]) = false)
    (nLD : (nm.toList == [76, 68]) = true)
    (hc : decide (cc ≥ 0) = false)
    (hT : Tabs w) : Calls Tryd.prog 6 #[.int .u8 a0] w fun e w' => e = .returned (.bool true) ∧ Below w.heap.size w w' := by
  have HB := Aside0.mk (Below.refl w.heap.size w)
  have hc2 : decide (0 ≤ cc) = false := hc
  go_enter Tryd.func6, Tryd.ntmps6
  go_wp2_with (first | ((with_reducible refine gate_callee (f := 8) rfl ?_); refine goesL_ (some 10) rfl rfl Tryd.func8 (by kernel_rfl) rfl #[.int .u8 a0] rfl (by (try simp only [List.map_toArray, List.map_cons, List.map_nil]); first | done | rfl) ?_; (with_reducible refine (zilog_Name.calls k a0 nm _ A1.out (by first | exact hT | exact tabs_below hT HB.out | exact tabs_below hT (by repeat (first | exact HB.out | apply below_alloc | apply pw_below_drewN | apply below_drew1)))).mono ?_); rintro e w' ⟨rfl, hb⟩; refine ⟨_, rfl, ?_⟩; have n0_ := Aside0.mk (below_step (by repeat (first | (with_reducible first | exact HB.out | apply below_alloc | apply pw_below_drewN | apply below_drew1) | exact HB.out)) hb); clear HB; have HB := n0_; clear n0_; clear hb) | ((with_reducible refine gate_callee (f := 18) rfl ?_); refine goesL_ (some 12) rfl rfl Tryd.func18 (by kernel_rfl) rfl #[.int .u8 a0] rfl (by (try simp only [List.map_toArray, List.map_cons, List.map_nil]); first | done | rfl) ?_; (with_reducible refine (isa80_Name.calls k a0 im _ A2.out (by first | exact hT | exact tabs_below hT HB.out | exact tabs_below hT (by repeat (first | exact HB.out | apply below_alloc | apply pw_below_drewN | apply below_drew1)))).mono ?_); rintro e w' ⟨rfl, hb⟩; refine ⟨_, rfl, ?_⟩; have n0_ := Aside0.mk (below_step (by repeat (first | (with_reducible first | exact HB.out | apply below_alloc | apply pw_below_drewN | apply below_drew1) | exact HB.out)) hb); clear HB; have HB := n0_; clear n0_; clear hb) | ((with_reducible refine gate_callee (f := 19) rfl ?_); refine goesL_ (some 14) rfl rfl Tryd.func19 (by kernel_rfl) rfl #[.int .u8 a0] rfl (by (try simp only [List.map_toArray, List.map_cons, List.map_nil]); first | done | rfl) ?_; (with_reducible refine (isa80_Cond.calls a0 cc _ A3.out (by first | exact hT | exact tabs_below hT HB.out | exact tabs_below hT (by repeat (first | exact HB.out | apply below_alloc | apply pw_below_drewN | apply below_drew1)))).mono ?_); rintro e w' ⟨rfl, ⟨nd, rfl⟩⟩; refine ⟨_, rfl, ?_⟩) | (go_at_call 13; (with_reducible refine (pidginlaw07_alive.calls k true _ A4.out (by first | exact hT | exact tabs_below hT HB.out | exact tabs_below hT (by repeat (first | exact HB.out | apply below_alloc | apply pw_below_drewN | apply below_drew1)))).mono ?_); rintro e w' ⟨rfl, hb⟩; have n0_ := Aside0.mk (below_step (by repeat (first | (with_reducible first | exact HB.out | apply below_alloc | apply pw_below_drewN | apply below_drew1) | exact HB.out)) hb); clear HB; have HB := n0_; clear n0_; clear hb))
  go_ret
  exact ⟨by first | rfl | (simp; done), by repeat (first | (with_reducible first | exact HB.out | apply below_alloc | apply pw_below_drewN | apply below_drew1) | exact HB.out)⟩
set_option maxHeartbeats 4000000 in
set_option maxRecDepth 100000 in
theorem kinds9 (k : Nat) (a0 cc : Int) (nm im : ByteArray) (w : World) (A1 : Aside0 (zilog_Name.f k a0 = some nm)) (A2 : Aside0 (isa80_Name.f k a0 = some im)) (A3 : Aside0 (isa80_Cond.f a0 = some cc)) (A4 : Aside0 (pidginlaw07_alive.f k = some true))
    (iJMP : (im.toList == [74, 77, 80]) = false)
    (iPCHL : (im.toList == [80, 67, 72, 76]) = false)
    (iCALL : (im.toList == [67, 65, 76, 76]) = false)
    (iRET : (im.toList == [82, 69, 84]) = false)
    (iRST : (im.toList == [82, 83, 84]) = false)
    (iHLT : (im.toList == [72, 76, 84]) = false)
    (iMOV : (im.toList == [77, 79, 86]) = true)
    (iMVI : (im.toList == [77, 86, 73]) = false)
    (iLXI : (im.toList == [76, 88, 73]) = false)
    (iLDA : (im.toList == [76, 68, 65]) = false)
    (iSTA : (im.toList == [83, 84, 65]) = false)
    (iLHLD : (im.toList == [76, 72, 76, 68]) = false)
    (iSHLD : (im.toList == [83, 72, 76, 68]) = false)
    (iLDAX : (im.toList == [76, 68, 65, 88]) = false)
    (iSTAX : (im.toList == [83, 84, 65, 88]) = false)
    (iSPHL : (im.toList == [83, 80, 72, 76]) = false)
    (nJP : (nm.toList == [74, 80]) = false)
    (nCALL : (nm.toList == [67, 65, 76, 76]) = false)
    (nRET : (nm.toList == [82, 69, 84]) = false)
    (nRST : (nm.toList == [82, 83, 84]) = false)
    (nHALT : (nm.toList == [72, 65, 76, 84]) = false)
    (nLD : (nm.toList == [76, 68]) = true)
    (hc : decide (cc ≥ 0) = false)
    (hT : Tabs w) : Calls Tryd.prog 6 #[.int .u8 a0] w fun e w' => e = .returned (.bool true) ∧ Below w.heap.size w w' := by
  have HB := Aside0.mk (Below.refl w.heap.size w)
  have hc2 : decide (0 ≤ cc) = false := hc
  go_enter Tryd.func6, Tryd.ntmps6
  go_wp2_with (first | ((with_reducible refine gate_callee (f := 8) rfl ?_); refine goesL_ (some 10) rfl rfl Tryd.func8 (by kernel_rfl) rfl #[.int .u8 a0] rfl (by (try simp only [List.map_toArray, List.map_cons, List.map_nil]); first | done | rfl) ?_; (with_reducible refine (zilog_Name.calls k a0 nm _ A1.out (by first | exact hT | exact tabs_below hT HB.out | exact tabs_below hT (by repeat (first | exact HB.out | apply below_alloc | apply pw_below_drewN | apply below_drew1)))).mono ?_); rintro e w' ⟨rfl, hb⟩; refine ⟨_, rfl, ?_⟩; have n0_ := Aside0.mk (below_step (by repeat (first | (with_reducible first | exact HB.out | apply below_alloc | apply pw_below_drewN | apply below_drew1) | exact HB.out)) hb); clear HB; have HB := n0_; clear n0_; clear hb) | ((with_reducible refine gate_callee (f := 18) rfl ?_); refine goesL_ (some 12) rfl rfl Tryd.func18 (by kernel_rfl) rfl #[.int .u8 a0] rfl (by (try simp only [List.map_toArray, List.map_cons, List.map_nil]); first | done | rfl) ?_; (with_reducible refine (isa80_Name.calls k a0 im _ A2.out (by first | exact hT | exact tabs_below hT HB.out | exact tabs_below hT (by repeat (first | exact HB.out | apply below_alloc | apply pw_below_drewN | apply below_drew1)))).mono ?_); rintro e w' ⟨rfl, hb⟩; refine ⟨_, rfl, ?_⟩; have n0_ := Aside0.mk (below_step (by repeat (first | (with_reducible first | exact HB.out | apply below_alloc | apply pw_below_drewN | apply below_drew1) | exact HB.out)) hb); clear HB; have HB := n0_; clear n0_; clear hb) | ((with_reducible refine gate_callee (f := 19) rfl ?_); refine goesL_ (some 14) rfl rfl Tryd.func19 (by kernel_rfl) rfl #[.int .u8 a0] rfl (by (try simp only [List.map_toArray, List.map_cons, List.map_nil]); first | done | rfl) ?_; (with_reducible refine (isa80_Cond.calls a0 cc _ A3.out (by first | exact hT | exact tabs_below hT HB.out | exact tabs_below hT (by repeat (first | exact HB.out | apply below_alloc | apply pw_below_drewN | apply below_drew1)))).mono ?_); rintro e w' ⟨rfl, ⟨nd, rfl⟩⟩; refine ⟨_, rfl, ?_⟩) | (go_at_call 13; (with_reducible refine (pidginlaw07_alive.calls k true _ A4.out (by first | exact hT | exact tabs_below hT HB.out | exact tabs_below hT (by repeat (first | exact HB.out | apply below_alloc | apply pw_below_drewN | apply below_drew1)))).mono ?_); rintro e w' ⟨rfl, hb⟩; have n0_ := Aside0.mk (below_step (by repeat (first | (with_reducible first | exact HB.out | apply below_alloc | apply pw_below_drewN | apply below_drew1) | exact HB.out)) hb); clear HB; have HB := n0_; clear n0_; clear hb))
  go_ret
  exact ⟨by first | rfl | (simp; done), by repeat (first | (with_reducible first | exact HB.out | apply below_alloc | apply pw_below_drewN | apply below_drew1) | exact HB.out)⟩
end Go.Proofs.YtldmnenomcipcaaDoor.G

/- The walk of the law ZilogBoth, by hand over the printed contracts; and the law at each of the 256 opcodes. -/
import Derived.Test.YtldmnenomcipcaaDoorG12
import Derived.OpenShut
import Derived.LoopTactic
import Derived.Lib.Hide
namespace Go.Proofs.YtldmnenomcipcaaDoor.G
open Go.RowKit Go.Proofs.YtldmnenomcipcaaDoorW.PrintWords Go.Proofs.YtldmnenomcipcaaDoorW.PrintLast Go.Proofs.YtldmnenomcipcaaDoorW.PrintMore
attribute [local go_sem] max2_int min2_int max_two min_two max_three min_three max_four min_four
set_option linter.unusedVariables false
set_option linter.unusedSimpArgs false
set_option maxHeartbeats 4000000 in
set_option maxRecDepth 100000 in
theorem both_empty (k : Nat) (a0 : Int) (w : World) (A1 : Aside0 (isa80_Name.f k a0 = some ⟨#[]⟩)) (A2 : Aside0 (zilog_Name.f k a0 = some ⟨#[]⟩)) (A3 : Aside0 (isa80_Size.f k a0 = some 0)) (A4 : Aside0 (zilog_Args.f k a0 = some [])) (A5 : Aside0 (pidginlaw07_alive.f k = some true))
    (hT : Tabs w) : Calls Tryd.prog 7 #[.int .u8 a0] w fun e w' => e = .returned (.bool true) ∧ Below w.heap.size w w' := by
  have HB := Aside0.mk (Below.refl w.heap.size w)
  go_enter Tryd.func7, Tryd.ntmps7
  go_wp2_with (first | ((with_reducible refine gate_callee (f := 18) rfl ?_); refine goesL_ (some 11) rfl rfl Tryd.func18 (by kernel_rfl) rfl #[.int .u8 a0] rfl (by (try simp only [List.map_toArray, List.map_cons, List.map_nil]); first | done | rfl) ?_; (with_reducible refine (isa80_Name.calls k a0 _ _ A1.out (by first | exact hT | exact tabs_below hT HB.out | exact tabs_below hT (by repeat (first | exact HB.out | apply below_alloc | apply pw_below_drewN | apply below_drew1)))).mono ?_); rintro e w' ⟨rfl, hb⟩; refine ⟨_, rfl, ?_⟩; have n0_ := Aside0.mk (below_step (by repeat (first | (with_reducible first | exact HB.out | apply below_alloc | apply pw_below_drewN | apply below_drew1) | exact HB.out)) hb); clear HB; have HB := n0_; clear n0_; clear hb) | ((with_reducible refine gate_callee (f := 8) rfl ?_); refine goesL_ (some 14) rfl rfl Tryd.func8 (by kernel_rfl) rfl #[.int .u8 a0] rfl (by (try simp only [List.map_toArray, List.map_cons, List.map_nil]); first | done | rfl) ?_; (with_reducible refine (zilog_Name.calls k a0 _ _ A2.out (by first | exact hT | exact tabs_below hT HB.out | exact tabs_below hT (by repeat (first | exact HB.out | apply below_alloc | apply pw_below_drewN | apply below_drew1)))).mono ?_); rintro e w' ⟨rfl, hb⟩; refine ⟨_, rfl, ?_⟩; have n0_ := Aside0.mk (below_step (by repeat (first | (with_reducible first | exact HB.out | apply below_alloc | apply pw_below_drewN | apply below_drew1) | exact HB.out)) hb); clear HB; have HB := n0_; clear n0_; clear hb) | (go_at_call 20; (with_reducible refine (isa80_Size.calls k a0 _ _ A3.out (by first | exact hT | exact tabs_below hT HB.out | exact tabs_below hT (by repeat (first | exact HB.out | apply below_alloc | apply pw_below_drewN | apply below_drew1)))).mono ?_); rintro e w' ⟨rfl, hb⟩; have n0_ := Aside0.mk (below_step (by repeat (first | (with_reducible first | exact HB.out | apply below_alloc | apply pw_below_drewN | apply below_drew1) | exact HB.out)) hb); clear HB; have HB := n0_; clear n0_; clear hb) | ((with_reducible refine gate_callee (f := 11) rfl ?_); refine goesL_ (some 29) rfl rfl Tryd.func11 (by kernel_rfl) rfl #[.int .u8 a0] rfl (by (try simp only [List.map_toArray, List.map_cons, List.map_nil]); first | done | rfl) ?_; (with_reducible refine (zilog_Args.calls k a0 _ _ A4.out (by first | exact hT | exact tabs_below hT HB.out | exact tabs_below hT (by repeat (first | exact HB.out | apply below_alloc | apply pw_below_drewN | apply below_drew1)))).mono ?_); rintro e w' ⟨v_, rfl, hq, hb⟩; obtain ⟨Aq, cq, rfl, _⟩ := Kd.Q_slice hq; have HQ := Aside0.mk hq; clear hq; refine ⟨_, rfl, ?_⟩; have n0_ := Aside0.mk (below_step (by repeat (first | (with_reducible first | exact HB.out | apply below_alloc | apply pw_below_drewN | apply below_drew1) | exact HB.out)) hb); clear HB; have HB := n0_; clear n0_; clear hb) | (go_at_call 13; (with_reducible refine (pidginlaw07_alive.calls k true _ A5.out (by first | exact hT | exact tabs_below hT HB.out | exact tabs_below hT (by repeat (first | exact HB.out | apply below_alloc | apply pw_below_drewN | apply below_drew1)))).mono ?_); rintro e w' ⟨rfl, hb⟩; have n0_ := Aside0.mk (below_step (by repeat (first | (with_reducible first | exact HB.out | apply below_alloc | apply pw_below_drewN | apply below_drew1) | exact HB.out)) hb); clear HB; have HB := n0_; clear n0_; clear hb))
  go_ret
  exact ⟨by first | rfl | (simp; done), by repeat (first | (with_reducible first | exact HB.out | apply below_alloc | apply pw_below_drewN | apply below_drew1) | exact HB.out)⟩
def stepSize (s : Int) (x : ByteArray) : Int := if (x.toList == [110, 110]) || (x.toList == [40, 110, 110, 41]) then 3 else if (x.toList == [110]) || (x.toList == [40, 110, 41]) then 2 else s
def sizeTo (l : List ByteArray) (j : Nat) : Int := (l.take j).foldl stepSize 1
theorem sizeTo_succ (l : List ByteArray) (j : Nat) (h : j < l.length) : sizeTo l (j + 1) = stepSize (sizeTo l j) (rdOf ByteArray.empty l (j : Int)) := by
  have hr : rdOf ByteArray.empty l (j : Int) = l[j] := by simp [rdOf, List.getD_eq_getElem?_getD, List.getElem?_eq_getElem h]
  unfold sizeTo
  rw [List.take_succ_eq_append_getElem h, List.foldl_append, hr]
  rfl
theorem ret_bool {a b : Bool} (h : a = b) : Ending.returned (.bool a) = .returned (.bool b) := by rw [h]
set_option maxHeartbeats 8000000 in
set_option maxRecDepth 100000 in
theorem both_full (k : Nat) (a0 sz : Int) (nm im : ByteArray) (l : List ByteArray) (w : World) (A1 : Aside0 (isa80_Name.f k a0 = some im)) (A2 : Aside0 (zilog_Name.f k a0 = some nm)) (A3 : Aside0 (isa80_Size.f k a0 = some sz)) (A4 : Aside0 (zilog_Args.f k a0 = some l)) (A5 : Aside0 (pidginlaw07_alive.f k = some true))
    (A6 : Aside0 (zilog_Find.f k nm l = some (a0, true))) (hi : im.toList.isEmpty = false) (hn : nm.toList.isEmpty = false) (hz : decide (sz > 0) = true) (hl : Hid (sizeTo l l.length = sz)) (hlen : l.length ≤ 100)
    (hT : Tabs w) : Calls Tryd.prog 7 #[.int .u8 a0] w fun e w' => e = .returned (.bool true) ∧ Below w.heap.size w w' := by
  have HB := Aside0.mk (Below.refl w.heap.size w)
  have hi2 : (im.toList == []) = false := by cases h : im.toList with | nil => rw [h] at hi; cases hi | cons x y => rfl
  have hn2 : (nm.toList == []) = false := by cases h : nm.toList with | nil => rw [h] at hn; cases hn | cons x y => rfl
  have hi3 : (im.toList != []) = true := by rw [bne, hi2]; rfl
  have hn3 : (nm.toList != []) = true := by rw [bne, hn2]; rfl
  have hz2 : decide (0 < sz) = true := hz
  go_enter Tryd.func7, Tryd.ntmps7
  go_wp2_with (first | ((with_reducible refine gate_callee (f := 18) rfl ?_); refine goesL_ (some 11) rfl rfl Tryd.func18 (by kernel_rfl) rfl #[.int .u8 a0] rfl (by (try simp only [List.map_toArray, List.map_cons, List.map_nil]); first | done | rfl) ?_; (with_reducible refine (isa80_Name.calls k a0 _ _ A1.out (by first | exact hT | exact tabs_below hT HB.out | exact tabs_below hT (by repeat (first | exact HB.out | apply below_alloc | apply pw_below_drewN | apply below_drew1)))).mono ?_); rintro e w' ⟨rfl, hb⟩; refine ⟨_, rfl, ?_⟩; have n0_ := Aside0.mk (below_step (by repeat (first | (with_reducible first | exact HB.out | apply below_alloc | apply pw_below_drewN | apply below_drew1) | exact HB.out)) hb); clear HB; have HB := n0_; clear n0_; clear hb) | ((with_reducible refine gate_callee (f := 8) rfl ?_); refine goesL_ (some 14) rfl rfl Tryd.func8 (by kernel_rfl) rfl #[.int .u8 a0] rfl (by (try simp only [List.map_toArray, List.map_cons, List.map_nil]); first | done | rfl) ?_; (with_reducible refine (zilog_Name.calls k a0 _ _ A2.out (by first | exact hT | exact tabs_below hT HB.out | exact tabs_below hT (by repeat (first | exact HB.out | apply below_alloc | apply pw_below_drewN | apply below_drew1)))).mono ?_); rintro e w' ⟨rfl, hb⟩; refine ⟨_, rfl, ?_⟩; have n0_ := Aside0.mk (below_step (by repeat (first | (with_reducible first | exact HB.out | apply below_alloc | apply pw_below_drewN | apply below_drew1) | exact HB.out)) hb); clear HB; have HB := n0_; clear n0_; clear hb) | (go_at_call 20; (with_reducible refine (isa80_Size.calls k a0 _ _ A3.out (by first | exact hT | exact tabs_below hT HB.out | exact tabs_below hT (by repeat (first | exact HB.out | apply below_alloc | apply pw_below_drewN | apply below_drew1)))).mono ?_); rintro e w' ⟨rfl, hb⟩; have n0_ := Aside0.mk (below_step (by repeat (first | (with_reducible first | exact HB.out | apply below_alloc | apply pw_below_drewN | apply below_drew1) | exact HB.out)) hb); clear HB; have HB := n0_; clear n0_; clear hb) | ((with_reducible refine gate_callee (f := 8) rfl ?_); refine goesL_ (some 37) rfl rfl Tryd.func8 (by kernel_rfl) rfl #[.int .u8 a0] rfl (by (try simp only [List.map_toArray, List.map_cons, List.map_nil]); first | done | rfl) ?_; (with_reducible refine (zilog_Name.calls k a0 _ _ A2.out (by first | exact hT | exact tabs_below hT HB.out | exact tabs_below hT (by repeat (first | exact HB.out | apply below_alloc | apply pw_below_drewN | apply below_drew1)))).mono ?_); rintro e w' ⟨rfl, hb⟩; refine ⟨_, rfl, ?_⟩; have n0_ := Aside0.mk (below_step (by repeat (first | (with_reducible first | exact HB.out | apply below_alloc | apply pw_below_drewN | apply below_drew1) | exact HB.out)) hb); clear HB; have HB := n0_; clear n0_; clear hb) | ((with_reducible refine gate_callee (f := 11) rfl ?_); refine goesL_ (some 39) rfl rfl Tryd.func11 (by kernel_rfl) rfl #[.int .u8 a0] rfl (by (try simp only [List.map_toArray, List.map_cons, List.map_nil]); first | done | rfl) ?_; (with_reducible refine (zilog_Args.calls k a0 _ _ A4.out (by first | exact hT | exact tabs_below hT HB.out | exact tabs_below hT (by repeat (first | exact HB.out | apply below_alloc | apply pw_below_drewN | apply below_drew1)))).mono ?_); rintro e w' ⟨v_, rfl, hq, hb⟩; obtain ⟨Aq, cq, rfl, _⟩ := Kd.Q_slice hq; have HQ := Aside0.mk hq; clear hq; refine ⟨_, rfl, ?_⟩; have n0_ := Aside0.mk (below_step (by repeat (first | (with_reducible first | exact HB.out | apply below_alloc | apply pw_below_drewN | apply below_drew1) | exact HB.out)) hb); clear HB; have HB := n0_; clear n0_; clear hb) | ((with_reducible refine gate_callee (f := 21) rfl ?_); refine goesL_ (some 40) rfl rfl Tryd.func21 (by kernel_rfl) rfl #[.string nm, .slice Aq l.length cq] rfl (by (try simp only [List.map_toArray, List.map_cons, List.map_nil]); first | done | rfl) ?_; (with_reducible refine (zilog_Find.calls k nm _ _ l a0 true _ ?side1 ?side2 A6.out (by first | exact hT | exact tabs_below hT HB.out | exact tabs_below hT (by repeat (first | exact HB.out | apply below_alloc | apply pw_below_drewN | apply below_drew1)))).mono ?_); (case side1 => exact (Kd.Q_reads' HQ.out).2.2); (case side2 => exact (Kd.Q_reads' HQ.out).2.1); rintro e w' ⟨rfl, hb⟩; refine ⟨_, rfl, ?_⟩; have n0_ := Aside0.mk (below_step (by repeat (first | (with_reducible first | exact HB.out | apply below_alloc | apply pw_below_drewN | apply below_drew1) | exact HB.out)) hb); clear HB; have HB := n0_; clear n0_; clear hb) | ((with_reducible refine gate_callee (f := 11) rfl ?_); refine goesL_ (some 44) rfl rfl Tryd.func11 (by kernel_rfl) rfl #[.int .u8 a0] rfl (by (try simp only [List.map_toArray, List.map_cons, List.map_nil]); first | done | rfl) ?_; (with_reducible refine (zilog_Args.calls k a0 _ _ A4.out (by first | exact hT | exact tabs_below hT HB.out | exact tabs_below hT (by repeat (first | exact HB.out | apply below_alloc | apply pw_below_drewN | apply below_drew1)))).mono ?_); rintro e w' ⟨v_, rfl, hq, hb⟩; obtain ⟨Ar, cr, rfl, _⟩ := Kd.Q_slice hq; have HR := Aside0.mk hq; clear hq; refine ⟨_, rfl, ?_⟩; have n0_ := Aside0.mk (below_step (by repeat (first | (with_reducible first | exact HB.out | apply below_alloc | apply pw_below_drewN | apply below_drew1) | exact HB.out)) hb); clear HB; have HB := n0_; clear n0_; clear hb))
  go_loop [8, 9] (fun s i => ∃ j : Nat, j ≤ l.length ∧ i = .int .i64 j ∧ s = .int .i64 (sizeTo l j)) (fun _ i => l.length - (intOf i).toNat)
  case atStart => exact ⟨0, Nat.zero_le _, rfl, rfl⟩
  case round =>
    obtain ⟨j, hj, rfl, rfl⟩ := hrel
    by_cases hlt : j < l.length
    · have hs := Lib.hid (sizeTo_succ l j hlt)
      obtain ⟨ad, eA, hx⟩ := Kd.at_string (Kd.Q_reads' HR.out).2.2 (j : Int) (by omega) (by omega)
      cases eA
      rw [Int.toNat_natCast] at hx
      generalize rdOf ByteArray.empty l (j : Int) = y at hx hs
      cases h1 : (y.toList == [110]) <;> cases h2 : (y.toList == [40, 110, 41]) <;> cases h3 : (y.toList == [110, 110]) <;> cases h4 : (y.toList == [40, 110, 110, 41])
      all_goals
        go_wp2
        go_round
        case rel => exact ⟨j + 1, by omega, by go_num, by rw [hs.out]; simp only [stepSize, h1, h2, h3, h4]; rfl⟩
        case measure => simp [intOf]; omega
    · have hje : j = l.length := by omega
      subst hje
      rw [hl.out]
      go_wp2_with (first | (go_at_call 20; (with_reducible refine (isa80_Size.calls k a0 _ _ A3.out (by first | exact hT | exact tabs_below hT HB.out | exact tabs_below hT (by repeat (first | exact HB.out | apply below_alloc | apply pw_below_drewN | apply below_drew1)))).mono ?_); rintro e w' ⟨rfl, hb⟩; have n0_ := Aside0.mk (below_step (by repeat (first | (with_reducible first | exact HB.out | apply below_alloc | apply pw_below_drewN | apply below_drew1) | exact HB.out)) hb); clear HB; have HB := n0_; clear n0_; clear hb) | (go_at_call 13; (with_reducible refine (pidginlaw07_alive.calls k true _ A5.out (by first | exact hT | exact tabs_below hT HB.out | exact tabs_below hT (by repeat (first | exact HB.out | apply below_alloc | apply pw_below_drewN | apply below_drew1)))).mono ?_); rintro e w' ⟨rfl, hb⟩; have n0_ := Aside0.mk (below_step (by repeat (first | (with_reducible first | exact HB.out | apply below_alloc | apply pw_below_drewN | apply below_drew1) | exact HB.out)) hb); clear HB; have HB := n0_; clear n0_; clear hb))
      go_ret
      exact ⟨by first | rfl | (simp; done), by repeat (first | (with_reducible first | exact HB.out | apply below_alloc | apply pw_below_drewN | apply below_drew1) | exact HB.out)⟩
def bothOf (a0 : Int) : Bool := match isa80_Name.f 300 a0, zilog_Name.f 300 a0, isa80_Size.f 300 a0, zilog_Args.f 300 a0 with
  | some im, some nm, some sz, some l => (decide (im = ⟨#[]⟩) && (decide (nm = ⟨#[]⟩) && (sz == 0 && l.isEmpty))) || (!im.toList.isEmpty && (!nm.toList.isEmpty && (decide (sz > 0) && (sizeTo l l.length == sz && (decide (l.length ≤ 100) && decide (zilog_Find.f 300 nm l = some (a0, true)))))))
  | _, _, _, _ => false
set_option maxRecDepth 100000 in
theorem all_both : ∀ n : Fin 256, bothOf (n.val : Int) = true := by decide +kernel
theorem alive300 : pidginlaw07_alive.f 300 = some true := by decide +kernel
theorem both_walk (a0 : Int) (w : World) (w0 : (Lit.int .u8 a0).wf = true) (hT : Tabs w) :
    Calls Tryd.prog 7 #[.int .u8 a0] w fun e w' => e = .returned (.bool true) ∧ Below w.heap.size w w' := by
  obtain ⟨n, rfl⟩ : ∃ n : Fin 256, a0 = (n.val : Int) := by
    have hb := bounds_u8 w0
    exact ⟨⟨a0.toNat, by omega⟩, by simp only []; omega⟩
  have h := all_both n
  unfold bothOf at h
  split at h
  · rename_i im nm sz l A1 A2 A3 A4
    simp only [Bool.or_eq_true, Bool.and_eq_true, decide_eq_true_eq, beq_iff_eq, Bool.not_eq_true'] at h
    rcases h with ⟨h1, h2, h3, h4⟩ | ⟨h1, h2, h3, h4, h5, h6⟩
    · subst h1 h2 h3
      have h5 : l = [] := List.isEmpty_iff.1 h4
      subst h5
      exact both_empty 300 _ w ⟨A1⟩ ⟨A2⟩ ⟨A3⟩ ⟨A4⟩ ⟨alive300⟩ hT
    · exact both_full 300 _ sz nm im l w ⟨A1⟩ ⟨A2⟩ ⟨A3⟩ ⟨A4⟩ ⟨alive300⟩ ⟨h6⟩ h1 h2 (decide_eq_true h3) (Lib.hid h4) h5 hT
  · cases h
end Go.Proofs.YtldmnenomcipcaaDoor.G

/- PROVED: what Runs makes. No condition beyond each theorem's own. -/
import Derived.Test.YtgcjioncfldgcaaDoorG0
import Derived.Maps.AppendAt
import Derived.Test.YtgcjioncfldgcaaDoorJE
import Derived.BigRegion
import Derived.Deep.RegionLaw
import Derived.LoopTactic
set_option linter.unusedVariables false
set_option linter.unusedSimpArgs false
namespace Go.Proofs.YtgcjioncfldgcaaDoor.I
open Go Go.RowKit Go.Proofs.YtgcjioncfldgcaaDoorW.PrintWords Go.Proofs.YtgcjioncfldgcaaDoorW.PrintLast Go.Proofs.YtgcjioncfldgcaaDoorW.PrintMore G
/-- Runs in memory, of the call's own. -/
abbrev RunsAt (w : World) (n0 : Nat) (v : Value) (rs : List S45) : Prop := Kd.S k45 44 w n0 (fun _ => True) v rs
theorem info5 : (Tryd.prog.info? 5).map (fun i => (i.zero, i.size, i.bytes)) = some (some (.int .u8 0), 1, 1) := by kernel_rfl
/-- A byte more in the last run: what the append comes to, and the store behind it. -/
theorem runs_push (w : World) (n0 g n cap : Nat) (rs : List S45) (i : Nat) (x : Int) (hS : RunsAt w n0 (.slice (some ⟨g, 0, none⟩) n cap) rs) (hi : i < rs.length) (hn0 : n0 ≤ w.heap.size) (hlen : (rs.getD i z45).f1.length < 65536) :
    ∃ (a : Option Addr) (k c : Nat), w.cell? ⟨g, i * 2 + 1, none⟩ = some (.slice a k c) ∧ w.frozen? ⟨g, i * 2 + 1, none⟩ = false ∧
      ∃ (b' k' c' : Nat) (w1 : World), ((Builtin.append_ #[42, 42] 42 #[.slice a k c, .slice (some ⟨w.heap.size, 0, none⟩) 1 1]).run Tryd.prog (w.alloc (.cells #[.int .u8 x] 5)) = .ok (.slice (some ⟨b', 0, none⟩) k' c') w1) ∧
        w1.cell? ⟨g, i * 2 + 1, none⟩ = some (.slice a k c) ∧ w1.frozen? ⟨g, i * 2 + 1, none⟩ = false ∧
        RunsAt (w1.setCell ⟨g, i * 2 + 1, none⟩ (.slice (some ⟨b', 0, none⟩) k' c')) n0 (.slice (some ⟨g, 0, none⟩) n cap) (rs.set i ⟨(rs.getD i z45).f0, (rs.getD i z45).f1 ++ [x]⟩) ∧
        Below n0 w (w1.setCell ⟨g, i * 2 + 1, none⟩ (.slice (some ⟨b', 0, none⟩) k' c')) ∧
        (∀ (k : Nat) (C : Array Value), w.heap[k]? = some (Obj.cells C 37 (0, 0)) → (w1.setCell ⟨g, i * 2 + 1, none⟩ (.slice (some ⟨b', 0, none⟩) k' c')).heap[k]? = some (Obj.cells C 37 (0, 0))) := by
  have hn := (Kd.S_reads' hS).1
  have hgg := Kd.S_typed hS g rfl
  obtain ⟨gc, hgc⟩ := hgg
  have hgb := Kd.S_base hS g rfl
  have hglt := Kd.S_lt hS g rfl
  obtain ⟨oki, c, hcl, hM, hcc, hfr, hoki, hH⟩ := Kd.S_elem hS z45 (i : Int) (by omega) (by omega)
  rw [Int.toNat_natCast] at hM hcc hfr
  obtain ⟨ve, rfl, hR⟩ := k45_openM hM
  have hcell := hcc 1 ve rfl
  have hfro := hfr 1
  rw [show k45.sz = 2 from rfl] at hcell hfro
  obtain ⟨a, c0, rfl⟩ := Kd.R_slice hR
  obtain ⟨i0, hi0, hz0, hz1, hz2⟩ := info_parts info5
  have hty := Kd.R_typed hR
  have hve : ∀ k, (Value.slice a (rs.getD i z45).f1.length c0).ownBlock = some k → k ≠ g := fun k hk => (hoki k (hR.1 k hk)).2
  have hR' : (Kd.int .u8).R 5 w n0 (fun k => oki k ∨ True ∧ w.heap.size ≤ k) (.slice a (rs.getD i z45).f1.length c0) (rs.getD i z45).f1 := Kd.R_mono hR (fun _ h => .inl h)
  obtain ⟨h0, inner, hown, hr⟩ := hR'
  obtain ⟨v', w1, hrun, hown1, hgr, _, hat⟩ := run_append_own_at (P := Tryd.prog) (w.alloc (.cells #[.int .u8 x] 5)) n0 42 42 5 i0 (.int .u8 0) 1 1 Tryd.underlying42 hi0 hz0 hz1 hz2 rfl (by decide) _ _ inner (hown.alloc _) ⟨w.heap.size, 0, none⟩ 1 1 [.int .u8 x] rfl (cell_one_new _ _ _) (by simp [Value.oneCell']) (by unfold maxLen; omega) (by omega) (by simp; omega)
  have hg : w.grownBy w1 (Value.slice a (rs.getD i z45).f1.length c0).ownBlock := (World.grownBy_alloc w _ _).trans hgr
  have hat' : v'.ownBlock = (Value.slice a (rs.getD i z45).f1.length c0).ownBlock ∨ ∃ b, v'.ownBlock = some b ∧ w.heap.size ≤ b := by
    rcases hat with h | h
    · exact .inl h
    · exact .inr ⟨_, h, by simp⟩
  have hR1 : (Kd.int .u8).R 5 w1 n0 (fun k => oki k ∨ True ∧ w.heap.size ≤ k) v' ((rs.getD i z45).f1 ++ [x]) :=
    Kd.R_appended (d := Kd.int .u8) (okp := fun _ => False) (cs := [.int .u8 x]) h0 hr rfl (fun _ h => h.elim) (fun k hk => .inr ⟨trivial, hk⟩) hown1 hg hat'
  have hH1 := Kd.H_grown (Kd.H_widen hH) hg (fun k e => .inl (hR.1 k e))
  obtain ⟨b', c', rfl⟩ : ∃ b' c', v' = .slice (some ⟨b', 0, none⟩) ((rs.getD i z45).f1.length + 1) c' := by
    obtain ⟨g', cap', e, _⟩ := Kd.R_form hR1 (by simp)
    exact ⟨g', cap', by simpa using e⟩
  have hseg := Kd.S_seg0 hH1 (by omega) (by omega) (seg := [.slice (some ⟨b', 0, none⟩) ((rs.getD i z45).f1.length + 1) c']) (j := 1) (show 1 + 1 ≤ 2 from by decide) (x' := (⟨(rs.getD i z45).f0, (rs.getD i z45).f1 ++ [x]⟩ : S45)) (k45_mkM _ _ _ (⟨(rs.getD i z45).f0, (rs.getD i z45).f1 ++ [x]⟩ : S45) hR1) (fun _ h => h)
  obtain ⟨hcc1, hfr1⟩ := Kd.H_at hH1 (by omega) (by omega)
  rw [Int.toNat_natCast] at hseg hcc1 hfr1
  have hcell1 := hcc1 1 _ rfl
  have hfro1 := hfr1 1
  rw [show k45.sz = 2 from rfl] at hcell1 hfro1
  refine ⟨a, _, c0, hcell, hfro, b', _, c', w1, hrun, hcell1, hfro1, hseg.1, ?_, ?_⟩
  · have hB1 : Below n0 w w1 := (Below.refl n0 w).grown hg hn0 (fun k e => Kd.R_base hR k e)
    exact hB1.setCell (p := ⟨g, i * 2 + 1, none⟩) hgb _
  · intro k C hk
    have hkl : k < w.heap.size := (Array.getElem?_eq_some_iff.1 hk).1
    have n1 : k ≠ g := by rintro rfl; rw [hgc] at hk; simp at hk
    have n2 : some k ≠ (Value.slice a (rs.getD i z45).f1.length c0).ownBlock := by
      intro e
      obtain ⟨cc, hcc⟩ := hty k e.symm
      rw [hcc] at hk; simp at hk
    rw [heap_setCell_other _ _ _ _ n1, hg.block k hkl n2]
    exact hk
end Go.Proofs.YtgcjioncfldgcaaDoor.I
namespace Go.Proofs.YtgcjioncfldgcaaDoor.I
open Go Go.RowKit Go.Proofs.YtgcjioncfldgcaaDoorW.PrintWords Go.Proofs.YtgcjioncfldgcaaDoorW.PrintLast Go.Proofs.YtgcjioncfldgcaaDoorW.PrintMore G
/-- The runs of the first k bytes: byte j is B j, at A j. -/
def lastOf (rs : List S45) (x : Nat) : List S45 := rs.set (rs.length - 1) ⟨(rs.getD (rs.length - 1) z45).f0, (rs.getD (rs.length - 1) z45).f1 ++ [(x : Int)]⟩
def runsK (A B : Nat → Nat) : Nat → List S45
  | 0 => []
  | k + 1 => lastOf (if 0 < k ∧ A (k - 1) + 1 = A k then runsK A B k else runsK A B k ++ [⟨A k, []⟩]) (B k)
/-- The address behind the first k bytes; -1: there is none. -/
def nextK (A : Nat → Nat) (k : Nat) : Int := if k = 0 then -1 else (A (k - 1) : Int) + 1
theorem lastOf_length (rs : List S45) (x : Nat) : (lastOf rs x).length = rs.length := by simp [lastOf]
theorem runsK_pos (A B : Nat → Nat) (k : Nat) (hk : 0 < k) : 0 < (runsK A B k).length := by
  induction k with
  | zero => omega
  | succ k ih =>
    rw [runsK, lastOf_length]
    split
    · rename_i h; exact ih h.1
    · simp
theorem runsK_len (A B : Nat → Nat) (k : Nat) : (runsK A B k).length ≤ k := by
  induction k with
  | zero => simp [runsK]
  | succ k ih =>
    rw [runsK, lastOf_length]
    split
    · omega
    · simp; omega
theorem runsK_each (A B : Nat → Nat) (k i : Nat) : ((runsK A B k).getD i z45).f1.length ≤ k := by
  induction k generalizing i with
  | zero => simp [runsK, z45]
  | succ k ih =>
    rw [runsK]
    have key : ∀ rs : List S45, (∀ i, (rs.getD i z45).f1.length ≤ k) → ((lastOf rs (B k)).getD i z45).f1.length ≤ k + 1 := by
      intro rs h
      unfold lastOf
      rw [List.getD_eq_getElem?_getD, List.getElem?_set]
      split
      · split
        · have := h (rs.length - 1); simpa using this
        · simp [z45]
      · have := h i; rw [List.getD_eq_getElem?_getD] at this; omega
    split
    · exact key _ ih
    · refine key _ fun j => ?_
      rw [List.getD_eq_getElem?_getD, List.getElem?_append]
      split
      · have := ih j; rwa [List.getD_eq_getElem?_getD] at this
      · have : (([⟨(A k : Int), []⟩] : List S45)[j - (runsK A B k).length]?.getD z45).f1 = [] := by
          rcases Nat.eq_zero_or_pos (j - (runsK A B k).length) with e | e
          · rw [e]; rfl
          · rw [List.getElem?_eq_none (by simp; omega)]; rfl
        rw [this]; simp
/-- An append, whatever it comes to, as a step of a region that draws. -/
theorem step_append_eq {P : Program} {ops : Array Oper} {o : Oper} {a : Act} {w w' : World} {K : Act → World → Prop} {Q : Exit → Act → World → Prop} {E : Prop}
    (hg : o.guard = none) (s x : Operand) (t : TypeId) (hop : o.op = Op.call { callee := Callee.builtin Builtin.append, args := #[s, x], argTypes := #[t, t] }) (ty : TypeId) (hty : o.type = ty)
    (v v2 v' : Value) (hs : a.eval s = v) (hx : a.eval x = v2) (hrun : (Builtin.append_ #[t, t] ty #[v, v2]).run P w = .ok v' w') (hK : K (a.put o.dst v') w') :
    if Region.wanted o (yielded ops a.tmps) = true then Oper.wp P o a w K Q else E := by
  have hw : Region.wanted o (yielded ops a.tmps) = true := by simp [Region.wanted, hg]
  rw [if_pos hw]
  subst hty
  unfold Oper.wp
  simp [execOp, hop, resolve, invoke, builtin, hs, hx, hrun, Result.andThen]
  exact hK
theorem keep37 {W W0 : World} {v : Value} {k : Nat} {C : Array Value} (hg : W.grownBy W0 v.ownBlock) (hty : ∀ k, v.ownBlock = some k → ∃ cells, W.heap[k]? = some (Obj.cells cells 44 (0, 0))) (hk : W.heap[k]? = some (Obj.cells C 37 (0, 0))) :
    W0.heap[k]? = some (Obj.cells C 37 (0, 0)) := by
  rw [hg.block k (Array.getElem?_eq_some_iff.1 hk).1 (fun e => ?_)]
  · exact hk
  · obtain ⟨c, hc⟩ := hty k e.symm
    rw [hc] at hk; simp at hk
theorem info44 : (Tryd.prog.info? 44).map (fun i => (i.zero, i.size, i.bytes)) = some (some (.agg #[.int .u16 0, .slice none 0 0]), 2, 32) := by kernel_rfl
theorem rows_at (f : Nat → Nat) : ∀ (L : List Nat) (k a : Nat), L[k]? = some a → (rowsOf f L)[k * 2]? = some (.int .u16 (a : Int)) ∧ (rowsOf f L)[k * 2 + 1]? = some (.int .u8 (f a : Int))
  | [], k, a, h => by simp at h
  | x :: L, 0, a, h => by simp at h; subst h; simp [rowsOf]
  | x :: L, k + 1, a, h => by
    have := rows_at f L k a (by simpa using h)
    have e1 : (k + 1) * 2 = k * 2 + 2 := by omega
    simp only [rowsOf, List.flatMap_cons, e1] at this ⊢
    simpa using this
set_option maxHeartbeats 2000000 in
set_option maxRecDepth 100000 in
theorem runs_some (b N : Nat) (f h A B : Nat → Nat) (w : World) (H : ImgAt w b f h) (hh : Hid (∀ j, h j < 18446744073709551616)) (hT : Tabs w) (h0b : 0 < w.heap.size) (hf : Hid (∀ i, f i < 256))
    (hN : Hid ((addrsTo h 65536).length = N)) (hA : Hid (∀ j, j < N → (addrsTo h 65536)[j]? = some (A j) ∧ f (A j) = B j)) (hN0 : 0 < N) :
    Calls Tryd.prog 13 #[.pointer (some ⟨b, 0, none⟩)] w fun e w' => ∃ v, e = .returned v ∧ RunsAt w' w.heap.size v (runsK A B N) ∧ Below w.heap.size w w' := by
  have hN1 : N ≤ 65536 := by rw [← hN.out]; exact addrsTo_length h 65536
  have hb10 := Lib.hid (bytes_in b f h w H hh hT h0b)
  clear H hT
  go_enter Tryd.func13, Tryd.ntmps13
  go_wp2_with (go_at_call 10; (with_reducible refine (callsIn_wide.1 hb10.out).mono ?_); rintro e w1 ⟨v, rfl, hrow, hB⟩; rw [hN.out] at hrow; obtain ⟨hlen, hrow⟩ := hrow; rcases hrow with ⟨_, h0⟩ | ⟨gb, cap, C, rfl, hgb, hC, hcap, _, hCs, hCl⟩; (exfalso; omega))
  have HC : Hid (∀ k : Nat, k < N → C[k * 2]? = some (.int .u16 (A k : Int)) ∧ C[k * 2 + 1]? = some (.int .u8 (B k : Int)) ∧ A k < 65536 ∧ B k < 256) := Lib.hid fun k hk => by
    obtain ⟨q1, q2⟩ := hA.out k hk
    have r := rows_at f _ k _ q1
    rw [← hCl, List.getElem?_take_of_lt (by omega), List.getElem?_take_of_lt (by omega), q2] at r
    have hm : A k ∈ addrsTo h 65536 := List.mem_of_getElem? q1
    have : A k < 65536 := by simp [addrsTo] at hm; exact hm.1
    exact ⟨by simpa using r.1, by simpa using r.2, this, by rw [← q2]; exact hf.out _⟩
  have HB := Lib.hid hB
  have HG := Lib.hid hC
  have HS := Lib.hid (And.intro hB.size hgb)
  clear hCl hCs hlen hcap hB hC hgb
  go_loopw [2, 3, 10] (fun v nx i wr => ∃ k : Nat, k ≤ N ∧ i = .int .i64 k ∧ nx = .int .i64 (nextK A k) ∧ RunsAt wr w.heap.size v (runsK A B k) ∧ Below w.heap.size w wr ∧ wr.heap[gb]? = some (Obj.cells C 37 (0, 0))) (fun _ _ i _ => N - (intOf i).toNat)
  case atStart => exact ⟨0, Nat.zero_le _, rfl, rfl, Kd.S_nil _ _ _ _ _, HB.out, HG.out⟩
  case round =>
    obtain ⟨k, hk, rfl, rfl, hS, hB2, hG2⟩ := hrel
    by_cases hlt : k < N
    · obtain ⟨c1, c2, a1, b1⟩ := HC.out k hlt
      have hx0 : wr.cell? ⟨gb, k * 2, none⟩ = some (.int .u16 (A k : Int)) := by simp [World.cell?, hG2, c1]
      have hx1 : wr.cell? ⟨gb, k * 2 + 1, none⟩ = some (.int .u8 (B k : Int)) := by simp [World.cell?, hG2, c2]
      have GS := Lib.hid hS
      have GB := Lib.hid hB2
      have GG := Lib.hid hG2
      clear c1 c2 hS hB2 hG2
      by_cases hc : 0 < k ∧ A (k - 1) + 1 = A k
      · have hn : nextK A k = (A k : Int) := by unfold nextK; rw [if_neg (by omega)]; omega
        rw [hn]
        have hr : Hid (runsK A B (k + 1) = lastOf (runsK A B k) (B k)) := Lib.hid (by rw [runsK, if_pos hc])
        clear hn
        generalize hrs : runsK A B k = rs at GS hr
        have hpos : 0 < rs.length := by rw [← hrs]; exact runsK_pos A B k hc.1
        have hle : rs.length ≤ k := by rw [← hrs]; exact runsK_len A B k
        have hea : ∀ i, (rs.getD i z45).f1.length ≤ k := fun i => by rw [← hrs]; exact runsK_each A B k i
        obtain ⟨g, cap2, rfl, hgn, hgl, _⟩ := Kd.S_form GS.out hpos
        obtain ⟨m, hm⟩ : ∃ m, rs.length = m + 1 := ⟨rs.length - 1, by omega⟩
        have GS' : Hid (RunsAt wr w.heap.size (.slice (some ⟨g, 0, none⟩) (m + 1) cap2) rs) := Lib.hid (by have := GS.out; rwa [hm] at this)
        clear GS
        rw [hm]
        have hm1 : m < 65536 := by omega
        have HM := Lib.hid (And.intro hm hea)
        clear hm hle hpos hrs hea
        go_wp2
        obtain ⟨W0, hW0⟩ : ∃ W0, W0 = wr.alloc (Obj.cells #[Value.int IntKind.u16 ↑(A k), Value.int IntKind.u8 ↑(B k)] 37) := ⟨_, rfl⟩
        rw [← hW0]
        have hS0 : RunsAt W0 w.heap.size (.slice (some ⟨g, 0, none⟩) (m + 1) cap2) rs := by rw [hW0]; exact Kd.S_alloc GS'.out _
        have hB0 : Below w.heap.size w W0 := by rw [hW0]; exact GB.out.alloc GB.out.size _
        have hG0 : W0.heap[gb]? = some (Obj.cells C 37 (0, 0)) := by rw [hW0]; exact (Below.heap_alloc _ _ _ (Array.getElem?_eq_some_iff.1 GG.out).1).trans GG.out
        have hb1 : W0.cell? ⟨wr.heap.size, 1, none⟩ = some (.int .u8 (B k : Int)) := by rw [hW0]; simp
        have hb0 : W0.cell? ⟨wr.heap.size, 0, none⟩ = some (.int .u16 (A k : Int)) := by rw [hW0]; simp
        have hbx : W0.heap[wr.heap.size]? = some (Obj.cells #[Value.int IntKind.u16 ↑(A k), Value.int IntKind.u8 ↑(B k)] 37 (0, 0)) := by rw [hW0]; exact World.alloc_heap_new _ _
        clear hW0 GS' GB GG hx0 hx1
        obtain ⟨va, vk, vc, hcell, hfro, b', k', c', w1', hap, hcell1, hfro1, hS1, hB1, hG1⟩ := runs_push W0.drew w.heap.size g (m + 1) cap2 rs m (B k : Int) (Kd.S_drew hS0) (by have := HM.out.1; omega) hB0.size (by have := HM.out.2 m; omega)
        have hcell' : W0.cell? ⟨g, m * 2 + 1, none⟩ = some (.slice va vk vc) := hcell
        have hap' : (Builtin.append_ #[42, 42] 42 #[.slice va vk vc, .slice (some ⟨W0.heap.size, 0, none⟩) 1 1]).run Tryd.prog (W0.alloc (.cells #[.int .u8 (B k : Int)] 5)).drew = .ok (.slice (some ⟨b', 0, none⟩) k' c') w1' := hap
        have hgl0 : g < W0.heap.size := Kd.S_lt hS0 g rfl
        have hcell2 : (W0.alloc (Obj.cells #[Value.int IntKind.u8 ↑(B k)] 5)).cell? ⟨g, m * 2 + 1, none⟩ = some (.slice va vk vc) := (((Below.refl W0.heap.size W0).alloc (Nat.le_refl _) _).cell (p := ⟨g, m * 2 + 1, none⟩) hgl0).trans hcell'
        have hb2 : (W0.alloc (Obj.cells #[Value.int IntKind.u8 ↑(B k)] 5)).cell? ⟨wr.heap.size, 1, none⟩ = some (.int .u8 (B k : Int)) := (((Below.refl W0.heap.size W0).alloc (Nat.le_refl _) _).cell (p := ⟨wr.heap.size, 1, none⟩) (block_lt_of_cell hb1)).trans hb1
        have H1 := Lib.hid (And.intro hS1 (And.intro (hB0.trans (Below.trans (by exact ⟨rfl, rfl, rfl, Nat.le_refl _, fun _ _ => rfl⟩) hB1)) (hG1 gb C hG0)))
        have hxa : (w1'.setCell ⟨g, m * 2 + 1, none⟩ (.slice (some ⟨b', 0, none⟩) k' c')).cell? ⟨wr.heap.size, 0, none⟩ = some (.int .u16 (A k : Int)) := by simp [World.cell?, hG1 _ _ hbx]
        clear hbx
        clear hS1 hB1 hG1 hS0 hB0 hG0 hcell hap
        go_region_law (refine step_append_eq rfl (.tmp 34) (.tmp 37) 42 rfl 42 rfl _ _ _ rfl rfl hap' ?_)
        all_goals
          go_wp2
          go_roundw
          case rel => exact ⟨k + 1, by omega, by go_num, by unfold nextK; rw [if_neg (by omega)]; go_num, by rw [hr.out]; unfold lastOf; rw [HM.out.1]; exact H1.out.1, H1.out.2.1, H1.out.2.2⟩
          case measure => simp [intOf]; omega
      · have hn : nextK A k ≠ (A k : Int) := by unfold nextK; split <;> omega
        have hr : Hid (runsK A B (k + 1) = lastOf (runsK A B k ++ [⟨A k, []⟩]) (B k)) := Lib.hid (by rw [runsK, if_neg hc])
        have hle : (runsK A B k).length ≤ k := runsK_len A B k
        have hea : ∀ i, ((runsK A B k ++ [(⟨(A k : Int), []⟩ : S45)]).getD i z45).f1.length ≤ k := fun i => by
          rw [List.getD_eq_getElem?_getD, List.getElem?_append]
          split
          · have := runsK_each A B k i; rwa [List.getD_eq_getElem?_getD] at this
          · rcases Nat.eq_zero_or_pos (i - (runsK A B k).length) with e | e
            · rw [e]; simp
            · rw [List.getElem?_eq_none (by simp; omega)]; simp [z45]
        generalize runsK A B k = rs at GS hr hle hea
        generalize nextK A k = nx at hn
        have hn1 : ((A k : Int) == nx) = false := by simp; omega
        have hn2 : ((A k : Int) != nx) = true := by simp; omega
        have HEA := Lib.hid hea
        have HO : Hid (Kd.S k45 44 (wr.alloc (Obj.cells #[Value.int IntKind.u16 ↑(A k), Value.int IntKind.u8 ↑(B k)] 37)) w.heap.size (fun k => True ∧ ¬ False) u2 rs) := Lib.hid (Kd.S_mono (Kd.S_alloc GS.out _) (fun _ _ => ⟨trivial, fun h => h⟩))
        have HB1 : Hid (Below w.heap.size w (wr.alloc (Obj.cells #[Value.int IntKind.u16 ↑(A k), Value.int IntKind.u8 ↑(B k)] 37))) := Lib.hid (GB.out.alloc GB.out.size _)
        have HP : Hid (k45.M (wr.alloc (Obj.cells #[Value.int IntKind.u16 ↑(A k), Value.int IntKind.u8 ↑(B k)] 37)) w.heap.size (fun _ => False) (⟨(A k : Int), []⟩ : S45) [.int .u16 (A k : Int), .slice none 0 0]) := Lib.hid (k45_mkM _ _ _ (⟨(A k : Int), []⟩ : S45) (Kd.R_nil _ _ _ _ _))
        have hty := Lib.hid (Kd.S_typed (Kd.S_alloc GS.out (Obj.cells #[Value.int IntKind.u16 ↑(A k), Value.int IntKind.u8 ↑(B k)] 37)))
        clear hea hn
        go_wp2_with (at_builtin; refine Kd.S_append k45 (w0 := w) w.heap.size rfl (.tmp 19) (.tmp 23) 38 44 (.agg #[.int .u16 0, .slice none 0 0]) 32 rfl Tryd.underlying38 info44 rfl (by decide) (by decide) u2 rs (⟨(A k : Int), []⟩ : S45) [.int .u16 (A k : Int), .slice none 0 0] (fun _ => True) (fun _ => False) rfl (by rw [World.size_alloc]; rfl) HP.out (fun _ h => h.elim) (fun _ _ => trivial) HO.out HB1.out HB1.out.size (by omega) ?_; intro v1 W0 hS0 hB0 hgw _; have HS0 := Lib.hid hS0; have HB0 := Lib.hid hB0; have HGW := Lib.hid hgw; clear hS0 hB0 hgw; obtain ⟨g, cap2, rfl, hgn, hgl, _⟩ := Kd.S_form HS0.out (by simp); rw [List.length_append, List.length_singleton] at HS0; rw [List.length_append, List.length_singleton])
        have hbx : W0.heap[wr.heap.size]? = some (Obj.cells #[Value.int IntKind.u16 ↑(A k), Value.int IntKind.u8 ↑(B k)] 37 (0, 0)) := keep37 HGW.out hty.out (World.alloc_heap_new _ _)
        have hG0 : W0.heap[gb]? = some (Obj.cells C 37 (0, 0)) := keep37 HGW.out hty.out ((Below.heap_alloc _ _ _ (Array.getElem?_eq_some_iff.1 GG.out).1).trans GG.out)
        have hb1 : W0.cell? ⟨wr.heap.size, 1, none⟩ = some (.int .u8 (B k : Int)) := by simp [World.cell?, hbx]
        obtain ⟨va, vk, vc, hcell, hfro, b', k', c', w1', hap, hcell1, hfro1, hS1, hB1, hG1⟩ := runs_push W0.drew w.heap.size g (rs.length + 1) cap2 (rs ++ [(⟨(A k : Int), []⟩ : S45)]) rs.length (B k : Int) (Kd.S_drew HS0.out) (by simp) HB0.out.size (by have := HEA.out rs.length; omega)
        have hcell' : W0.cell? ⟨g, rs.length * 2 + 1, none⟩ = some (.slice va vk vc) := hcell
        have hap' : (Builtin.append_ #[42, 42] 42 #[.slice va vk vc, .slice (some ⟨W0.heap.size, 0, none⟩) 1 1]).run Tryd.prog (W0.alloc (.cells #[.int .u8 (B k : Int)] 5)).drew = .ok (.slice (some ⟨b', 0, none⟩) k' c') w1' := hap
        have hgl0 : g < W0.heap.size := Kd.S_lt HS0.out g rfl
        have hcell2 : (W0.alloc (Obj.cells #[Value.int IntKind.u8 ↑(B k)] 5)).cell? ⟨g, rs.length * 2 + 1, none⟩ = some (.slice va vk vc) := (((Below.refl W0.heap.size W0).alloc (Nat.le_refl _) _).cell (p := ⟨g, rs.length * 2 + 1, none⟩) hgl0).trans hcell'
        have hb2 : (W0.alloc (Obj.cells #[Value.int IntKind.u8 ↑(B k)] 5)).cell? ⟨wr.heap.size, 1, none⟩ = some (.int .u8 (B k : Int)) := (((Below.refl W0.heap.size W0).alloc (Nat.le_refl _) _).cell (p := ⟨wr.heap.size, 1, none⟩) (block_lt_of_cell hb1)).trans hb1
        have H1 := Lib.hid (And.intro hS1 (And.intro (HB0.out.trans (Below.trans (by exact ⟨rfl, rfl, rfl, Nat.le_refl _, fun _ _ => rfl⟩) hB1)) (hG1 gb C hG0)))
        have hxa : (w1'.setCell ⟨g, rs.length * 2 + 1, none⟩ (.slice (some ⟨b', 0, none⟩) k' c')).cell? ⟨wr.heap.size, 0, none⟩ = some (.int .u16 (A k : Int)) := by simp [World.cell?, hG1 _ _ hbx]
        clear hbx
        clear hS1 hB1 hG1 HS0 HB0 HGW hty HO HB1 HP HEA hG0 hcell hap GG GS GB hx0 hx1
        go_region_law (refine step_append_eq rfl (.tmp 34) (.tmp 37) 42 rfl 42 rfl _ _ _ rfl rfl hap' ?_)
        all_goals
          go_wp2
          go_roundw
          case rel => exact ⟨k + 1, by omega, by go_num, by unfold nextK; rw [if_neg (by omega)]; go_num, by rw [hr.out]; unfold lastOf; rw [List.length_append, List.length_singleton]; exact H1.out.1, H1.out.2.1, H1.out.2.2⟩
          case measure => simp [intOf]; omega
    · have hkN : k = N := by omega
      have HF : Hid (RunsAt wr w.heap.size u2 (runsK A B N) ∧ Below w.heap.size w wr) := Lib.hid ⟨by rw [← hkN]; exact hS, hB2⟩
      clear hS hB2 hG2 hkN
      go_wp2
      go_ret
      exact ⟨_, rfl, HF.out.1, HF.out.2⟩
end Go.Proofs.YtgcjioncfldgcaaDoor.I
namespace Go.Proofs.YtgcjioncfldgcaaDoor.I
open Go Go.RowKit Go.Proofs.YtgcjioncfldgcaaDoorW.PrintWords Go.Proofs.YtgcjioncfldgcaaDoorW.PrintLast Go.Proofs.YtgcjioncfldgcaaDoorW.PrintMore G
set_option maxRecDepth 100000 in
theorem runs_none (b : Nat) (f h : Nat → Nat) (w : World) (H : ImgAt w b f h) (hh : Hid (∀ j, h j < 18446744073709551616)) (hT : Tabs w) (h0b : 0 < w.heap.size) (hN : Hid (addrsTo h 65536 = [])) :
    Calls Tryd.prog 13 #[.pointer (some ⟨b, 0, none⟩)] w fun e w' => ∃ v, e = .returned v ∧ RunsAt w' w.heap.size v [] ∧ Below w.heap.size w w' := by
  have hb10 := Lib.hid (bytes_in b f h w H hh hT h0b)
  clear H hT
  go_enter Tryd.func13, Tryd.ntmps13
  go_wp2_with (go_at_call 10; (with_reducible refine (callsIn_wide.1 hb10.out).mono ?_); rintro e w1 ⟨v, rfl, hrow, hB⟩; rw [hN.out] at hrow; obtain ⟨a, c, rfl⟩ : ∃ a c, v = .slice a 0 c := (by rcases hrow.2 with ⟨e, _⟩ | ⟨g, c, _, e, _⟩; exact ⟨none, 0, e⟩; exact ⟨_, c, e⟩))
  go_loop [2, 10] (fun v i => v = .slice none 0 0 ∧ i = .int .i64 0) (fun _ _ => 0)
  case atStart => exact ⟨rfl, rfl⟩
  case round =>
    obtain ⟨rfl, rfl⟩ := hrel
    go_wp2
    go_ret
    exact ⟨_, rfl, Kd.S_nil _ _ _ _ _, hB⟩
end Go.Proofs.YtgcjioncfldgcaaDoor.I

/- PROVED: what each walks, and what Bytes makes. No condition beyond each theorem's own. -/
import Derived.Test.YtgcjioncfldgcaaDoorJC
import Derived.Test.YtgcjioncfldgcaaDoorJD
import Derived.RangeFuncNested
import Derived.RangeFuncBound
import Derived.RangeFuncCalls
import Derived.RangeFuncLeaves
import Derived.Shelf.Abstract
import Derived.Shelf.RegionOpen
import Derived.WalkKit
import Derived.OwnWalkIn
import Derived.TacticsInMore
import Derived.LoopNIn
import Derived.LoopIn
import Derived.RangeFuncBox
import Derived.RangeFuncFrom
import Derived.Maps.AppendAt
import Derived.WalkSmall
set_option linter.unusedVariables false
set_option linter.unusedSimpArgs false
namespace Go.Proofs.YtgcjioncfldgcaaDoor.I
open Go Go.RowKit Go.Shelf
attribute [local go_sem] Oper.semAt_some
theorem wpListIn_load_eq {P : Program} {F : Fence} {n : Nat} {ops : Array Oper} {rest : List Oper} {o : Oper} {a : Act} {w : World} {Q : Exit → Act → World → Prop} (hgd : o.guard = none) (ty : TypeId) (x : Operand) (ho : o.op = .load ty x)
    (v0 v : Value) (hx : a.eval x = v0) (hrun : (Instr.loadAt ty v0).run P w = .ok v w) (h : wpListIn F n P ops Q rest (a.put o.dst v) w) : wpListIn F n P ops Q (o :: rest) a w := by
  refine wpListIn_plain hgd fun K hK => ?_
  unfold Oper.wpIn
  refine ⟨by simp [Oper.about, ho], ?_⟩
  rw [Oper.semAt_plain F _ _ (by rw [ho]; intro c hc'; cases hc')]
  simp only [execOp, ho, hx, Sem.run_bind, hrun, Result.andThen_ok]
  exact hK _ _ h
theorem and_pred (y : Nat) (h0 : y ≠ 0) (hy : y < 18446744073709551616) : bits BinOp.and IntKind.u64 (y : Int) ((y : Int) - 1) = ((y &&& (y - 1) : Nat) : Int) := by
  rw [show ((y : Int) - 1) = ((y - 1 : Nat) : Int) by omega]
  exact u64_and_nat y (y - 1) hy (by omega)
theorem and_pred_lt (y : Nat) (h0 : y ≠ 0) : y &&& (y - 1) < y := Nat.lt_of_le_of_lt Nat.and_le_right (by omega)
set_option maxHeartbeats 1000000 in
set_option maxRecDepth 100000 in
theorem each_calls (n l b : Nat) (f h : Nat → Nat) (J : List Nat → World → Prop) (hn : 1 ≤ n) (hh : Hid (∀ j, h j < 18446744073709551616))
    (hJ : Hid (∀ pre W, J pre W → ImgAt W b f h ∧ Tabs W))
    (hY : Hid (∀ pre x W1, J pre W1 → x < 65536 → pre.length ≤ x → YieldAt Fence.wide (n - 1) Tryd.prog l #[.int .u16 (x : Int), .int .u8 (f x : Int)] W1 fun e W' => e = .returned (.bool true) ∧ J (pre ++ [x]) W'))
    (W : World) (h0 : Hid (J [] W)) :
    CallsIn Fence.wide n Tryd.prog 21 #[.pointer (some ⟨b, 0, none⟩), .func (.yield l) #[] #[]] W fun e W' => (∃ v, e = .returned v) ∧ J (addrsTo h 65536) W' := by
  obtain ⟨A, hld, hixs⟩ : ∃ A : Array Value, (Instr.loadAt 59 (.pointer (some ⟨b, 65536, none⟩))).run Tryd.prog W = .ok (.agg A) W ∧
      Hid (∀ (k : Nat) W1, k < 1024 → (Instr.index 59 (.agg A) (.int .i64 k)).run Tryd.prog W1 = .ok (.int .u64 (h k)) W1) := ⟨wordsA h, run_loadWords W b f h (hJ.out _ _ h0.out).1, Lib.hid fun k W1 hk => run_indexWords W1 h k hk⟩
  refine callsIn_of_wp Tryd.func21 rfl trivial ?_ rfl
  simp only [Tryd.ntmps21, List.size_toArray, List.length_cons, List.length_nil, Nat.reduceAdd, Nat.reduceSub, Array.replicate_succ, Array.replicate_zero, List.push_toArray, List.append_toArray, List.nil_append, List.cons_append]
  gi_wp2_with (refine wpListIn_load_eq rfl 59 _ rfl _ _ rfl hld ?_)
  gi_loopw [11] (fun i wr => ∃ k : Nat, k ≤ 1024 ∧ i = .int .i64 k ∧ J (addrsTo h (64 * k)) wr) (fun i _ => 1024 - (intOf i).toNat)
  case atStart => exact ⟨0, Nat.zero_le _, rfl, h0.out⟩
  case round =>
    obtain ⟨k, hk, rfl, hJk⟩ := hrel
    obtain ⟨wo, rfl⟩ : ∃ wo : World, wo = wr := ⟨_, rfl⟩
    have HJk := Lib.hid hJk
    clear hJk
    by_cases hlt : k < 1024
    · have hix := hixs.out k wo hlt
      have hd : decide ((k : Int) < 1024) = true := by simp; omega
      gi_wp2
      gi_loopw [5] (fun x w2 => ∃ y p : Nat, p ≤ 64 ∧ y < 18446744073709551616 ∧ x = .int .u64 y ∧ Left (h k) p y ∧ J (addrsTo h (64 * k + p)) w2) (fun x _ => (intOf x).toNat)
      case atStart => exact ⟨h k, 0, by omega, hh.out k, rfl, Left.start _, HJk.out⟩
      case round =>
        obtain ⟨y, p, hp, hy, rfl, hL, hJp⟩ := hrel
        by_cases hy0 : y = 0
        · subst hy0
          have hz := Lib.hid (addrs_end hL hp)
          have HJp := Lib.hid hJp
          clear hL hJp
          gi_wp2
          go_roundw
          case rel => exact ⟨k + 1, by omega, by go_num, by rw [hz.out]; exact HJp.out⟩
          case measure => simp [intOf]; omega
        · obtain ⟨a1, a2, a3, a4, hL'⟩ := hL.next hy0 hy
          have hs := addrs_step hL hy0 hy
          obtain ⟨hI, hT⟩ := hJ.out _ _ hJp
          have hc := hI.byte (i := 64 * k + Lib.ctz 64 y) (by omega)
          have htz := Lib.hid (tz_any y wr hy hy0 hT)
          obtain ⟨fn, tmps, assign, body, hyr, hR⟩ := hY.out _ (64 * k + Lib.ctz 64 y) wr hJp (by omega) (by have := addrsTo_length h (64 * k + p); omega)
          have hlt2 := and_pred_lt y hy0
          have hap := and_pred y hy0 hy
          obtain ⟨t, ht⟩ : ∃ t, t = Lib.ctz 64 y := ⟨_, rfl⟩
          obtain ⟨y', hy'⟩ : ∃ y', y' = y &&& (y - 1) := ⟨_, rfl⟩
          rw [← ht] at a2 hs hc htz hyr hR hL'
          rw [← hy'] at hap hlt2 hL'
          have HR := Lib.hid (And.intro hL' (And.intro hs hR))
          have hy1 : 1 ≤ y := by omega
          obtain ⟨c, hcc⟩ : ∃ c, c = f (64 * k + t) := ⟨_, rfl⟩
          rw [← hcc] at hc
          rw [← hcc, show ((64 * k + t : Nat) : Int) = 64 * (k : Int) + (t : Int) by omega] at hyr
          clear hcc hL hL' hs hR hJp hI hT a1 a3 a4 hy0 ht hy'
          gi_wp2_with (refine ⟨trivial, ?_⟩; gi_at_call 23; (with_reducible refine (callsIn_wide.2 htz.out).mono ?_); rintro e w' ⟨rfl, rfl⟩)
          refine HR.out.2.2.mono ?_
          rintro e W3 ⟨rfl, hJ3⟩
          have HJ3 := Lib.hid hJ3
          clear hJ3 hc hyr
          gi_wp2
          go_roundw
          case rel => exact ⟨y', t + 1, by omega, by omega, rfl, HR.out.1, by rw [HR.out.2.1]; exact HJ3.out⟩
          case measure => simp [intOf]; omega
    · have hz : Hid (J (addrsTo h 65536) wo) := Lib.hid (by have := HJk.out; rwa [show 64 * k = 65536 by omega] at this)
      gi_wp2
      go_end0
      exact ⟨⟨_, rfl⟩, hz.out⟩
end Go.Proofs.YtgcjioncfldgcaaDoor.I
namespace Go.Proofs.YtgcjioncfldgcaaDoor.I
open Go Go.RowKit Go.Shelf
attribute [local go_sem] Oper.semAt_some
/-- A range over a method value that yields addresses: the law for the wide fence, where no round leaves the loop. -/
theorem wp_range_each {P : Program} {n : Nat} {g : Operand} {ps : Array Tmp} {assign body : Code} {Q : Exit → Act → World → Prop} {a : Act} {w : World} (h1 : 1 ≤ n) (m0 : Value) (gf : Nat)
    (hg : a.eval g = .func (.func gf) #[m0] #[]) (eg : ∀ args w, (callFunc gf args).run P w = .ok (.enter gf args) w) (encs : Nat → Array Value) (hps : ∀ x, (encs x).size = ps.size)
    (I : List Nat → World → Prop) (xs : List Nat) (Ok : List Nat → Nat → Prop) (hI : OwnFrom w.heap.size I) (h0 : I [] w)
    (hiter : ∀ (l : Nat) (J : List Nat → World → Prop) (W1 : World), (∀ pre W, J pre W → I pre W) →
      (∀ pre x W, J pre W → Ok pre x → YieldAt Fence.wide (n - 1 - 1) P l (encs x) W fun e W' => e = .returned (.bool true) ∧ J (pre ++ [x]) W') → J [] W1 →
      CallsIn Fence.wide (n - 1) P gf #[m0, .func (.yield l) #[] #[]] W1 fun e W' => (∃ v, e = .returned v) ∧ J xs W')
    (a1 : Nat → Act)
    (hassign : ∀ (l : Nat) (x : Nat) (W : World) (K : Act → World → Prop), K (a1 x) W →
      assign.wpIn (Fence.wide.inRound l) (n - 1 - 1) P (Exit.then K (fun _ _ _ => False)) { tmps := (ps.zip (encs x)).foldl (fun t (p, v) => t.setIfInBounds p v) a.tmps, defers := [] } W)
    (hbody : ∀ (l : Nat) (pre : List Nat) (x : Nat) (W : World), I pre W → Ok pre x → body.wpIn (Fence.wide.inRound l) (n - 1 - 1) P (fun e _ W' => e = .normal ∧ KeepsOthers W W' ∧ I (pre ++ [x]) W') (a1 x) W)
    (hdone : ∀ (D : Nat) (W : World), w.heap.size ≤ D → I xs W → W.heap[D]? = some (.deferred (some [])) → Q .normal { a with defers := { target := .collected D, args := #[] } :: a.defers } W) :
    (Code.rangeFunc g ps assign body).wpIn Fence.wide n P Q a w := by
  refine wpIn_rangeFunc fun fn _ => ?_
  obtain ⟨rec, hrec⟩ : ∃ rec : LoopState → Option Code → Loop, rec = fun st pe => { state := st, pending := pe, fn, tmps := a.tmps, params := ps, assign, body, defers := w.heap.size } := ⟨_, rfl⟩
  obtain ⟨W1, hW1⟩ : ∃ W1, (w.alloc (.deferred (some []))).alloc (.loop (rec .ready none)) = W1 := ⟨_, rfl⟩
  have hL1 : W1.heap[w.heap.size + 1]? = some (.loop (rec .ready none)) := by
    rw [← hW1]; have := World.alloc_heap_new (w.alloc (.deferred (some []))) (.loop (rec .ready none)); rwa [World.size_alloc] at this
  have hK1 : W1.heap[w.heap.size]? = some (.deferred (some [])) := by
    rw [← hW1]; exact (Below.heap_alloc _ _ _ (by simp)).trans (World.alloc_heap_new w _)
  have hI1 : I [] W1 := by rw [← hW1]; exact hI.alloc _ (hI.alloc _ h0)
  refine ⟨w.heap.size + 1, [{ target := .collected w.heap.size, args := #[] }], W1, { target := .fn (.func gf) #[], args := #[m0, .func (.yield (w.heap.size + 1)) #[] #[]] }, W1, gf,
    #[m0, .func (.yield (w.heap.size + 1)) #[] #[]], W1, ?_, ?_, fun _ _ => trivial, ?_, fun _ => h1, ?_⟩
  · rw [← hW1, hrec]; exact run_enterLoop_outer _ _ _ _ _
  · simp only [resolve, hg]
    simp [go_sem]
  · simp [invoke, go_sem, eg]
  · refine (hiter (w.heap.size + 1) (fun pre W => I pre W ∧ W.heap[w.heap.size + 1]? = some (.loop (rec .ready none)) ∧ W.heap[w.heap.size]? = some (.deferred (some []))) W1 (fun _ _ h => h.1) ?_ ⟨hI1, hL1, hK1⟩).mono ?_
    · rintro pre x W ⟨hi, hl, hk⟩ hok
      have hlt : w.heap.size + 1 < W.heap.size := (Array.getElem?_eq_some_iff.1 hl).1
      have hy := run_yield (P := P) (args := encs x) hl (by rw [hrec]; exact hps x)
      rw [hrec] at hy
      refine ⟨fn, _, assign, body, hy, roundIn_of_wpIn trivial (hassign _ x W _ ⟨_, run_beginRound hl (by rw [hrec]), ?_⟩)⟩
      have hl2 : (W.putObj (w.heap.size + 1) (.loop { rec .ready none with state := .busy })).heap[w.heap.size + 1]? = some (.loop { rec .ready none with state := .busy }) := World.putObj_heap_same hlt
      have hk2 : (W.putObj (w.heap.size + 1) (.loop { rec .ready none with state := .busy })).heap[w.heap.size]? = some (.deferred (some [])) := (World.putObj_heap_other (by omega)).trans hk
      refine wpIn_mono (hbody _ pre x _ (hI.putObj _ hi (by omega) hl rfl) hok) ?_
      rintro e a3 W3 ⟨rfl, hk3, hi3⟩
      have hl3 := hk3.same _ _ hl2 rfl
      have he := run_endRound (P := P) none hl3
      have e0 : { rec .ready none with state := .busy : Loop }.state = .busy := rfl
      rw [hrec] at he hl3
      refine ⟨_, _, he, rfl, hI.putObj _ hi3 (by omega) hl3 rfl, ?_, ?_⟩
      · rw [hrec]; exact World.putObj_heap_same (Array.getElem?_eq_some_iff.1 hl3).1
      · exact (World.putObj_heap_other (by omega)).trans (hk3.same _ _ hk2 rfl)
    · rintro e W2 ⟨⟨v, rfl⟩, hi, hl, hk⟩
      have he := run_endLoop (P := P) hl (by rw [hrec]; simp)
      rw [hrec] at he
      exact ⟨none, _, he, hdone _ _ (Nat.le_refl _) (hI.putObj _ hi (by omega) hl rfl) ((World.putObj_heap_other (by omega)).trans hk)⟩
end Go.Proofs.YtgcjioncfldgcaaDoor.I
namespace Go.Proofs.YtgcjioncfldgcaaDoor.I
open Go Go.RowKit Go.Shelf
attribute [local go_sem] Oper.semAt_some
/-- The bytes of an image as cells: an address and a byte each. -/
def rowsOf (f : Nat → Nat) (l : List Nat) : List Value := l.flatMap fun a : Nat => [.int .u16 (a : Int), .int .u8 (f a : Int)]
theorem rowsOf_snoc (f : Nat → Nat) (l : List Nat) (x : Nat) : rowsOf f (l ++ [x]) = rowsOf f l ++ [.int .u16 x, .int .u8 (f x)] := by simp [rowsOf]
theorem results_cell {P : Program} {fn : Func} {p : Tmp} {ty e : TypeId} (h : fn.results = #[.cell p ty]) (tmps : Array Value) (w : World) (a : Addr) (v : Value) (hp : tmps.getD p undef = .pointer (some a))
    (hc : w.cell? a = some v) (hu : P.underlying ty = some (.slice e)) : (results fn tmps).run P w = .ok v w := by
  have hp' : tmps[p]?.getD undef = .pointer (some a) := by simpa using hp
  simp [results, h, hp', asAddr, loadVar, isAgg, run_underlying hu, load, Sem.run, hc]
theorem info37 : (Tryd.prog.info? 37).map (fun i => (i.zero, i.size, i.bytes)) = some (some (.agg #[.int .u16 0, .int .u8 0]), 2, 4) := by kernel_rfl
set_option maxHeartbeats 1000000 in
set_option maxRecDepth 100000 in
theorem bytes_in (b : Nat) (f h : Nat → Nat) (w : World) (H : ImgAt w b f h) (hh : Hid (∀ j, h j < 18446744073709551616)) (hT : Tabs w) (h0b : 0 < w.heap.size) :
    CallsIn Fence.wide 3 Tryd.prog 10 #[.pointer (some ⟨b, 0, none⟩)] w fun e w' => ∃ v, e = .returned v ∧ w'.ownsRow w.heap.size 37 2 v (addrsTo h 65536).length (rowsOf f (addrsTo h 65536)) ∧ Below w.heap.size w w' := by
  have hbl := H.lt
  obtain ⟨i0, hi, hz0, hz1, hz2⟩ := info_parts info37
  have HH := Lib.hid H
  have HT := Lib.hid hT
  clear H hT
  refine callsIn_of_wp_marks Tryd.func10 rfl trivial ?_ rfl
  simp only [Tryd.ntmps10, List.size_toArray, List.length_cons, List.length_nil, Nat.reduceAdd, Nat.reduceSub, Array.replicate_succ, Array.replicate_zero, List.push_toArray, List.append_toArray, List.nil_append, List.cons_append]
  gi_wp2
  obtain ⟨W0, hW0⟩ : ∃ W0, w.alloc (.cells #[.slice none 0 0] 27) = W0 := ⟨_, rfl⟩
  have hsz : W0.heap.size = w.heap.size + 1 := by rw [← hW0]; simp
  have hB0 : Below w.heap.size w W0 := by rw [← hW0]; exact (Below.refl _ _).alloc (Nat.le_refl _) _
  have hbx : Boxed W0 w.heap.size 27 (.slice none 0 0) := by rw [← hW0]; exact Boxed.new w 27 _
  rw [hW0]
  refine wp_range_each (by omega) (.pointer (some ⟨b, 0, none⟩)) 21 rfl (enters_of Tryd.func21 (by kernel_rfl) rfl) (fun x => #[.int .u16 (x : Int), .int .u8 (f x : Int)]) (fun _ => rfl)
    (fun pre W => (∃ v, Boxed W w.heap.size 27 v ∧ W.ownsRow w.heap.size 37 2 v pre.length (rowsOf f pre) ∧ True) ∧ Below w.heap.size w W) (addrsTo h 65536) (fun pre x => x < 65536 ∧ pre.length ≤ x) ?own ?start ?iter
    (fun x => { tmps := #[.pointer (some ⟨b, 0, none⟩), undef, .pointer (some ⟨w.heap.size, 0, none⟩), .int .u16 (x : Int), .int .u8 (f x : Int), .pointer (some ⟨b, 0, none⟩), .bool false, .pointer (some ⟨b, 0, none⟩), .func (.func 21) #[.pointer (some ⟨b, 0, none⟩)] #[], .int .u16 (x : Int), .int .u8 (f x : Int), undef, undef, undef, undef, undef, undef, undef], defers := [] }) ?assign ?body ?done
  case own =>
    exact OwnFrom.and ((holdsRow_own w.heap.size w.heap.size 27 37 2 (fun pre : List Nat => pre.length) (fun pre => rowsOf f pre) (fun _ _ => True)).from _) (ownFrom_below (Nat.le_refl _) (by omega))
  case start => exact ⟨⟨_, hbx, World.ownsRow_nil _ _ _ _, trivial⟩, hB0⟩
  case iter =>
    intro l J W1 hJ hY hJ0
    refine each_calls _ l b f h J (by omega) hh (Lib.hid fun pre W hp => ?_) (Lib.hid fun pre x W1 hp hx hl => hY pre x W1 hp ⟨hx, hl⟩) W1 (Lib.hid hJ0)
    have hb := (hJ _ _ hp).2
    exact ⟨HH.out.below hb hbl, fun j hj => (hb.cell (p := ⟨0, j, none⟩) h0b).trans (HT.out j hj)⟩
  case assign =>
    intro l x W K hK
    gi_wp2
    exact hK
  case body =>
    rintro l pre x W ⟨⟨v, hv, hrow, -⟩, hB⟩ ⟨hx, hl⟩
    have hc := hv.cell
    gi_wp2_with (gi_at_builtin; refine wpListIn_append_own _ rfl _ _ 27 rfl w.heap.size 37 i0 _ 2 4 Tryd.underlying27 hi hz0 hz1 hz2 rfl (by decide) _ _ _ rfl (hrow.alloc _) ⟨W.heap.size, 0, none⟩ 1 1 [.int .u16 (x : Int), .int .u8 (f x : Int)] rfl rfl (cell_two_new _ _ _ _) (by simp [Value.oneCell']) (by unfold maxLen; omega) (by omega) (by have := hB.size; simp; omega) ?_; intro v' w1 hown' hgrow _; obtain ⟨g', cap', rfl⟩ := ownsRow_succ hown'; obtain ⟨hv1, hv2, hr2, hk2, hb2⟩ := hv.appended (by decide) hrow hB.size (Nat.le_refl _) hown' hgrow; have hc1 := hv1.cell; have hf1 := hv1.frozen)
    refine ⟨⟨_, hv2, ?_⟩, hB.trans hb2⟩
    rw [rowsOf_snoc]
    exact hr2
  case done =>
    rintro D W hD ⟨⟨v, hv, hrow, -⟩, hB⟩ hK
    have hc := hv.cell
    have hf := hv.frozen
    have HRw := Lib.hid hrow
    have hvs : (∃ n c a, v = .slice a n c) := by
      rcases hrow.2 with ⟨e, _⟩ | ⟨g, cap, _, e, _⟩ <;> exact ⟨_, _, _, e⟩
    obtain ⟨n, c, a, rfl⟩ := hvs
    clear hrow
    gi_wp2
    have hK2 := (KeepsOthers.setCell W ⟨w.heap.size, 0, none⟩ (.slice a n c)).same D _ hK rfl
    have hv2 := (hv.set (.slice a n c)).kept (grownBy_putObj' _ D (.deferred none)) (by simp; omega)
    have hb2 := (hB.setCell (p := ⟨w.heap.size, 0, none⟩) (Nat.le_refl _) (.slice a n c)).grown (grownBy_putObj' _ D (.deferred none)) (by have := hB.size; simp; omega) (fun k e => by cases e; omega)
    have hr2 := ownsRow_putObj (HRw.out.kept (grownBy_setCell' W w.heap.size (.slice a n c)) (.inr (hv.not_row (by decide) HRw.out).symm)) (.deferred none) hK2 rfl
    refine ⟨by simp, .inl ⟨_, _, rfl, run_takeDeferred hK2, ?_⟩⟩
    exact ⟨_, results_cell rfl _ _ _ _ rfl hv2.cell Tryd.underlying27, _, rfl, hr2, hb2⟩
end Go.Proofs.YtgcjioncfldgcaaDoor.I

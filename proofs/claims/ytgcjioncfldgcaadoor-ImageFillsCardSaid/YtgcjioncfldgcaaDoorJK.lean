/- PROVED: what a row of Puts comes to, on both sides. No condition beyond each theorem's own. -/
import Derived.Test.YtgcjioncfldgcaaDoorJI
import Derived.StillTailTactics
import Derived.BigRegion
import Derived.LoopTactic
import Derived.Deep.RegionWith
import Derived.Deep.SlicePairs
import Derived.DataShut
set_option linter.unusedVariables false
set_option linter.unusedSimpArgs false
namespace Go.Proofs.YtgcjioncfldgcaaDoor.I
open Go Go.RowKit Go.Proofs.YtgcjioncfldgcaaDoorW.PrintWords Go.Proofs.YtgcjioncfldgcaaDoorW.PrintLast Go.Proofs.YtgcjioncfldgcaaDoorW.PrintMore G
theorem putF_lt {f : Nat → Nat} (hf : ∀ i, f i < 256) (n : Nat) (bs : List Nat) (hb : ∀ x ∈ bs, x < 256) : ∀ i, putF f n bs i < 256 := by
  intro i
  unfold putF
  split
  · rename_i c
    rw [List.getD_eq_getElem?_getD]
    cases e : bs[i - n]? with
    | none => simp
    | some v => exact hb v (List.mem_of_getElem? e)
  · exact hf i
/-- Both Puts answer alike, and make alike of an image and of the document's bytes. -/
theorem put_both (f h : Nat → Nat) (hh : ∀ j, h j < 18446744073709551616) (hf : ∀ i, f i < 256) (x : Int) (bs : List Nat) (hb : ∀ x ∈ bs, x < 256) (hx1 : x ≤ 9223372036854775807) (hbl : bs.length ≤ 9223372036854775807) :
    ∃ (K : Int) (F' H' : Nat → Nat), (∃ kk, pidginref02_Put.f kk (sOf f h) x (ints bs) = some (sOf F' H', K)) ∧ (∀ j, H' j < 18446744073709551616) ∧ (∀ i, F' i < 256) ∧ ∀ k f' h', PutRes f h x bs k f' h' → k = K ∧ f' = F' ∧ h' = H' := by
  have hlen : (ints bs).length = bs.length := by simp [ints]
  rcases Int.lt_or_le x 0 with c | c
  · refine ⟨1, f, h, ⟨0, put_f_neg 0 _ x _ c⟩, hh, hf, ?_⟩
    rintro k f' h' (⟨_, r⟩ | ⟨q, _⟩ | ⟨q, _⟩ | ⟨q, _⟩)
    · exact r
    all_goals omega
  · obtain ⟨n, rfl⟩ : ∃ n : Nat, x = n := ⟨x.toNat, by omega⟩
    by_cases c2 : 65536 < n + bs.length
    · refine ⟨7, f, h, ⟨1, put_f_over _ n _ (by omega) (.inr (by omega))⟩, hh, hf, ?_⟩
      rintro k f' h' (⟨q, _⟩ | ⟨_, _, r⟩ | ⟨_, q, _⟩ | ⟨_, q, _⟩)
      · omega
      · exact r
      all_goals omega
    · by_cases c3 : ∃ i, i < bs.length ∧ hasB h (n + i) = true
      · refine ⟨6, f, h, spec_lap f h n bs (by omega) c3, hh, hf, ?_⟩
        rintro k f' h' (⟨q, _⟩ | ⟨_, q, _⟩ | ⟨_, _, _, r⟩ | ⟨_, _, q, _⟩)
        · omega
        · omega
        · exact r
        · obtain ⟨i, hi, e⟩ := c3
          have := q i hi
          rw [show ((n : Int)).toNat = n from rfl, e] at this; cases this
      · have hno : NoneIn h n bs.length := fun j hj => by
          cases e : hasB h (n + j)
          · rfl
          · exact absurd ⟨j, hj, e⟩ c3
        refine ⟨0, putF f n bs, setH h n bs.length, spec_ok f h n bs (by omega) hno, setH_lt hh n bs.length, putF_lt hf n bs hb, ?_⟩
        rintro k f' h' (⟨q, _⟩ | ⟨_, q, _⟩ | ⟨_, _, q, _⟩ | ⟨_, _, _, r⟩)
        · omega
        · omega
        · exact absurd q c3
        · exact r
theorem src_of {W : World} {A : Option Addr} {bs : List Nat} (h : Kd.C (Kd.int .u8) W A (ints bs).length (ints bs)) : ∀ (j : Nat) (v : Value), (bs.map fun x : Nat => Value.int .u8 x)[j]? = some v → ∃ a, A = some a ∧ W.cell? (a.add j) = some v := by
  intro j v hv
  have hj : j < bs.length := by
    have := (List.getElem?_eq_some_iff.1 hv).1
    simpa using this
  have hjl : (j : Int) < ((ints bs).length : Nat) := by simp [ints]; omega
  obtain ⟨ad, c, e, _, hK, hc⟩ := Kd.C_get h 0 (j : Int) (by omega) hjl
  have hK' : c = [.int .u8 ((ints bs).getD j 0)] := hK
  have := hc 0 _ (by rw [hK']; rfl)
  refine ⟨ad, e, ?_⟩
  have e1 : (j : Int).toNat * (Kd.int .u8).sz + 0 = j := by show j * 1 + 0 = j; omega
  rw [e1] at this
  rw [this]
  simp [List.getElem?_eq_getElem hj] at hv
  rw [← hv]
  simp [ints, List.getD_eq_getElem?_getD, List.getElem?_eq_getElem hj]
end Go.Proofs.YtgcjioncfldgcaaDoor.I
namespace Go.Proofs.YtgcjioncfldgcaaDoor.I
open Go Go.RowKit Go.Proofs.YtgcjioncfldgcaaDoorW.PrintWords Go.Proofs.YtgcjioncfldgcaaDoorW.PrintLast Go.Proofs.YtgcjioncfldgcaaDoorW.PrintMore G
/-- A row of Puts whose places are of int, and whose bytes are bytes. -/
def OpsOk (l : List S51) : Prop := ∀ i : Nat, i < l.length → -9223372036854775808 ≤ (rd_T51 l i).f0 ∧ (rd_T51 l i).f0 ≤ 9223372036854775807 ∧ ∃ bs : List Nat, (rd_T51 l i).f1 = ints bs ∧ bs.length ≤ 9223372036854775807 ∧ ∀ x ∈ bs, x < 256
/-- What stands when a row of Puts is played: an image, and the document's bytes. -/
def Both (wr : World) (b : Nat) (v : Value) (w : World) : Prop := ∃ f h : Nat → Nat, ImgAt wr b f h ∧ (∀ j, h j < 18446744073709551616) ∧ (∀ i, f i < 256) ∧ Kd.R k37 37 wr w.heap.size (fun k => b < k) v (sOf f h) ∧ Below w.heap.size w wr
set_option maxHeartbeats 1000000 in
set_option maxRecDepth 100000 in
theorem play_any (w : World) (A0 : Option Addr) (c0 : Nat) (l : List S51) (hr0 : Kd.C k51 w A0 l.length l) (hc0 : l.length ≤ c0) (hll : l.length ≤ 30) (hok : Hid (OpsOk l)) :
    Calls Tryd.prog 7 #[.slice A0 l.length c0] w fun e w' => ∃ v, e = .returned (.tuple #[.pointer (some ⟨w.heap.size, 0, none⟩), v, .bool true]) ∧ Both w' w.heap.size v w := by
  have hnew := Lib.hid (new_any w)
  have HC := Lib.hid hr0
  clear hr0
  go_enter Tryd.func7, Tryd.ntmps7
  go_wp2_with (go_at_call 17; (with_reducible refine hnew.out.mono ?_); rintro e W1 ⟨rfl, hI1, hs1, hB1⟩; have HI1 := Lib.hid hI1; have HB1 := Lib.hid hB1; clear hI1 hB1 hs1)
  go_loopw [6, 7] (fun v i wr => ∃ k : Nat, k ≤ l.length ∧ i = .int .i64 k ∧ Both wr w.heap.size v w) (fun _ i _ => l.length - (intOf i).toNat)
  case atStart =>
    have he : sOf Z0 Z0 = [] := by simp [sOf, addrsTo, hasZ]
    exact ⟨0, Nat.zero_le _, rfl, Z0, Z0, HI1.out, small2.2.2, fun _ => by show (0 : Nat) < 256; decide, he ▸ Kd.R_nil _ _ _ _ _, HB1.out⟩
  case round =>
    obtain ⟨k, hk, rfl, hBoth⟩ := hrel
    have HBo := Lib.hid hBoth
    clear HI1 HB1 hBoth
    by_cases hlt : k < l.length
    · obtain ⟨f, h, hI, hh, hf, hR, hB⟩ := HBo.out
      obtain ⟨x0, x1, bs, hbs, hbl, hb⟩ := hok.out k hlt
      obtain ⟨ad, A1, c1, e1, q0, q1, q2, q3⟩ := at_T51 HC.out (k : Int) (by omega) (by omega)
      cases e1
      obtain ⟨K, F', H', ⟨kk, hspec⟩, hh', hf', hres⟩ := put_both f h hh hf (rd_T51 l k).f0 bs hb x1 hbl
      rw [hbs] at q1 q2 q3
      simp only [Int.toNat_natCast] at q0 q1
      have QW := Lib.hid (And.intro q0 (And.intro q1 q3))
      replace q0 := (hB.cell (block_lt_of_cell q0)).trans q0
      replace q1 := (hB.cell (block_lt_of_cell q1)).trans q1
      generalize hx : (rd_T51 l k).f0 = x at x0 x1 q0 hspec hres
      have e2 : ((k : Int) < (l.length : Int)) := by omega
      have hBd : Below w.heap.size w wr.drew := below_drew hB
      have hput := Lib.hid (pidginref02_Put.calls kk (fun k_ => w.heap.size < k_) u6 (sOf f h) x A1 c1 (ints bs) _ _ w wr.drew hBd (Kd.R_drew hR) (Kd.C_kept_came (Kd.heap_int .u8) q3 hBd (fun _ h => Nat.le_of_lt h)) q2 hspec)
      clear hBd
      have HX := Lib.hid (And.intro x0 (And.intro x1 (And.intro hh (And.intro hf (And.intro hh' hf')))))
      have HI := Lib.hid hI
      have hlen0 : bs.length = (ints bs).length := by simp [ints]
      have HL := Lib.hid (And.intro hlen0 hbl)
      clear hlen0
      have HRes := Lib.hid hres
      clear hI hh hf hR hB hbs hbl hb hspec hh' hf' hres q3 x0 x1 HBo
      go_wp2
      go_region_with (go_at_call 19; (with_reducible refine hput.out.mono ?_); rintro e W2 ⟨v0, rfl, hR2, hB2, hK2⟩; have HR2 := Lib.hid hR2; have HB2 := Lib.hid hB2; have r0 := (hB2.cell (block_lt_of_cell QW.out.1)).trans QW.out.1; have r1 := (hB2.cell (block_lt_of_cell QW.out.2.1)).trans QW.out.2.1; have HI2 := Lib.hid ((HI.out).of_heap (hK2.2 w.heap.size HI.out.lt (by omega))); have HS2 := Lib.hid (Nat.lt_of_lt_of_le HI.out.lt hK2.1); clear hR2 hB2 hK2)
      all_goals
        have hput2 := Lib.hid (put_any w.heap.size x A1 (ints bs).length c1 f h bs W2.drew (HI2.out.of_heap rfl) HX.out.2.2.1 HX.out.1 HX.out.2.1 HL.out.1 (by rw [← HL.out.1]; exact HL.out.2) (src_of (Kd.C_below QW.out.2.2 (below_drew HB2.out))))
        clear hput
        go_wp2
        go_region_with (go_at_call 18; (with_reducible refine hput2.out.mono ?_); rintro e W3 ⟨k3, f3, h3, rfl, hp3, hI3, hg3⟩; obtain ⟨rfl, rfl, rfl⟩ := HRes.out _ _ _ hp3; have HI3 := Lib.hid hI3; have HG3 := Lib.hid hg3; clear hp3 hI3 hg3)
      all_goals
        simp only [Act.put, List.getElem_toArray, List.getElem_cons_zero, List.getElem_cons_succ, List.setIfInBounds_toArray, List.set_cons_zero, List.set_cons_succ]
        go_wp2
        go_roundw
        case rel => exact ⟨k + 1, by omega, by go_num, f3, h3, HI3.out, HX.out.2.2.2.2.1, HX.out.2.2.2.2.2, Kd.R_grown (Kd.R_mono (Kd.R_drew HR2.out) (fun k_ hk_ => by rcases hk_ with q | q; exact q; exact Nat.lt_of_lt_of_le HI.out.lt q)) HG3.out (fun k_ hk_ e => by cases e; exact Nat.lt_irrefl _ hk_), (below_drew HB2.out).grown HG3.out (below_drew HB2.out).size (fun k_ e => by cases e; exact Nat.le_refl _)⟩
        case measure => simp [intOf]; omega
    · have e2 : ¬ ((k : Int) < (l.length : Int)) := by omega
      go_wp2
      go_ret3
      exact ⟨_, rfl, HBo.out⟩
end Go.Proofs.YtgcjioncfldgcaaDoor.I
namespace Go.Proofs.YtgcjioncfldgcaaDoor.I
open Go Go.RowKit Go.Proofs.YtgcjioncfldgcaaDoorW.PrintWords Go.Proofs.YtgcjioncfldgcaaDoorW.PrintLast Go.Proofs.YtgcjioncfldgcaaDoorW.PrintMore G
theorem add_zero (a : Addr) : a.add 0 = a := by simp [Addr.add]
/-- A slice of bytes that came in reads as bytes. -/
theorem bytes_open {H : Type} {enc : TypeId × Value → H} {W : World} {n : Nat} {V : Value} {x : DataW H × List MemPlace} (h : DataW.trod enc Tryd.prog W 0 (fun _ => true) true n 42 [V] = some x) :
    ∃ (A : Option Addr) (c : Nat) (bs : List Nat), V = .slice A (ints bs).length c ∧ (ints bs).length ≤ c ∧ Kd.C (Kd.int .u8) W A (ints bs).length (ints bs) ∧ bs.length ≤ 9223372036854775807 ∧ ∀ x ∈ bs, x < 256 := by
  rcases Deep.open_slice1 Tryd.underlying42 (by kernel_rfl) h with ⟨e, _⟩ | ⟨a, len, cap, m, k, U, D, Pl, e, _, hlc, hcm, hm, _, hx⟩
  · exact ⟨none, 0, [], List.head_eq_of_cons_eq e, Nat.le_refl _, Kd.C_nil _ _, by simp, by simp⟩
  · simp only [if_true] at hm
    subst hm
    have hmax : maxLen = 9223372036854775807 := rfl
    have each : ∀ i, i < m → ∃ v : Nat, W.cell? (a.add i) = some (.int .u8 (v : Int)) ∧ v < 256 := by
      intro i hi
      obtain ⟨h1, h2⟩ := hx i hi
      obtain ⟨z, hz, _, hw⟩ := DataW.trod_int Tryd.underlying5 h2
      have hz' : U i = .int .u8 z := by simpa using hz
      have hb : 0 ≤ z ∧ z ≤ 255 := (Lit.wf_int_iff .u8 z).1 hw
      exact ⟨z.toNat, by rw [h1, hz', Int.toNat_of_nonneg hb.1], by omega⟩
    obtain ⟨v, hv⟩ := Deep.choose_lt each
    have hlen : (ints ((List.range len).map v)).length = len := by simp [ints]
    refine ⟨some a, m, (List.range len).map v, by rw [hlen]; exact List.head_eq_of_cons_eq e, by rw [hlen]; exact hlc, ⟨rfl, by rw [hlen]; omega, fun _ => ⟨a, rfl, fun j p hj => ⟨[.int .u8 p], rfl, rfl, fun i u hu => ?_⟩⟩⟩, by simp; omega, ?_⟩
    · have hjl : j < len := by have := (List.getElem?_eq_some_iff.1 hj).1; rw [hlen] at this; exact this
      obtain rfl : i = 0 := by have := (List.getElem?_eq_some_iff.1 hu).1; simpa using this
      simp [ints, hjl] at hj
      simp at hu
      have e1 : j * (Kd.int .u8).sz + 0 = j := by show j * 1 + 0 = j; omega
      rw [e1, (hv j (by omega)).1, ← hu, ← hj]
    · intro y hy
      simp at hy
      obtain ⟨i, hi, rfl⟩ := hy
      exact (hv i (by omega)).2
/-- A row of Puts that came in. -/
theorem ops_open {H : Type} {enc : TypeId × Value → H} {W : World} {a0 : Option Addr} {len cap : Nat} {d : DataW H} {ps : List MemPlace} (h : DataW.Trod enc Tryd.prog W 0 (fun _ => true) true 22 (.slice a0 len cap) d ps) :
    ∃ l : List S51, len = l.length ∧ l.length ≤ cap ∧ Kd.C k51 W a0 l.length l ∧ OpsOk l := by
  obtain ⟨fuel, h⟩ := h
  rcases Deep.open_slice_pairs Tryd.underlying22 Tryd.underlying51 (by kernel_rfl) rfl rfl (by kernel_rfl) (by kernel_rfl) h with ⟨e, _⟩ | ⟨a, len', cap', m, n, V0, V1, D0, D1, P0, P1, e, _, hlc, hcm, hm, _, hx⟩
  · obtain ⟨rfl, rfl, rfl⟩ : a0 = none ∧ len = 0 ∧ cap = 0 := by simpa [Value.cells] using e
    exact ⟨[], rfl, Nat.le_refl _, Kd.C_nil _ _, fun i hi => by simp at hi⟩
  · obtain ⟨rfl, rfl, rfl⟩ : a0 = some a ∧ len = len' ∧ cap = cap' := by simpa [Value.cells] using e
    simp only [if_true] at hm
    subst hm
    have hmax : maxLen = 9223372036854775807 := rfl
    have each : ∀ i, i < m → ∃ q : Int × Option Addr × Nat × List Nat, W.cell? (a.add (i * 2)) = some (.int .i64 q.1) ∧ W.cell? (a.add (i * 2 + 1)) = some (.slice q.2.1 (ints q.2.2.2).length q.2.2.1) ∧ (ints q.2.2.2).length ≤ q.2.2.1 ∧ Kd.C (Kd.int .u8) W q.2.1 (ints q.2.2.2).length (ints q.2.2.2) ∧ (q.2.2.2.length ≤ 9223372036854775807 ∧ ∀ x ∈ q.2.2.2, x < 256) ∧ -9223372036854775808 ≤ q.1 ∧ q.1 ≤ 9223372036854775807 := by
      intro i hi
      obtain ⟨h1, h2, h3, h4⟩ := hx i hi
      obtain ⟨z, hz, _, hw⟩ := DataW.trod_int Tryd.underlying3 h3
      have hb : -9223372036854775808 ≤ z ∧ z ≤ 9223372036854775807 := (Lit.wf_int_iff .i64 z).1 hw
      obtain ⟨A, c, bs, hV, hc, hC, hbl, hbb⟩ := bytes_open h4
      exact ⟨(z, A, c, bs), by rw [h1, List.head_eq_of_cons_eq hz], by rw [h2, hV], hc, hC, ⟨hbl, hbb⟩, hb⟩
    obtain ⟨q, hq⟩ := Deep.choose_lt each
    have hlen : ((List.range len).map fun i => (⟨(q i).1, ints (q i).2.2.2⟩ : S51)).length = len := by simp
    refine ⟨(List.range len).map fun i => (⟨(q i).1, ints (q i).2.2.2⟩ : S51), hlen.symm, by rw [hlen]; exact hlc, ⟨rfl, by rw [hlen]; omega, fun _ => ⟨a, rfl, fun j p hj => ?_⟩⟩, fun i hi => ?_⟩
    · have hjl : j < len := by have := (List.getElem?_eq_some_iff.1 hj).1; rw [hlen] at this; exact this
      have hp : p = ⟨(q j).1, ints (q j).2.2.2⟩ := by simp [hjl] at hj; exact hj.symm
      subst hp
      obtain ⟨q0, q1, q2, q3, _⟩ := hq j (by omega)
      refine ⟨[.int .i64 (q j).1, .slice (q j).2.1 (ints (q j).2.2.2).length (q j).2.2.1], rfl, k51_mk W ⟨(q j).1, ints (q j).2.2.2⟩ q2 q3, fun i u hu => ?_⟩
      match i, hu with
      | 0, hu => simp at hu; rw [← hu]; exact q0
      | 1, hu => simp at hu; rw [← hu]; exact q1
    · rw [hlen] at hi
      have e1 : rd_T51 ((List.range len).map fun i => (⟨(q i).1, ints (q i).2.2.2⟩ : S51)) (i : Int) = ⟨(q i).1, ints (q i).2.2.2⟩ := by simp [rd_T51, List.getD_eq_getElem?_getD, hi]
      obtain ⟨_, _, _, _, ⟨q4, q5⟩, q6⟩ := hq i (by omega)
      rw [e1]
      exact ⟨q6.1, q6.2, (q i).2.2.2, rfl, q4, q5⟩
end Go.Proofs.YtgcjioncfldgcaaDoor.I
namespace Go.Proofs.YtgcjioncfldgcaaDoor.I
open Go Go.RowKit Go.Proofs.YtgcjioncfldgcaaDoorW.PrintWords Go.Proofs.YtgcjioncfldgcaaDoorW.PrintLast Go.Proofs.YtgcjioncfldgcaaDoorW.PrintMore G
/-- What stands in a law: an image, and the document's bytes. -/
structure St (W : World) (b : Nat) (A : Option Addr) (n c : Nat) (f h : Nat → Nat) : Prop where
  img : ImgAt W b f h
  hh : ∀ j, h j < 18446744073709551616
  hf : ∀ i, f i < 256
  tabs : Tabs W
  pos : 0 < W.heap.size
  len : n = (sOf f h).length
  le : n ≤ c
  row : Kd.C k37 W A n (sOf f h)
theorem St.below {W W' : World} {b : Nat} {A : Option Addr} {n c : Nat} {f h : Nat → Nat} (H : St W b A n c f h) (hb : Below W.heap.size W W') : St W' b A n c f h :=
  ⟨H.img.of_heap (hb.block b H.img.lt), H.hh, H.hf, fun j hj => (hb.cell (p := ⟨0, j, none⟩) H.pos).trans (H.tabs j hj), Nat.lt_of_lt_of_le H.pos hb.size, H.len, H.le, Kd.C_below H.row hb⟩
theorem St.of_both {W w : World} {v : Value} (hw : 0 < w.heap.size) (hT : Tabs w) (h : Both W w.heap.size v w) : ∃ A n c f h, v = .slice A n c ∧ St W w.heap.size A n c f h := by
  obtain ⟨f, h, hI, hh, hf, hR, hB⟩ := h
  obtain ⟨A, c, rfl, hle, hC⟩ := Kd.R_reads hR
  exact ⟨A, _, c, f, h, rfl, hI, hh, hf, fun j hj => (hB.cell (p := ⟨0, j, none⟩) hw).trans (hT j hj), Nat.lt_of_lt_of_le hw hB.size, rfl, hle, hC⟩
section
variable {W : World} {b : Nat} {A : Option Addr} {n c : Nat} {f h : Nat → Nat}
theorem St.n_le (H : St W b A n c f h) : n ≤ 65536 := by rw [H.len]; exact (sOf_small f h).1
theorem St.c8 (H : St W b A n c f h) : Calls Tryd.prog 8 #[.pointer (some ⟨b, 0, none⟩)] W fun e w' => e = .returned (.int .i64 n) ∧ w' = W := by
  refine (len_any b f h W H.img (lenTo h) (fun j => ones 64 (h j)) n (Lib.hid ⟨H.hh, fun _ => rfl, fun _ => rfl, by rw [len_eq, H.len, sOf_length]⟩)).mono ?_
  rintro e w' ⟨rfl, rfl⟩
  exact ⟨rfl, rfl⟩
theorem St.c10 (H : St W b A n c f h) : Calls Tryd.prog 10 #[.pointer (some ⟨b, 0, none⟩)] W fun e w' => ∃ A1 c1, e = .returned (.slice A1 n c1) ∧ n ≤ c1 ∧ Kd.C k37 w' A1 n (sOf f h) ∧ Below W.heap.size W w' := by
  refine (callsIn_wide.1 (bytes_in b f h W H.img (Lib.hid H.hh) H.tabs H.pos)).mono ?_
  rintro e w1 ⟨v, rfl, hrow, hB⟩
  have hn : (addrsTo h 65536).length = n := by rw [H.len, sOf_length]
  rw [hn] at hrow
  obtain ⟨hlen, hrow⟩ := hrow
  rcases hrow with ⟨rfl, h0⟩ | ⟨gb, cap, C, rfl, hgb, hC, hcap, hc2, hCs, hCl⟩
  · have hs : sOf f h = [] := List.eq_nil_of_length_eq_zero (by rw [← H.len]; exact h0)
    exact ⟨none, 0, by rw [h0], by omega, by rw [hs, h0]; exact Kd.C_nil _ _, hB⟩
  · refine ⟨_, cap, rfl, by omega, ⟨H.len.symm, by have := H.n_le; omega, fun _ => ⟨_, rfl, fun j p hj => ?_⟩⟩, hB⟩
    have hjn : j < n := by rw [H.len]; exact (List.getElem?_eq_some_iff.1 hj).1
    have q1 := atOf_at h j (by omega)
    obtain ⟨r1, r2⟩ := rows_at f _ j _ q1
    rw [← hCl, List.getElem?_take_of_lt (by omega)] at r1 r2
    have hp : p = elemOf f (atOf h j) := by simp [sOf, q1] at hj; exact hj.symm
    subst hp
    refine ⟨_, rfl, k37_mk w1 _, fun i u hu => ?_⟩
    have e1 : ∀ i, (⟨gb, 0, none⟩ : Addr).add i = ⟨gb, i, none⟩ := fun i => by unfold Addr.add; split <;> simp_all
    rw [e1]
    have e2 : k37.sz = 2 := rfl
    rw [e2]
    simp only [World.cell?, hC]
    match i, hu with
    | 0, hu => simp at hu; rw [← hu]; simpa [elemOf] using r1
    | 1, hu => simp at hu; rw [← hu]; simpa [elemOf] using r2
theorem St.c9 (H : St W b A n c f h) {A1 : Option Addr} {c1 : Nat} (h1 : n ≤ c1) (hC : Kd.C k37 W A1 n (sOf f h)) : Calls Tryd.prog 9 #[.slice A1 n c1, .slice A n c] W fun e w' => e = .returned (.bool true) ∧ Drawn0 W w' := by
  obtain ⟨k, hk⟩ := same_f (sOf f h) (sOf_small f h).1
  have hr := H.row
  have hle := H.le
  rw [H.len] at hC h1 hr hle ⊢
  exact pidginref02_Same.calls k A1 c1 (sOf f h) A c (sOf f h) true W hC h1 hr hle hk
theorem St.c11 (H : St W b A n c f h) (x : Int) (h0 : 0 ≤ x) (h1 : x < 65536) : Calls Tryd.prog 11 #[.pointer (some ⟨b, 0, none⟩), .int .u16 x] W fun e w' => e = .returned (.tuple #[.int .u8 (getV f h x.toNat), .bool (hasB h x.toNat)]) ∧ w' = W := by
  refine (get_int b x f h W H.img (Lib.hid H.hh) h0 h1 _ (Lib.hid rfl)).mono ?_
  rintro e w' ⟨rfl, rfl⟩
  exact ⟨rfl, rfl⟩
theorem St.c12 (H : St W b A n c f h) (x : Int) (h0 : 0 ≤ x) (h1 : x < 65536) :
    (hasB h x.toNat = false ∧ ∀ W', St W' b A n c f h → Calls Tryd.prog 12 #[.slice A n c, .int .u16 x] W' fun e w' => e = .returned (.int .i64 (-1)) ∧ Drawn0 W' w') ∨
    (hasB h x.toNat = true ∧ ∃ j : Nat, j < n ∧ (∀ W', St W' b A n c f h → Calls Tryd.prog 12 #[.slice A n c, .int .u16 x] W' fun e w' => e = .returned (.int .i64 j) ∧ Drawn0 W' w') ∧ (rd_T37 (sOf f h) j).f1 = getV f h x.toNat) := by
  have hx : ((x.toNat : Nat) : Int) = x := Int.toNat_of_nonneg h0
  rcases find_f f h x.toNat (by omega) with ⟨e, k, hk⟩ | ⟨e, k, j, hj, hk, he⟩
  · refine .inl ⟨e, fun W' H' => ?_⟩
    rw [hx] at hk
    have hr := H'.row
    have hle := H'.le
    rw [H.len] at hr hle ⊢
    exact pidginref02_Find.calls k A c (sOf f h) x (-1) W' hr hle hk
  · refine .inr ⟨e, j, by rw [H.len]; exact hj, fun W' H' => ?_, ?_⟩
    · rw [hx] at hk
      have hr := H'.row
      have hle := H'.le
      rw [H.len] at hr hle ⊢
      exact pidginref02_Find.calls k A c (sOf f h) x j W' hr hle hk
    · rw [rd37 hj, he]
      simp [elemOf, getV, e]
/-- The runs of what stands. -/
def runsOf (f h : Nat → Nat) (n : Nat) : List S45 := runsK (atOf h) (fun j => f (atOf h j)) n
theorem S45_reads {W : World} {base : Nat} {ok : Nat → Prop} {e : Nat} {v : Value} {rs : List S45} (h : Kd.S k45 e W base ok v rs) : ∃ A c, v = .slice A rs.length c ∧ rs.length ≤ c ∧ Kd.C k45 W A rs.length rs := Kd.R_reads (Kd.S_R h)
theorem St.c13 (H : St W b A n c f h) : Calls Tryd.prog 13 #[.pointer (some ⟨b, 0, none⟩)] W fun e w' => ∃ A1 c1, e = .returned (.slice A1 (runsOf f h n).length c1) ∧ (runsOf f h n).length ≤ c1 ∧ Kd.C k45 w' A1 (runsOf f h n).length (runsOf f h n) ∧ Below W.heap.size W w' := by
  have hn : (addrsTo h 65536).length = n := by rw [H.len, sOf_length]
  rcases Nat.eq_zero_or_pos n with h0 | h0
  · refine (runs_none b f h W H.img (Lib.hid H.hh) H.tabs H.pos (Lib.hid (List.eq_nil_of_length_eq_zero (by omega)))).mono ?_
    rintro e w' ⟨v, rfl, hS, hB⟩
    have hr : runsOf f h n = [] := by rw [h0]; rfl
    rw [hr]
    obtain ⟨A1, c1, rfl, q1, q2⟩ := S45_reads hS
    exact ⟨A1, c1, rfl, q1, q2, hB⟩
  · refine (runs_some b n f h (atOf h) (fun j => f (atOf h j)) W H.img (Lib.hid H.hh) H.tabs H.pos (Lib.hid H.hf) (Lib.hid hn) (Lib.hid fun j hj => ⟨atOf_at h j (by omega), rfl⟩) h0).mono ?_
    rintro e w' ⟨v, rfl, hS, hB⟩
    obtain ⟨A1, c1, rfl, q1, q2⟩ := S45_reads hS
    exact ⟨A1, c1, rfl, q1, q2, hB⟩
theorem St.c14 (H : St W b A n c f h) : Calls Tryd.prog 14 #[.slice A n c] W fun e w' => ∃ A1 c1, e = .returned (.slice A1 (runsOf f h n).length c1) ∧ (runsOf f h n).length ≤ c1 ∧ Kd.C k45 w' A1 (runsOf f h n).length (runsOf f h n) ∧ Below W.heap.size W w' := by
  obtain ⟨k, hk⟩ := runs_f (sOf_small f h) (atOf h) (fun j => f (atOf h j)) (fun j hj => sOf_f f h j hj)
  have hr := H.row
  have hle := H.le
  rw [← H.len] at hk
  have : Calls Tryd.prog 14 #[.slice A (sOf f h).length c] W _ := pidginref02_Runs.calls k A c (sOf f h) (runsOf f h n) W (by rw [← H.len]; exact hr) (by rw [← H.len]; exact hle) hk
  rw [← H.len] at this
  refine this.mono ?_
  rintro e w' ⟨v, rfl, hS, hB⟩
  obtain ⟨A1, c1, rfl, q1, q2⟩ := S45_reads hS
  exact ⟨A1, c1, rfl, q1, q2, hB⟩
theorem c15 {rs : List S45} {n j : Nat} (hrs : rs = runsOf f h n) (hn : n ≤ 65536) {A1 A2 : Option Addr} {c1 c2 : Nat} (h1 : (rd_T45 rs (j : Int)).f1.length ≤ c1) (h2 : (rd_T45 rs (j : Int)).f1.length ≤ c2)
    (hC1 : (Kd.int .u8).C W A1 (rd_T45 rs (j : Int)).f1.length (rd_T45 rs (j : Int)).f1) (hC2 : (Kd.int .u8).C W A2 (rd_T45 rs (j : Int)).f1.length (rd_T45 rs (j : Int)).f1) :
    Calls Tryd.prog 15 #[.slice A1 (rd_T45 rs (j : Int)).f1.length c1, .slice A2 (rd_T45 rs (j : Int)).f1.length c2] W fun e w' => e = .returned (.bool true) ∧ Drawn0 W w' := by
  have hl : (rd_T45 rs (j : Int)).f1.length ≤ 65536 := by
    rw [rd45, hrs]
    exact Nat.le_trans (runsK_each _ _ n j) hn
  obtain ⟨k, hk⟩ := bytes_f _ hl
  exact pidginref02_Bytes.calls k A1 c1 _ A2 c2 _ true W hC1 h1 hC2 h2 hk
end
end Go.Proofs.YtgcjioncfldgcaaDoor.I

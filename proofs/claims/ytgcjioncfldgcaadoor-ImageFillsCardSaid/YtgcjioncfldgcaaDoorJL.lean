/- PROVED: that ImagePlays and ImageFills answer true. No condition beyond each theorem's own. -/
import Derived.Test.YtgcjioncfldgcaaDoorJK
import Derived.BigQuiet
import Derived.Test.YtgcjioncfldgcaaDoorJH
set_option linter.unusedVariables false
set_option linter.unusedSimpArgs false
namespace Go.Proofs.YtgcjioncfldgcaaDoor.I
open Go Go.RowKit Go.Proofs.YtgcjioncfldgcaaDoorW.PrintWords Go.Proofs.YtgcjioncfldgcaaDoorW.PrintLast Go.Proofs.YtgcjioncfldgcaaDoorW.PrintMore G
theorem light_len {k : Nat} {l : List S51} (h : pidginlaw02_light.f k l = some true) : l.length ≤ 30 := by
  unfold pidginlaw02_light.f at h
  split at h
  · cases h
  · omega
theorem tabs_of_below {W W' : World} (hT : Tabs W) (h0 : 0 < W.heap.size) (hb : Below W.heap.size W W') : Tabs W' := fun j hj => (hb.cell (p := ⟨0, j, none⟩) h0).trans (hT j hj)
theorem below_drawn {W W' : World} (h : Drawn0 W W') : Below W.heap.size W W' := by obtain ⟨m, rfl⟩ := h; exact pw_below_drewN (Below.refl _ _) m
/-- Where the row of Puts is too great for the law: what must come at any rate. -/
theorem heavy_any (W : World) (k : Nat) (A0 : Option Addr) (c0 : Nat) (l : List S51) (hC : Kd.C k51 W A0 l.length l) (hc0 : l.length ≤ c0) (hT : Tabs W) (h0 : 0 < W.heap.size) (h : pidginlaw02_light.f k l = some false) (x : Int) :
    Calls Tryd.prog 3 #[.slice A0 l.length c0, .int .u16 x] W fun e w' => e = .returned (.bool true) ∧ Below W.heap.size W w' := by
  have H5 := Lib.hid (pidginlaw02_light.calls k A0 c0 l false W hC hc0 h)
  have HT := Lib.hid (And.intro hT h0)
  clear hC hT h0
  go_enter Tryd.func3, Tryd.ntmps3
  go_wp2_with (first
    | (go_at_call 5; (with_reducible refine H5.out.mono ?_); rintro e W1 ⟨rfl, ⟨m1, rfl⟩⟩; have hb1 := Lib.hid (pw_below_drewN (Below.refl W.heap.size W) m1))
    | (go_at_call 6; (with_reducible refine (alive_any _ (tabs_of_below HT.out.1 HT.out.2 hb1.out) (Nat.lt_of_lt_of_le HT.out.2 hb1.out.size)).mono ?_); rintro e W2 ⟨rfl, hb2⟩; have HB2 := Lib.hid (hb1.out.trans (hb2.mono hb1.out.size)); clear hb2))
  go_ret
  exact ⟨rfl, HB2.out⟩
set_option maxHeartbeats 1000000 in
set_option maxRecDepth 100000 in
theorem plays_any (W : World) (A0 : Option Addr) (c0 : Nat) (l : List S51) (hC : Kd.C k51 W A0 l.length l) (hc0 : l.length ≤ c0) (hok : OpsOk l) (hT : Tabs W) (h0 : 0 < W.heap.size) (x : Int) (hx0 : 0 ≤ x) (hx1 : x < 65536) :
    Calls Tryd.prog 3 #[.slice A0 l.length c0, .int .u16 x] W fun e w' => e = .returned (.bool true) ∧ Below W.heap.size W w' := by
  obtain ⟨k, r, hl⟩ := light_f l
  cases r
  · exact heavy_any W k A0 c0 l hC hc0 hT h0 hl x
  have hll := light_len hl
  have H5 := Lib.hid (pidginlaw02_light.calls k A0 c0 l true W hC hc0 hl)
  have H7 : Hid (∀ m, Calls Tryd.prog 7 #[.slice A0 l.length c0] (W.drewN m) fun e w' => ∃ (b : Nat) (A : Option Addr) (n c : Nat) (f h : Nat → Nat), e = .returned (.tuple #[.pointer (some ⟨b, 0, none⟩), .slice A n c, .bool true]) ∧ St w' b A n c f h ∧ Below W.heap.size W w') := Lib.hid fun m => by
    have hb := pw_below_drewN (Below.refl W.heap.size W) m
    refine (play_any (W.drewN m) A0 c0 l (Kd.C_drewN hC m) hc0 hll (Lib.hid hok)).mono ?_
    rintro e w' ⟨v, rfl, hBo⟩
    have hB : Below (W.drewN m).heap.size (W.drewN m) w' := by
      obtain ⟨_, _, _, _, _, _, hB⟩ := hBo
      exact hB
    obtain ⟨A, n, c, f, h, rfl, hS⟩ := St.of_both (Nat.lt_of_lt_of_le h0 hb.size) (tabs_of_below hT h0 hb) hBo
    exact ⟨_, A, n, c, f, h, rfl, hS, hb.trans (hB.mono hb.size)⟩
  have HX := Lib.hid (And.intro hx0 hx1)
  clear hC hT h0 hok hl hll hx0 hx1
  go_enter Tryd.func3, Tryd.ntmps3
  go_wp2_with (first
    | (go_at_call 5; (with_reducible refine H5.out.mono ?_); rintro e W1 ⟨rfl, ⟨m1, rfl⟩⟩)
    | (go_at_call 7; (with_reducible refine (H7.out m1).mono ?_); rintro e W2 ⟨b, A, n, c, f, h, rfl, hS, hB⟩; have HS := Lib.hid hS; have HB := Lib.hid hB; clear hS hB)
    | (go_at_call 6; (with_reducible refine (alive_any _ HS.out.tabs HS.out.pos).mono ?_); rintro e W3 ⟨rfl, hb3⟩; have HS3 := Lib.hid (HS.out.below hb3); have HB3 := Lib.hid (HB.out.trans (hb3.mono HB.out.size)); clear hb3 HS HB)
    | (go_at_call 8; (with_reducible refine (HS3.out.c8).mono ?_); rintro e W4 ⟨rfl, rfl⟩)
    | (go_at_call 10; (with_reducible refine (HS3.out.c10).mono ?_); rintro e W5 ⟨A1, c1, rfl, hn1, hC1, hb5⟩; have HS5 := Lib.hid (HS3.out.below hb5); have HB5 := Lib.hid (HB3.out.trans (hb5.mono HB3.out.size)); have HC5 := Lib.hid (And.intro hn1 hC1); clear hb5 hn1 hC1 HS3 HB3)
    | (go_at_call 9; (with_reducible refine (HS5.out.c9 HC5.out.1 HC5.out.2).mono ?_); rintro e W6 ⟨rfl, hd6⟩; have hb6 := below_drawn hd6; have HS6 := Lib.hid (HS5.out.below hb6); have HB6 := Lib.hid (HB5.out.trans (hb6.mono HB5.out.size)); clear HS5 HB5 HC5 hd6 hb6))
  obtain ⟨rs, hrs⟩ : ∃ rs, rs = runsOf f h n := ⟨_, rfl⟩
  have hlen : rs.length ≤ 65536 := by rw [hrs]; exact Nat.le_trans (runsK_len _ _ n) HS6.out.n_le
  have H13 : ∀ W', St W' b A n c f h → Calls Tryd.prog 13 #[.pointer (some ⟨b, 0, none⟩)] W' fun e w' => ∃ A1 c1, e = .returned (.slice A1 rs.length c1) ∧ rs.length ≤ c1 ∧ Kd.C k45 w' A1 rs.length rs ∧ Below W'.heap.size W' w' := fun W' H' => by rw [hrs]; exact H'.c13
  have H14 : ∀ W', St W' b A n c f h → Calls Tryd.prog 14 #[.slice A n c] W' fun e w' => ∃ A1 c1, e = .returned (.slice A1 rs.length c1) ∧ rs.length ≤ c1 ∧ Kd.C k45 w' A1 rs.length rs ∧ Below W'.heap.size W' w' := fun W' H' => by rw [hrs]; exact H'.c14
  have HR := Lib.hid (And.intro hrs HS6.out.n_le)
  have HH13 := Lib.hid H13
  have HH14 := Lib.hid H14
  clear hrs H13 H14
  rcases HS6.out.c12 x HX.out.1 HX.out.2 with ⟨he, hc⟩ | ⟨he, j, hj, hc, hv⟩
  · have H11 := Lib.hid (HS6.out.c11 x HX.out.1 HX.out.2)
    have hg : getV f h x.toNat = 0 := by simp [getV, he]
    rw [he, hg] at H11
    have H12 := Lib.hid (hc _ HS6.out)
    clear he hg hc
    go_wp2_with (first
      | (go_at_call 11; (with_reducible refine H11.out.mono ?_); rintro e W7 ⟨rfl, rfl⟩)
      | (go_at_call 12; (with_reducible refine H12.out.mono ?_); rintro e W8 ⟨rfl, hd8⟩; have hb8 := below_drawn hd8; have HS8 := Lib.hid (HS6.out.below hb8); have HB8 := Lib.hid (HB6.out.trans (hb8.mono HB6.out.size)); clear hd8 hb8)
      | (go_at_call 13; (with_reducible refine (HH13.out _ HS8.out).mono ?_); rintro e W9 ⟨A3, c3, rfl, hn3, hC3, hb9⟩; have HS9 := Lib.hid (HS8.out.below hb9); have HB9 := Lib.hid (HB8.out.trans (hb9.mono HB8.out.size)); have HC3 := Lib.hid (And.intro hn3 hC3); clear hb9 hn3 hC3)
      | (go_at_call 14; (with_reducible refine (HH14.out _ HS9.out).mono ?_); rintro e WA ⟨A4, c4, rfl, hn4, hC4, hbA⟩; have HBA := Lib.hid (HB9.out.trans (hbA.mono HB9.out.size)); have HC34 := Lib.hid (And.intro HC3.out.1 (And.intro (Kd.C_below HC3.out.2 hbA) (And.intro hn4 hC4))); clear hbA hn4 hC4 HC3))
    go_loopw [13] (fun i wr => ∃ j : Nat, j ≤ rs.length ∧ i = .int .i64 j ∧ Below WA.heap.size WA wr) (fun i _ => rs.length - (intOf i).toNat)
    case atStart => exact ⟨0, Nat.zero_le _, rfl, Below.refl _ _⟩
    case round =>
      obtain ⟨j, hj, rfl, hBr⟩ := hrel
      by_cases hlt : j < rs.length
      · obtain ⟨ad1, B1, d1, e1, q10, q11, q12, q13⟩ := at_T45 (Kd.C_below HC34.out.2.1 hBr) (j : Int) (by omega) (by omega)
        obtain ⟨ad2, B2, d2, e2, q20, q21, q22, q23⟩ := at_T45 (Kd.C_below HC34.out.2.2.2 hBr) (j : Int) (by omega) (by omega)
        cases e1
        cases e2
        simp only [Int.toNat_natCast] at q10 q11 q20 q21
        have e3 : (j : Int) < (rs.length : Int) := by omega
        have H15 : Hid (∀ m, Calls Tryd.prog 15 #[.slice B1 (rd_T45 rs (j : Int)).f1.length d1, .slice B2 (rd_T45 rs (j : Int)).f1.length d2] (wr.drewN m) fun e w' => e = .returned (.bool true) ∧ ∃ m', w' = (wr.drewN m).drewN m') := Lib.hid fun m => (c15 (W := wr.drewN m) (j := j) HR.out.1 HR.out.2 q12 q22 (Kd.C_drewN q13 m) (Kd.C_drewN q23 m)).mono fun _ _ h => ⟨h.1, h.2.out⟩
        have HBr := Lib.hid hBr
        clear q12 q13 q22 q23 hBr
        go_wp2
        go_quiet (first | (go_at_call 15; exact Calls.quiet_of (H15.out _)))
        go_wp2
        go_roundw
        case rel => exact ⟨j + 1, by omega, by go_num, pw_below_drewN HBr.out _⟩
        case measure => simp [intOf]; omega
      · have e3 : ¬ ((j : Int) < (rs.length : Int)) := by omega
        go_wp2
        go_ret
        exact ⟨rfl, HBA.out.trans (hBr.mono HBA.out.size)⟩
  · have H11 := Lib.hid (HS6.out.c11 x HX.out.1 HX.out.2)
    obtain ⟨ad, e0, q0, q1⟩ := at_T37 HS6.out.row (j : Int) (by omega) (by omega)
    cases e0
    simp only [Int.toNat_natCast] at q0 q1
    rw [hv] at q1
    rw [he] at H11
    have HQ := Lib.hid q1
    have e5 : (j : Int) < (n : Int) := by omega
    generalize getV f h x.toNat = g at H11 q1 HQ hv
    have H12 := Lib.hid (hc _ HS6.out)
    clear he hc q0 q1 hv
    go_wp2_with (first
      | (go_at_call 11; (with_reducible refine H11.out.mono ?_); rintro e W7 ⟨rfl, rfl⟩)
      | (go_at_call 12; (with_reducible refine H12.out.mono ?_); rintro e W8 ⟨rfl, hd8⟩; have hb8 := below_drawn hd8; have HS8 := Lib.hid (HS6.out.below hb8); have q8 := (hb8.cell (block_lt_of_cell HQ.out)).trans HQ.out; have HB8 := Lib.hid (HB6.out.trans (hb8.mono HB6.out.size)); clear hd8 hb8)
      | (go_at_call 13; (with_reducible refine (HH13.out _ HS8.out).mono ?_); rintro e W9 ⟨A3, c3, rfl, hn3, hC3, hb9⟩; have HS9 := Lib.hid (HS8.out.below hb9); have HB9 := Lib.hid (HB8.out.trans (hb9.mono HB8.out.size)); have HC3 := Lib.hid (And.intro hn3 hC3); clear hb9 hn3 hC3)
      | (go_at_call 14; (with_reducible refine (HH14.out _ HS9.out).mono ?_); rintro e WA ⟨A4, c4, rfl, hn4, hC4, hbA⟩; have HBA := Lib.hid (HB9.out.trans (hbA.mono HB9.out.size)); have HC34 := Lib.hid (And.intro HC3.out.1 (And.intro (Kd.C_below HC3.out.2 hbA) (And.intro hn4 hC4))); clear hbA hn4 hC4 HC3))
    go_loopw [13] (fun i wr => ∃ jj : Nat, jj ≤ rs.length ∧ i = .int .i64 jj ∧ Below WA.heap.size WA wr) (fun i _ => rs.length - (intOf i).toNat)
    case atStart => exact ⟨0, Nat.zero_le _, rfl, Below.refl _ _⟩
    case round =>
      obtain ⟨jj, hjj, rfl, hBr⟩ := hrel
      by_cases hlt : jj < rs.length
      · obtain ⟨ad1, B1, d1, e1, q10, q11, q12, q13⟩ := at_T45 (Kd.C_below HC34.out.2.1 hBr) (jj : Int) (by omega) (by omega)
        obtain ⟨ad2, B2, d2, e2, q20, q21, q22, q23⟩ := at_T45 (Kd.C_below HC34.out.2.2.2 hBr) (jj : Int) (by omega) (by omega)
        cases e1
        cases e2
        simp only [Int.toNat_natCast] at q10 q11 q20 q21
        have e3 : (jj : Int) < (rs.length : Int) := by omega
        have H15 : Hid (∀ m, Calls Tryd.prog 15 #[.slice B1 (rd_T45 rs (jj : Int)).f1.length d1, .slice B2 (rd_T45 rs (jj : Int)).f1.length d2] (wr.drewN m) fun e w' => e = .returned (.bool true) ∧ ∃ m', w' = (wr.drewN m).drewN m') := Lib.hid fun m => (c15 (W := wr.drewN m) (j := jj) HR.out.1 HR.out.2 q12 q22 (Kd.C_drewN q13 m) (Kd.C_drewN q23 m)).mono fun _ _ h => ⟨h.1, h.2.out⟩
        have HBr := Lib.hid hBr
        clear q12 q13 q22 q23 hBr
        go_wp2
        go_quiet (first | (go_at_call 15; exact Calls.quiet_of (H15.out _)))
        go_wp2
        go_roundw
        case rel => exact ⟨jj + 1, by omega, by go_num, pw_below_drewN HBr.out _⟩
        case measure => simp [intOf]; omega
      · have e3 : ¬ ((jj : Int) < (rs.length : Int)) := by omega
        go_wp2
        go_ret
        exact ⟨rfl, HBA.out.trans (hBr.mono HBA.out.size)⟩
end Go.Proofs.YtgcjioncfldgcaaDoor.I
namespace Go.Proofs.YtgcjioncfldgcaaDoor.I
open Go Go.RowKit Go.Proofs.YtgcjioncfldgcaaDoorW.PrintWords Go.Proofs.YtgcjioncfldgcaaDoorW.PrintLast Go.Proofs.YtgcjioncfldgcaaDoorW.PrintMore G
theorem addrs_prefix (h : Nat → Nat) (i : Nat) : ∀ N, i ≤ N → ∃ T, addrsTo h N = addrsTo h i ++ T
  | 0, hi => ⟨[], by rw [show i = 0 by omega]; simp⟩
  | N + 1, hi => by
    by_cases c : i = N + 1
    · exact ⟨[], by rw [c]; simp⟩
    · obtain ⟨T, hT⟩ := addrs_prefix h i N (by omega)
      exact ⟨T ++ (if hasB h N then [N] else []), by rw [addrsTo_succ, hT, List.append_assoc]⟩
theorem addrs_here (h : Nat → Nat) (i N : Nat) (hi : i < N) (hb : hasB h i = true) : (addrsTo h N)[(addrsTo h i).length]? = some i := by
  obtain ⟨T, hT⟩ := addrs_prefix h (i + 1) N hi
  rw [hT, addrsTo_succ, hb]
  simp
theorem addrs_len_le (h : Nat → Nat) (i N : Nat) (hi : i ≤ N) : (addrsTo h i).length ≤ (addrsTo h N).length := by
  obtain ⟨T, hT⟩ := addrs_prefix h i N hi
  rw [hT]; simp
theorem mem_addrs (h : Nat → Nat) (i N : Nat) : i ∈ addrsTo h N ↔ i < N ∧ hasB h i = true := by simp [addrsTo]
/-- How many bytes stand below an address. -/
def cnt (h : Nat → Nat) (i : Nat) : Nat := (addrsTo h i).length
theorem cnt_yes (h : Nat → Nat) (i : Nat) (hb : hasB h i = true) : cnt h (i + 1) = cnt h i + 1 := by simp [cnt, addrsTo_succ, hb]
theorem cnt_no (h : Nat → Nat) (i : Nat) (hb : hasB h i = false) : cnt h (i + 1) = cnt h i := by simp [cnt, addrsTo_succ, hb]
section
variable {W : World} {b : Nat} {A : Option Addr} {n c : Nat} {f h : Nat → Nat}
theorem St.cnt_le (H : St W b A n c f h) (i : Nat) (hi : i ≤ 65536) : cnt h i ≤ n := by
  rw [H.len, sOf_length]; exact addrs_len_le h i _ hi
/-- The byte that is counted next, where one stands at i. -/
theorem St.next_yes (H : St W b A n c f h) (i : Nat) (hi : i < 65536) (hb : hasB h i = true) : cnt h i < n ∧ ∃ ad, A = some ad ∧ W.cell? (ad.add (cnt h i * 2)) = some (.int .u16 (i : Int)) ∧ W.cell? ⟨(ad.add (cnt h i * 2)).block, (ad.add (cnt h i * 2)).off + 1, none⟩ = some (.int .u8 (f i : Int)) := by
  have hq := addrs_here h i _ hi hb
  have hlt : cnt h i < n := by rw [H.len, sOf_length]; exact (List.getElem?_eq_some_iff.1 hq).1
  obtain ⟨ad, e, q0, q1⟩ := at_T37 H.row (cnt h i : Int) (by omega) (by omega)
  have hr : rd_T37 (sOf f h) (cnt h i : Int) = elemOf f i := by
    rw [rd37 (by rw [← H.len]; exact hlt)]
    have := List.getElem?_eq_getElem (l := sOf f h) (i := cnt h i) (by rw [← H.len]; exact hlt)
    have h2 : (sOf f h)[cnt h i]? = some (elemOf f i) := by unfold sOf cnt; rw [List.getElem?_map, hq]; rfl
    rw [h2] at this
    exact (Option.some.inj this).symm
  rw [hr] at q0 q1
  exact ⟨hlt, ad, e, by simpa [elemOf] using q0, by simpa [elemOf] using q1⟩
set_option maxRecDepth 200000 in
/-- .. where none stands at i: it stands elsewhere. -/
theorem St.next_no (H : St W b A n c f h) (i : Nat) (hb : hasB h i = false) (hlt : cnt h i < n) : ∃ ad y, A = some ad ∧ W.cell? (ad.add (cnt h i * 2)) = some (.int .u16 ((y : Nat) : Int)) ∧ y < 65536 ∧ y ≠ i := by
  obtain ⟨ad, e, q0, q1⟩ := at_T37 H.row (cnt h i : Int) (by omega) (by omega)
  have hl : cnt h i < (sOf f h).length := by rw [← H.len]; exact hlt
  have hl2 : cnt h i < (addrsTo h 65536).length := by rw [sOf_length] at hl; exact hl
  obtain ⟨z1, z2⟩ := addr_lt h (cnt h i) hl2
  rw [rd37 hl, sOf_at f h _ hl] at q0
  generalize (addrsTo h 65536)[cnt h i] = y at q0 z1 z2
  refine ⟨ad, y, e, by simpa [elemOf] using q0, z1, fun e => ?_⟩
  rw [e, hb] at z2; cases z2
theorem St.c16 (H : St W b A n c f h) (S : Nat) (hS : Hid (S = 65536)) (x : Int) : Calls Tryd.prog 16 #[.pointer (some ⟨b, 0, none⟩), .int .u8 x] W fun e w' => ∃ B, e = .returned (.slice (some ⟨B, 0, none⟩) S S) ∧ Hid (∀ i, i < 65536 → w'.cell? ⟨B, i, none⟩ = some (.int .u8 (if hasB h i then (f i : Int) else x))) ∧ Below W.heap.size W w' := by
  refine (fill_any b n S x f h (atOf h) W H.img (Lib.hid H.hh) H.tabs H.pos (Lib.hid H.hf) hS (Lib.hid (by rw [H.len, sOf_length])) (Lib.hid fun j hj => atOf_at h j (by rw [H.len, sOf_length] at hj; exact hj))).mono ?_
  rintro e w' ⟨B, rfl, ⟨cs, hB, _, hcs⟩, _, hb⟩
  refine ⟨B, rfl, Lib.hid fun i hi => ?_, hb⟩
  simp only [World.cell?, hB]
  rw [hcs i hi]
  have : (i ∈ addrsTo h 65536) = (hasB h i = true) := propext ⟨fun q => ((mem_addrs h i _).1 q).2, fun q => (mem_addrs h i _).2 ⟨hi, q⟩⟩
  simp only [this]
  rfl
end
end Go.Proofs.YtgcjioncfldgcaaDoor.I
namespace Go.Proofs.YtgcjioncfldgcaaDoor.I
open Go Go.RowKit Go.Proofs.YtgcjioncfldgcaaDoorW.PrintWords Go.Proofs.YtgcjioncfldgcaaDoorW.PrintLast Go.Proofs.YtgcjioncfldgcaaDoorW.PrintMore G
theorem heavy_fill (W : World) (k : Nat) (A0 : Option Addr) (c0 : Nat) (l : List S51) (hC : Kd.C k51 W A0 l.length l) (hc0 : l.length ≤ c0) (hT : Tabs W) (h0 : 0 < W.heap.size) (h : pidginlaw02_light.f k l = some false) (x : Int) :
    Calls Tryd.prog 4 #[.slice A0 l.length c0, .int .u8 x] W fun e w' => e = .returned (.bool true) ∧ Below W.heap.size W w' := by
  have H5 := Lib.hid (pidginlaw02_light.calls k A0 c0 l false W hC hc0 h)
  have HT := Lib.hid (And.intro hT h0)
  clear hC hT h0
  go_enter Tryd.func4, Tryd.ntmps4
  go_wp2_with (first
    | (go_at_call 5; (with_reducible refine H5.out.mono ?_); rintro e W1 ⟨rfl, ⟨m1, rfl⟩⟩; have hb1 := Lib.hid (pw_below_drewN (Below.refl W.heap.size W) m1))
    | (go_at_call 6; (with_reducible refine (alive_any _ (tabs_of_below HT.out.1 HT.out.2 hb1.out) (Nat.lt_of_lt_of_le HT.out.2 hb1.out.size)).mono ?_); rintro e W2 ⟨rfl, hb2⟩; have HB2 := Lib.hid (hb1.out.trans (hb2.mono hb1.out.size)); clear hb2))
  go_ret
  exact ⟨rfl, HB2.out⟩
set_option maxHeartbeats 1000000 in
set_option maxRecDepth 100000 in
theorem fills_any (W : World) (A0 : Option Addr) (c0 : Nat) (l : List S51) (hC : Kd.C k51 W A0 l.length l) (hc0 : l.length ≤ c0) (hok : OpsOk l) (hT : Tabs W) (h0 : 0 < W.heap.size) (x : Int) (hx0 : 0 ≤ x) (hx1 : x < 256) :
    Calls Tryd.prog 4 #[.slice A0 l.length c0, .int .u8 x] W fun e w' => e = .returned (.bool true) ∧ Below W.heap.size W w' := by
  obtain ⟨k, r, hl⟩ := light_f l
  cases r
  · exact heavy_fill W k A0 c0 l hC hc0 hT h0 hl x
  have hll := light_len hl
  have H5 := Lib.hid (pidginlaw02_light.calls k A0 c0 l true W hC hc0 hl)
  have H7 : Hid (∀ m, Calls Tryd.prog 7 #[.slice A0 l.length c0] (W.drewN m) fun e w' => ∃ (b : Nat) (A : Option Addr) (n c : Nat) (f h : Nat → Nat), e = .returned (.tuple #[.pointer (some ⟨b, 0, none⟩), .slice A n c, .bool true]) ∧ St w' b A n c f h ∧ Below W.heap.size W w') := Lib.hid fun m => by
    have hb := pw_below_drewN (Below.refl W.heap.size W) m
    refine (play_any (W.drewN m) A0 c0 l (Kd.C_drewN hC m) hc0 hll (Lib.hid hok)).mono ?_
    rintro e w' ⟨v, rfl, hBo⟩
    have hB : Below (W.drewN m).heap.size (W.drewN m) w' := by
      obtain ⟨_, _, _, _, _, _, hB⟩ := hBo
      exact hB
    obtain ⟨A, n, c, f, h, rfl, hS⟩ := St.of_both (Nat.lt_of_lt_of_le h0 hb.size) (tabs_of_below hT h0 hb) hBo
    exact ⟨_, A, n, c, f, h, rfl, hS, hb.trans (hB.mono hb.size)⟩
  obtain ⟨S, hS⟩ : ∃ S : Nat, S = 65536 := ⟨_, rfl⟩
  have HS0 := Lib.hid hS
  have hS2 : (S : Int) = 65536 := by omega
  clear hC hT h0 hok hl hll hx0 hx1 hS
  go_enter Tryd.func4, Tryd.ntmps4
  go_wp2_with (first
    | (go_at_call 5; (with_reducible refine H5.out.mono ?_); rintro e W1 ⟨rfl, ⟨m1, rfl⟩⟩)
    | (go_at_call 7; (with_reducible refine (H7.out m1).mono ?_); rintro e W2 ⟨b, A, n, c, f, h, rfl, hS, hB⟩; have HS := Lib.hid hS; have HB := Lib.hid hB; clear hS hB)
    | (go_at_call 16; (with_reducible refine (HS.out.c16 S HS0 x).mono ?_); rintro e W3 ⟨B, rfl, HF, hb3⟩; have HS3 := Lib.hid (HS.out.below hb3); have HB3 := Lib.hid (HB.out.trans (hb3.mono HB.out.size)); clear hb3 HS HB))
  go_loopw [9, 10] (fun kv iv wr => ∃ i : Nat, i ≤ 65536 ∧ iv = .int .i64 i ∧ kv = .int .i64 (cnt h i) ∧ Below W3.heap.size W3 wr) (fun _ iv _ => S - (intOf iv).toNat)
  case atStart => exact ⟨0, Nat.zero_le _, rfl, rfl, Below.refl _ _⟩
  case round =>
    obtain ⟨i, hi, rfl, rfl, hBr⟩ := hrel
    by_cases hlt : i < 65536
    · have H := HS3.out.below hBr
      have q := HF.out i hlt
      replace q := (hBr.cell (block_lt_of_cell q)).trans q
      have e1 : (i : Int) < 65536 := by omega
      have hm : i < S := by omega
      have HBr := Lib.hid hBr
      clear hBr
      cases hb : hasB h i
      · rw [hb] at q
        simp only [Bool.false_eq_true, if_false] at q
        have HC := Lib.hid (cnt_no h i hb)
        by_cases c2 : cnt h i < n
        · obtain ⟨ad, y, e0, q0, hy, hyi⟩ := H.next_no i hb c2
          cases e0
          have e3 : ((cnt h i : Nat) : Int) < (n : Int) := by omega
          have e4 : ((y : Int) == (i : Int)) = false := by simp; omega
          have HH := Lib.hid H
          clear H hb
          generalize cnt h i = kk at HC e3 c2 q0
          go_wp2
          go_roundw
          case rel => exact ⟨i + 1, by omega, by go_num, by rw [HC.out], HBr.out⟩
          case measure => simp [intOf]; omega
        · have e3 : ¬ ((cnt h i : Nat) : Int) < (n : Int) := by omega
          have HH := Lib.hid H
          clear H hb
          generalize cnt h i = kk at HC e3 c2
          go_wp2
          go_roundw
          case rel => exact ⟨i + 1, by omega, by go_num, by rw [HC.out], HBr.out⟩
          case measure => simp [intOf]; omega
      · rw [hb] at q
        simp only [if_true] at q
        have HC := Lib.hid (cnt_yes h i hb)
        obtain ⟨c2, ad, e0, q0, q1⟩ := H.next_yes i hlt hb
        cases e0
        have e3 : ((cnt h i : Nat) : Int) < (n : Int) := by omega
        have hn := H.n_le
        have HH := Lib.hid H
        clear H hb
        generalize cnt h i = kk at HC e3 c2 q0 q1
        go_wp2
        go_roundw
        case rel => exact ⟨i + 1, by omega, by go_num, by rw [HC.out]; go_num, HBr.out⟩
        case measure => simp [intOf]; omega
    · have e1 : ¬ (i : Int) < 65536 := by omega
      have HS4 := Lib.hid (HS3.out.below hBr)
      have HB4 := Lib.hid (HB3.out.trans (hBr.mono HB3.out.size))
      clear hBr
      go_wp2_with (go_at_call 6; (with_reducible refine (alive_any _ HS4.out.tabs HS4.out.pos).mono ?_); rintro e W5 ⟨rfl, hb5⟩; have HB5 := Lib.hid (HB4.out.trans (hb5.mono HB4.out.size)); clear hb5)
      go_ret
      exact ⟨rfl, HB5.out⟩
end Go.Proofs.YtgcjioncfldgcaaDoor.I

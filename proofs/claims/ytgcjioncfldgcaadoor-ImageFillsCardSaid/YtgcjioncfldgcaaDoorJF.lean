/- PROVED: what New makes. No condition beyond each theorem's own. -/
import Derived.Test.YtgcjioncfldgcaaDoorJC
import Derived.Laws.Tables
set_option linter.unusedVariables false
set_option linter.unusedSimpArgs false
namespace Go.Proofs.YtgcjioncfldgcaaDoor.I
open Go Go.RowKit
/-- Are these m bytes and behind them words, all zero? -/
def chk : List Value → Nat → Bool
  | [], _ => true
  | .int k n :: l, m + 1 => k == .u8 && n == 0 && chk l m
  | .int k n :: l, 0 => k == .u64 && n == 0 && chk l 0
  | _ :: _, _ => false
theorem chk_low : ∀ (l : List Value) (m i : Nat), chk l m = true → i < l.length → i < m → l[i]? = some (.int .u8 0)
  | [], _, _, _, hi, _ => by simp at hi
  | v :: l, 0, _, _, _, hm => by omega
  | v :: l, m + 1, i, h, hi, hm => by
    cases v <;> simp only [chk, Bool.and_eq_true, beq_iff_eq, Bool.false_eq_true] at h
    obtain ⟨⟨rfl, rfl⟩, h⟩ := h
    cases i with
    | zero => rfl
    | succ i => simpa using chk_low l m i h (by simpa using hi) (by omega)
theorem chk_high : ∀ (l : List Value) (m i : Nat), chk l m = true → i < l.length → m ≤ i → l[i]? = some (.int .u64 0)
  | [], _, _, _, hi, _ => by simp at hi
  | v :: l, 0, i, h, hi, hm => by
    cases v <;> simp only [chk, Bool.and_eq_true, beq_iff_eq, Bool.false_eq_true] at h
    obtain ⟨⟨rfl, rfl⟩, h⟩ := h
    cases i with
    | zero => rfl
    | succ i => simpa using chk_high l 0 i h (by simpa using hi) (by omega)
  | v :: l, m + 1, i, h, hi, hm => by
    cases v <;> simp only [chk, Bool.and_eq_true, beq_iff_eq, Bool.false_eq_true] at h
    obtain ⟨_, h⟩ := h
    cases i with
    | zero => omega
    | succ i => simpa using chk_high l m i h (by simpa using hi) (by omega)
theorem built61 : (Tryd.prog.built 61 []).map (fun c => (c.size, chk c.toList 65536)) = some (66560, true) := by kernel_rfl
theorem wpList_build_eq {P : Program} {ops : Array Oper} {rest : List Oper} {o : Oper} {a : Act} {w : World} {Q : Exit → Act → World → Prop} (hgd : o.guard = none) (ty : TypeId) (ho : o.op = .build ty #[])
    (v : Value) (hrun : (Instr.build ty #[]).run P w = .ok v w) (h : wpList P ops Q rest (a.put o.dst v) w) : wpList P ops Q (o :: rest) a w :=
  wpList_plain hgd fun K hK => by
    have : o.wp P a w K Q := by
      unfold Oper.wp execOp
      simp only [ho, Sem.run_bind, List.map_toArray, List.map_nil, hrun, Result.andThen_ok]
      exact hK _ _ h
    exact this
theorem wpList_box_eq {P : Program} {ops : Array Oper} {rest : List Oper} {o : Oper} {a : Act} {w w' : World} {Q : Exit → Act → World → Prop} (hgd : o.guard = none) (ty : TypeId) (x : Operand) (ho : o.op = .box ty x)
    (v v0 : Value) (hx : a.eval x = v0) (hrun : (Instr.box ty v0).run P w = .ok v w') (h : wpList P ops Q rest (a.put o.dst v) w') : wpList P ops Q (o :: rest) a w :=
  wpList_plain hgd fun K hK => by
    have : o.wp P a w K Q := by
      unfold Oper.wp execOp
      simp only [ho, hx, Sem.run_bind, hrun, Result.andThen_ok]
      exact hK _ _ h
    exact this
theorem new_any (w : World) : Calls Tryd.prog 17 #[] w fun e w' => e = .returned (.pointer (some ⟨w.heap.size, 0, none⟩)) ∧ ImgAt w' w.heap.size (fun _ => 0) (fun _ => 0) ∧ w'.heap.size = w.heap.size + 1 ∧ Below w.heap.size w w' := by
  obtain ⟨Z, hZ, hc⟩ := Option.map_eq_some_iff.1 built61
  simp only [Prod.mk.injEq] at hc
  obtain ⟨hs, hc⟩ := hc
  have hb := run_build (P := Tryd.prog) w 61 #[] Z hZ
  have hx : (Instr.box 61 (.agg Z)).run Tryd.prog w = .ok (.pointer (some ⟨w.heap.size, 0, none⟩)) (w.alloc (.cells Z 61)) := by
    simp [Instr.box, newVar, newRow, Value.cells, go_sem]
  have fin : ImgAt (w.alloc (.cells Z 61)) w.heap.size (fun _ => 0) (fun _ => 0) := by
    refine ⟨Z, World.alloc_heap_new w _, hs, fun i hi => ?_, fun j hj => ?_⟩
    · have := chk_low Z.toList 65536 i hc (by simp [hs]; omega) hi
      simpa using this
    · have := chk_high Z.toList 65536 (65536 + j) hc (by simp [hs]; omega) (by omega)
      simpa using this
  go_enter Tryd.func17, Tryd.ntmps17
  go_wp2_with (first | (with_reducible refine wpList_build_eq rfl 61 rfl _ hb ?_) | (with_reducible refine wpList_box_eq rfl 61 _ rfl _ _ rfl hx ?_))
  go_ret
  exact ⟨rfl, fin, by simp, (Below.refl _ _).alloc (Nat.le_refl _) _⟩
end Go.Proofs.YtgcjioncfldgcaaDoor.I

/- When two events, two stamps are equal; a row of one event built. -/
import Derived.Test.YtcfglfnncpcfoaaLd
import Derived.Laws.StructEq
import Derived.Lib.Strings
namespace Go.Proofs.Ytcfglfnncpcfoaa
open Go.RowKit
theorem Try.fields23 : Try.prog.underlying 23 = some (.struct (Try.prog.fieldsOf 23)) := by kernel_rfl
theorem Try.fields25 : Try.prog.underlying 25 = some (.struct (Try.prog.fieldsOf 25)) := by kernel_rfl
theorem Try.fields27 : Try.prog.underlying 27 = some (.struct (Try.prog.fieldsOf 27)) := by kernel_rfl
theorem eq25 (d : Nat) (a b x y : Int) (w : World) : (Op.equalIn (d + 2) 25 (.agg #[.int .i64 a, .int .i64 b]) (.agg #[.int .i64 x, .int .i64 y])).run Try.prog w = .ok (decide (a = x ∧ b = y)) w := by
  have u3 := Try.underlying3
  have a3 := Try.isAgg3
  have z3 := Try.sizeOf3
  rw [run_equalIn_agg w (d + 1) 25 _ _ Try.fields25 (by kernel_rfl)]
  simp only [Program.fieldsOf, Try.underlying25]
  go_simp
  by_cases h1 : a = x <;> by_cases h2 : b = y <;> simp [h1, h2]
theorem eq23 (d : Nat) (a b c x y z : Int) (w : World) : (Op.equalIn (d + 2) 23 (.agg #[.int .i64 a, .int .i64 b, .int .i64 c]) (.agg #[.int .i64 x, .int .i64 y, .int .i64 z])).run Try.prog w = .ok (decide (a = x ∧ b = y ∧ c = z)) w := by
  have u3 := Try.underlying3
  have a3 := Try.isAgg3
  have z3 := Try.sizeOf3
  rw [run_equalIn_agg w (d + 1) 23 _ _ Try.fields23 (by kernel_rfl)]
  simp only [Program.fieldsOf, Try.underlying23]
  go_simp
  by_cases h1 : a = x <;> by_cases h2 : b = y <;> by_cases h3 : c = z <;> simp [h1, h2, h3]
set_option maxHeartbeats 1000000 in
set_option maxRecDepth 100000 in
theorem eq27 (x y : Ev) (w : World) : (Op.equalIn 10000 27 (evl x) (evl y)).run Try.prog w = .ok (decide (x = y)) w := by
  have u3 := Try.underlying3
  have a3 := Try.isAgg3
  have z3 := Try.sizeOf3
  have u9 := Try.underlying9
  have a9 := Try.isAgg9
  have z9 := Try.sizeOf9
  have a23 := Try.isAgg23
  have a25 := Try.isAgg25
  have z23 := Try.sizeOf23
  have z25 := Try.sizeOf25
  rw [show (10000 : Nat) = 9999 + 1 from rfl, run_equalIn_agg w 9999 27 _ _ Try.fields27 (by kernel_rfl)]
  simp only [Program.fieldsOf, Try.underlying27]
  have e25 : ∀ a b c d w, (Op.equalIn 9999 25 (.agg #[.int .i64 a, .int .i64 b]) (.agg #[.int .i64 c, .int .i64 d])).run Try.prog w = _ := fun a b c d w => eq25 9997 a b c d w
  have e23 : ∀ a b c d e f w, (Op.equalIn 9999 23 (.agg #[.int .i64 a, .int .i64 b, .int .i64 c]) (.agg #[.int .i64 d, .int .i64 e, .int .i64 f])).run Try.prog w = _ := fun a b c d e f w => eq23 9997 a b c d e f w
  go_simp
  obtain ⟨x1, x2, x3, x4, x5, x6, x7, x8, x9, x10, x11, x12, x13, x14, x15, x16, x17, x18⟩ := x
  obtain ⟨y1, y2, y3, y4, y5, y6, y7, y8, y9, y10, y11, y12, y13, y14, y15, y16, y17, y18⟩ := y
  simp only [Ev.mk.injEq]
  by_cases h1 : x1 = y1
  case neg => simp [h1]
  by_cases h2 : x2 = y2
  case neg => simp [h1, h2]
  by_cases h3 : x3 = y3
  case neg => simp [h1, h2, h3]
  by_cases h4 : x4 = y4
  case neg => simp [h1, h2, h3, h4]
  by_cases h5 : x5 = y5
  case neg => simp [h1, h2, h3, h4, h5]
  by_cases h6 : x6 = y6
  case neg => simp [h1, h2, h3, h4, h5, h6]
  by_cases h7 : x7 = y7
  case neg => simp [h1, h2, h3, h4, h5, h6, h7]
  by_cases h8 : x8 = y8
  case neg => simp [h1, h2, h3, h4, h5, h6, h7, h8]
  by_cases h9 : x9 = y9
  case neg => simp [h1, h2, h3, h4, h5, h6, h7, h8, h9]
  by_cases h10 : x10 = y10
  case neg => simp [h1, h2, h3, h4, h5, h6, h7, h8, h9, h10]
  by_cases h11 : x11 = y11
  case neg => simp [h1, h2, h3, h4, h5, h6, h7, h8, h9, h10, h11]
  by_cases h12 : x12 = y12
  case neg => simp [h1, h2, h3, h4, h5, h6, h7, h8, h9, h10, h11, h12]
  by_cases h13 : x13 = y13
  case neg => simp [h1, h2, h3, h4, h5, h6, h7, h8, h9, h10, h11, h12, h13]
  by_cases h14 : x14 = y14
  case neg => simp [h1, h2, h3, h4, h5, h6, h7, h8, h9, h10, h11, h12, h13, h14]
  by_cases h15 : x15 = y15
  case neg => simp [h1, h2, h3, h4, h5, h6, h7, h8, h9, h10, h11, h12, h13, h14, h15]
  by_cases h16 : x16 = y16
  case neg => simp [h1, h2, h3, h4, h5, h6, h7, h8, h9, h10, h11, h12, h13, h14, h15, h16]
  by_cases h17 : x17 = y17
  case neg => simp [h1, h2, h3, h4, h5, h6, h7, h8, h9, h10, h11, h12, h13, h14, h15, h16, h17]
  by_cases h18 : x18 = y18
  case neg =>
    have hl : ¬ x18.toList = y18.toList := fun e => h18 (ByteArray.ext (Array.ext' (by rwa [Lib.toList_data, Lib.toList_data] at e)))
    simp [h1, h2, h3, h4, h5, h6, h7, h8, h9, h10, h11, h12, h13, h14, h15, h16, h17, h18, hl]
  simp [h1, h2, h3, h4, h5, h6, h7, h8, h9, h10, h11, h12, h13, h14, h15, h16, h17, h18]
theorem Try.guard27 : Try.prog.eqGuardType Try.prog.depth 27 = false := by kernel_rfl
theorem Try.guard23 : Try.prog.eqGuardType Try.prog.depth 23 = false := by kernel_rfl
theorem guard_ev (p q : Operand) (x y : Ev) (w : World) (op : BinOp) : (eqGuard op 27 p q (ev x) (ev y)).run Try.prog w = .ok () w := by
  have h := Try.guard27
  unfold eqGuard ev
  cases op <;> simp [h]
theorem guard_st (p q : Operand) (a b c x y z : Int) (w : World) (op : BinOp) : (eqGuard op 23 p q (sv a b c) (sv x y z)).run Try.prog w = .ok () w := by
  have h := Try.guard23
  unfold eqGuard sv
  cases op <;> simp [h]
theorem run_eq_ev (x y : Ev) (w : World) : (binOp .eql 27 (ev x) (ev y)).run Try.prog w = .ok (.bool (decide (x = y))) w := by
  have h := eq27 x y w
  simp [binOp, Op.equal, Op.maxDepth, ev_evl, h]
theorem run_neq_ev (x y : Ev) (w : World) : (binOp .neq 27 (ev x) (ev y)).run Try.prog w = .ok (.bool (!decide (x = y))) w := by
  have h := eq27 x y w
  simp [binOp, Op.equal, Op.maxDepth, ev_evl, h]
theorem run_eq_st (a b c x y z : Int) (w : World) : (binOp .eql 23 (sv a b c) (sv x y z)).run Try.prog w = .ok (.bool (decide (a = x ∧ b = y ∧ c = z))) w := by
  have h := eq23 9998 a b c x y z w
  simp [binOp, Op.equal, Op.maxDepth, h]
theorem exec_bin {o : Oper} {a : Act} {w : World} {op : BinOp} {t tt : TypeId} {p q : Operand} {u v r : Value} (ho : o.op = .binOp op t p q tt) (hp : a.eval p = u) (hq : a.eval q = v) (hg : (eqGuard op t p q u v).run Try.prog w = .ok () w) (h : (binOp op t u v).run Try.prog w = .ok r w) : (execOp a.eval o).run Try.prog w = .ok (.value r) w := by
  unfold execOp
  simp only [ho, hp, hq, Sem.run_bind, hg, Result.andThen_ok, h, Sem.run_pure]
theorem yl_eq {ops : Array Oper} {S : World → Prop} {o : Oper} {a : Act} {tt : TypeId} (p q : Operand) (x y : Ev) (ho : o.op = .binOp .eql 27 p q tt) (hw : Region.wanted o (yielded ops a.tmps) = true) (hp : a.eval p = ev x) (hq : a.eval q = ev y) : YieldsIf Try.prog ops S o (.bool (decide (x = y))) a :=
  .inl ⟨hw, fun w _ => exec_bin ho hp hq (guard_ev p q x y w _) (run_eq_ev x y w)⟩
theorem yl_eqr {ops : Array Oper} {S : World → Prop} {o : Oper} {a : Act} {tt : TypeId} (p q : Operand) (x y : Ev) (r : Bool) (hr : decide (x = y) = r) (ho : o.op = .binOp .eql 27 p q tt) (hw : Region.wanted o (yielded ops a.tmps) = true) (hp : a.eval p = ev x) (hq : a.eval q = ev y) : YieldsIf Try.prog ops S o (.bool r) a := by
  subst hr
  exact yl_eq p q x y ho hw hp hq
theorem yl_neqr {ops : Array Oper} {S : World → Prop} {o : Oper} {a : Act} {tt : TypeId} (p q : Operand) (x y : Ev) (r : Bool) (hr : (!decide (x = y)) = r) (ho : o.op = .binOp .neq 27 p q tt) (hw : Region.wanted o (yielded ops a.tmps) = true) (hp : a.eval p = ev x) (hq : a.eval q = ev y) : YieldsIf Try.prog ops S o (.bool r) a := by
  subst hr
  exact .inl ⟨hw, fun w _ => exec_bin ho hp hq (guard_ev p q x y w _) (run_neq_ev x y w)⟩
theorem yl_eqsr {ops : Array Oper} {S : World → Prop} {o : Oper} {a : Act} {tt : TypeId} (p q : Operand) (a' b c x y z : Int) (r : Bool) (hr : decide (a' = x ∧ b = y ∧ c = z) = r) (ho : o.op = .binOp .eql 23 p q tt) (hw : Region.wanted o (yielded ops a.tmps) = true) (hp : a.eval p = sv a' b c) (hq : a.eval q = sv x y z) : YieldsIf Try.prog ops S o (.bool r) a := by
  subst hr
  exact .inl ⟨hw, fun w _ => exec_bin ho hp hq (guard_st p q a' b c x y z w _) (run_eq_st a' b c x y z w)⟩
theorem yl_neq {ops : Array Oper} {S : World → Prop} {o : Oper} {a : Act} {tt : TypeId} (p q : Operand) (x y : Ev) (ho : o.op = .binOp .neq 27 p q tt) (hw : Region.wanted o (yielded ops a.tmps) = true) (hp : a.eval p = ev x) (hq : a.eval q = ev y) : YieldsIf Try.prog ops S o (.bool (!decide (x = y))) a :=
  .inl ⟨hw, fun w _ => exec_bin ho hp hq (guard_ev p q x y w _) (run_neq_ev x y w)⟩
theorem yl_eqs {ops : Array Oper} {S : World → Prop} {o : Oper} {a : Act} {tt : TypeId} (p q : Operand) (a' b c x y z : Int) (ho : o.op = .binOp .eql 23 p q tt) (hw : Region.wanted o (yielded ops a.tmps) = true) (hp : a.eval p = sv a' b c) (hq : a.eval q = sv x y z) : YieldsIf Try.prog ops S o (.bool (decide (a' = x ∧ b = y ∧ c = z))) a :=
  .inl ⟨hw, fun w _ => exec_bin ho hp hq (guard_st p q a' b c x y z w _) (run_eq_st a' b c x y z w)⟩
theorem run_build1 (e : Ev) (w : World) : (Instr.buildSlice 55 1 #[(0, ev e)]).run Try.prog w = .ok (.slice (some ⟨w.heap.size, 0, none⟩) 1 1) (w.alloc (.cells (ec e).toArray 27)) := by
  cases e
  kernel_rfl
theorem run_build2 (e f : Ev) (w : World) : (Instr.buildSlice 55 2 #[(0, ev e), (1, ev f)]).run Try.prog w = .ok (.slice (some ⟨w.heap.size, 0, none⟩) 2 2) (w.alloc (.cells (ecs [e, f]).toArray 27)) := by
  cases e
  cases f
  kernel_rfl
theorem step_build1 {ops : Array Oper} {o : Oper} {a : Act} {w : World} {K : Act → World → Prop} {Q : Exit → Act → World → Prop} {E : Prop} (x : Operand) (e : Ev) (ho : o.op = .buildSlice 55 1 #[(0, x)]) (hw : Region.wanted o (yielded ops a.tmps) = true) (hx : a.eval x = ev e)
    (h : K (a.put o.dst (.slice (some ⟨w.heap.size, 0, none⟩) 1 1)) (w.alloc (.cells (ec e).toArray 27))) : if Region.wanted o (yielded ops a.tmps) = true then Oper.wp Try.prog o a w K Q else E := by
  rw [if_pos hw]
  have hr := run_build1 e w
  unfold Oper.wp execOp
  simp [ho, hx, hr]
  exact h
end Go.Proofs.Ytcfglfnncpcfoaa

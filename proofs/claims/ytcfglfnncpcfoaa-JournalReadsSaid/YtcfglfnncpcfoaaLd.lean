/- A whole event loaded, stored, boxed: laws for the walk. -/
import Derived.Test.YtcfglfnncpcfoaaCmp
import Derived.Deep.RegionHeld3
import Derived.Deep.RegionWith
import Derived.Deep.RegionLaw
import Derived.Deep.DeepCutAuto
namespace Go.Proofs.Ytcfglfnncpcfoaa
open Go.RowKit
theorem ev_evl (e : Ev) : ev e = evl e := rfl
theorem Try.size27 : (Try.prog.info? 27).map (·.size) = some 18 := by kernel_rfl
theorem run_load_ev {w : World} {b o : Nat} {e : Ev} (h : EvAt w b o e) : (loadVar 27 ⟨b, o, none⟩).run Try.prog w = .ok (ev e) w := by
  have hl : (loadCells ⟨b, o, none⟩ (ec e).length).run Try.prog w = .ok (ec e).toArray w :=
    run_loadCells_list (P := Try.prog) w ⟨b, o, none⟩ (ec e) (fun j v hv => by
      rw [Addr.add_lit]
      exact h j v hv)
  rw [ec_length] at hl
  have hagg := Try.isAgg27
  have hi := Try.size27
  cases hq : Try.prog.info? 27 with
  | none => simp [hq] at hi
  | some i =>
    have hs : i.size = 18 := by simpa [hq] using hi
    simp [loadVar, Sem.run_bind, hagg, sizeOf, typeInfo, hq, hs, hl, ev]
theorem exec_load_ev {o : Oper} {a : Act} {w : World} {x : Operand} {b f : Nat} {e : Ev} (ho : o.op = .load 27 x) (hx : a.eval x = .pointer (some ⟨b, f, none⟩)) (h : EvAt w b f e) : (execOp a.eval o).run Try.prog w = .ok (.value (ev e)) w := by
  unfold execOp
  simp only [ho, hx, Instr.loadAt, Instr.sureAddr, Sem.run_bind, Sem.run_pure, Result.andThen_ok, run_load_ev h]
theorem wp_load_ev {o : Oper} {a : Act} {w : World} {K : Act → World → Prop} {Q : Exit → Act → World → Prop} {x : Operand} {b f : Nat} {e : Ev} (ho : o.op = .load 27 x) (hx : a.eval x = .pointer (some ⟨b, f, none⟩)) (h : EvAt w b f e)
    (hk : K (a.put o.dst (ev e)) w) : o.wp Try.prog a w K Q := by
  unfold Oper.wp
  rw [exec_load_ev ho hx h]
  exact hk
theorem wpList_load_ev {ops : Array Oper} {rest : List Oper} {o : Oper} {a : Act} {w : World} {Q : Exit → Act → World → Prop} (hgd : o.guard = none) (x : Operand) (ho : o.op = .load 27 x) (b f : Nat) (e : Ev) (hx : a.eval x = .pointer (some ⟨b, f, none⟩)) (h : EvAt w b f e)
    (hk : wpList Try.prog ops Q rest (a.put o.dst (ev e)) w) : wpList Try.prog ops Q (o :: rest) a w :=
  wpList_plain hgd fun _ hK => wp_load_ev ho hx h (hK _ _ hk)
theorem wpList_load_evG {ops : Array Oper} {rest : List Oper} {o : Oper} {a : Act} {w : World} {Q : Exit → Act → World → Prop} (hw : Region.wanted o (yielded ops a.tmps) = true) (x : Operand) (ho : o.op = .load 27 x) (b f : Nat) (e : Ev) (hx : a.eval x = .pointer (some ⟨b, f, none⟩)) (h : EvAt w b f e)
    (hk : wpList Try.prog ops Q rest (a.put o.dst (ev e)) w) : wpList Try.prog ops Q (o :: rest) a w :=
  wpList_step fun _ hK => by
    rw [if_pos hw]
    exact wp_load_ev ho hx h (hK _ _ hk)
theorem wpStill_load_ev {ops : Array Oper} {rest : List Oper} {o : Oper} {a : Act} {w : World} {Q : Act → Prop} (x : Operand) (b f : Nat) (e : Ev) (ho : o.op = .load 27 x) (hw : Region.wanted o (yielded ops a.tmps) = true) (hx : a.eval x = .pointer (some ⟨b, f, none⟩)) (h : EvAt w b f e)
    (hk : wpStill Try.prog ops w Q rest (a.put o.dst (ev e))) : wpStill Try.prog ops w Q (o :: rest) a := by
  unfold wpStill
  rw [if_pos hw]
  unfold Oper.still
  rw [exec_load_ev ho hx h, Oper.stillUpon_value]
  exact hk
theorem yl_ev {ops : Array Oper} {S : World → Prop} {o : Oper} {a : Act} (x : Operand) (b f : Nat) (e : Ev) (ho : o.op = .load 27 x) (hw : Region.wanted o (yielded ops a.tmps) = true) (hx : a.eval x = .pointer (some ⟨b, f, none⟩)) (h : ∀ w, S w → EvAt w b f e) : YieldsIf Try.prog ops S o (ev e) a :=
  .inl ⟨hw, fun w hS => exec_load_ev ho hx (h w hS)⟩
theorem take1_ev (e : Ev) (x y z : Int) (w : World) : Calls Try.prog 46 #[ev e, sv x y z] w fun r w' => r = .returned (.int .i64 (cmpS e.t e.s e.n x y z)) ∧ Keeps [] w w' := take1_any e x y z w
theorem settle1_ev (e : Ev) (x : Int) (w : World) : Calls Try.prog 50 #[ev e, .int .i64 x] w fun r w' => r = .returned (.int .i64 (if x < e.t then 1 else -1)) ∧ Keeps [] w w' := settle1_any e x w
/-- A stamp loaded. -/
theorem Try.size23 : (Try.prog.info? 23).map (·.size) = some 3 := by kernel_rfl
def StAt (w : World) (b o : Nat) (x y z : Int) : Prop := w.cell? ⟨b, o, none⟩ = some (.int .i64 x) ∧ w.cell? ⟨b, o + 1, none⟩ = some (.int .i64 y) ∧ w.cell? ⟨b, o + 2, none⟩ = some (.int .i64 z)
theorem StAt.keep {w w' : World} {b o : Nat} {x y z : Int} (h : StAt w b o x y z) (k : Keeps [] w w') : StAt w' b o x y z := ⟨k.cell h.1, k.cell h.2.1, k.cell h.2.2⟩
theorem EvAt.st {w : World} {b o : Nat} {e : Ev} (h : EvAt w b o e) : StAt w b o e.t e.s e.n := h.stamp
theorem StAt.box {w : World} {b : Nat} {t : TypeId} {x y z : Int} (h : Bk w b t #[.int .i64 x, .int .i64 y, .int .i64 z]) : StAt w b 0 x y z := ⟨h.cell 0, h.cell 1, h.cell 2⟩
theorem run_load_st {w : World} {b o : Nat} {x y z : Int} (h : StAt w b o x y z) : (loadVar 23 ⟨b, o, none⟩).run Try.prog w = .ok (sv x y z) w := by
  have hl : (loadCells ⟨b, o, none⟩ 3).run Try.prog w = .ok #[.int .i64 x, .int .i64 y, .int .i64 z] w :=
    run_loadCells_list (P := Try.prog) w ⟨b, o, none⟩ [.int .i64 x, .int .i64 y, .int .i64 z] (fun j v hv => by
      rw [Addr.add_lit]
      match j, hv with
      | 0, hv => simp at hv; subst hv; exact h.1
      | 1, hv => simp at hv; subst hv; exact h.2.1
      | 2, hv => simp at hv; subst hv; exact h.2.2
      | j + 3, hv => simp at hv)
  have hagg := Try.isAgg23
  have hi := Try.size23
  cases hq : Try.prog.info? 23 with
  | none => simp [hq] at hi
  | some i =>
    have hs : i.size = 3 := by simpa [hq] using hi
    simp [loadVar, Sem.run_bind, hagg, sizeOf, typeInfo, hq, hs, hl, sv]
theorem exec_load_st {o : Oper} {a : Act} {w : World} {p : Operand} {b f : Nat} {x y z : Int} (ho : o.op = .load 23 p) (hx : a.eval p = .pointer (some ⟨b, f, none⟩)) (h : StAt w b f x y z) : (execOp a.eval o).run Try.prog w = .ok (.value (sv x y z)) w := by
  unfold execOp
  simp only [ho, hx, Instr.loadAt, Instr.sureAddr, Sem.run_bind, Sem.run_pure, Result.andThen_ok, run_load_st h]
theorem yl_st {ops : Array Oper} {S : World → Prop} {o : Oper} {a : Act} (p : Operand) (b f : Nat) (x y z : Int) (ho : o.op = .load 23 p) (hw : Region.wanted o (yielded ops a.tmps) = true) (hx : a.eval p = .pointer (some ⟨b, f, none⟩)) (h : ∀ w, S w → StAt w b f x y z) : YieldsIf Try.prog ops S o (sv x y z) a :=
  .inl ⟨hw, fun w hS => exec_load_st ho hx (h w hS)⟩
/-- Any one cell loaded. -/
theorem yl_cell {ops : Array Oper} {S : World → Prop} {o : Oper} {a : Act} {v : Value} (t : TypeId) (p : Operand) (b f : Nat) (ho : o.op = .load t p) (hagg : ∀ w, (isAgg t).run Try.prog w = .ok false w) (hw : Region.wanted o (yielded ops a.tmps) = true) (hx : a.eval p = .pointer (some ⟨b, f, none⟩)) (h : ∀ w, S w → w.cell? ⟨b, f, none⟩ = some v) : YieldsIf Try.prog ops S o v a :=
  .inl ⟨hw, fun w hS => by
    unfold execOp
    simp [ho, hx, Instr.loadAt, Instr.sureAddr, loadVar, hagg, h w hS]⟩
end Go.Proofs.Ytcfglfnncpcfoaa

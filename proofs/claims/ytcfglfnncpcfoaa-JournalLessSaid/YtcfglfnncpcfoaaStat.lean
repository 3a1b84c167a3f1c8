/- A store of a struct into a row of cells. -/
import Derived.Test.YtcfglfnncpcfoaaPlays
namespace Go.Proofs.Ytcfglfnncpcfoaa
open Go.RowKit
theorem wpList_store_at {w : World} {ops : Array Oper} {rest : List Oper} {o : Oper} {a : Act} {Q : Exit → Act → World → Prop} (hgd : o.guard = none) (tt : TypeId) (p y : Operand) (ho : o.op = .store tt p y) (g off : Nat) (vs : List Value) (ho1 : ∀ v ∈ vs, v.oneCell' = true) (hp : a.eval p = .pointer (some ⟨g, off, none⟩)) (hy : a.eval y = .agg vs.toArray) (t : TypeId) (cur : Array Value) (hg : Bk w g t cur) (hs : off + vs.length ≤ cur.size) (hz : ∀ w, (sizeOf tt).run Try.prog w = .ok vs.length w)
    (h : ∀ new : Array Value, new.size = cur.size → wpList Try.prog ops Q rest (a.put o.dst undef) (w.setRow g new)) : wpList Try.prog ops Q (o :: rest) a w := by
  have hst := run_storeCells_at Try.prog g off t vs 0 cur w hg (by omega) ho1
  have hn := h (cur.toList.take (off + 0) ++ vs ++ cur.toList.drop (off + 0 + vs.length)).toArray (by simp; omega)
  refine wpList_plain hgd fun _ hK => ?_
  have hc : (Value.agg vs.toArray).cells = vs.toArray := rfl
  generalize (cur.toList.take (off + 0) ++ vs ++ cur.toList.drop (off + 0 + vs.length)).toArray = new at hst hn
  unfold Oper.wp execOp
  simp [ho, hp, hy, Instr.storeAt, Instr.sureAddr, storeVar, hc, hz, hst]
  exact hK _ _ hn
theorem sizeOf27 (w : World) : (sizeOf 27).run Try.prog w = .ok 18 w := by kernel_rfl
end Go.Proofs.Ytcfglfnncpcfoaa

/- slices.Insert of one event. -/
import Derived.Test.YtcfglfnncpcfoaaLd
import Derived.Laws.CopyRow
import Derived.Laws.Externs
import Derived.Lib.Overlaps
import Derived.Lib.Walk
import Derived.Lib.AppendZerosOnto
import Derived.StillTailTactics
namespace Go.Proofs.Ytcfglfnncpcfoaa
open Go.RowKit
/-- The row with cs written over it from place o on. -/
def spl (X : List Value) (o : Nat) (cs : List Value) : List Value := X.take o ++ cs ++ X.drop (o + cs.length)
theorem spl_length (X : List Value) (o : Nat) (cs : List Value) (h : o + cs.length ≤ X.length) : (spl X o cs).length = X.length := by
  unfold spl
  rw [List.length_append, List.length_append, List.length_take, List.length_drop]
  omega
theorem spl_take (X : List Value) (o : Nat) (cs : List Value) (h : o ≤ X.length) : (spl X o cs).take o = X.take o := by
  unfold spl
  rw [List.append_assoc, List.take_left' (by rw [List.length_take]; omega)]
theorem spl_drop (X : List Value) (o : Nat) (cs : List Value) (h : o ≤ X.length) : (spl X o cs).drop o = cs ++ X.drop (o + cs.length) := by
  unfold spl
  rw [List.append_assoc, List.drop_left' (by rw [List.length_take]; omega)]
theorem spl_upto (X : List Value) (o : Nat) (cs : List Value) (h : o ≤ X.length) : (spl X o cs).take (o + cs.length) = X.take o ++ cs := by
  unfold spl
  rw [List.take_left' (by rw [List.length_append, List.length_take]; omega)]
/-- Shifted, then written. -/
theorem spl_shift (X E D : List Value) (p : Nat) (h : p + E.length + D.length ≤ X.length) : (spl (spl X (p + E.length) D) p E).take (p + E.length + D.length) = X.take p ++ (E ++ D) := by
  have h1 : p ≤ (spl X (p + E.length) D).length := by rw [spl_length _ _ _ (by omega)]; omega
  have h2 : (spl X (p + E.length) D).take p = X.take p := by
    have := spl_take X (p + E.length) D (by omega)
    have h3 := congrArg (List.take p) this
    rw [List.take_take, List.take_take, Nat.min_eq_left (by omega)] at h3
    exact h3
  have h4 : spl (spl X (p + E.length) D) p E = X.take p ++ (E ++ (D ++ X.drop (p + E.length + D.length))) := by
    rw [spl, h2, spl_drop _ _ _ (by omega), List.append_assoc]
  rw [h4, ← List.append_assoc E, ← List.append_assoc (X.take p), List.take_left' (by rw [List.length_append, List.length_append, List.length_take]; omega)]
/-- Written, then what came behind. -/
theorem spl_after (X E D : List Value) (p : Nat) (h : p + E.length + D.length ≤ X.length) : (spl (spl X p E) (p + E.length) D).take (p + E.length + D.length) = X.take p ++ (E ++ D) := by
  have h1 : p + E.length ≤ (spl X p E).length := by rw [spl_length _ _ _ (by omega)]; omega
  rw [spl_upto _ _ _ h1, spl_upto _ _ _ (by omega), List.append_assoc]
section
variable {P : Program} (w : World)
theorem run_copy_rowN (dT sT ty elem : TypeId) (sz g o dLen dCap : Nat) (a : Addr) (sLen sCap : Nat) (cur : Array Value) (t : TypeId) (cs : List Value)
    (hu : P.underlying dT = some (.slice elem)) (hs : (P.info? elem).map (·.size) = some sz)
    (hg : w.heap[g]? = some (.cells cur t (0, 0))) (hn : cs.length = Nat.min sLen dLen * sz)
    (hsrc : ∀ j v, cs[j]? = some v → w.cell? (a.add j) = some v) (hfit : o + cs.length ≤ cur.size) (h1 : ∀ v ∈ cs, v.oneCell' = true) :
    (Builtin.copy_ #[dT, sT] ty #[.slice (some ⟨g, o, none⟩) dLen dCap, .slice (some a) sLen sCap]).run P w =
      .ok (goInt (Nat.min sLen dLen)) (w.setRow g (spl cur.toList o cs).toArray) := by
  have hl := run_loadCells_list (P := P) w a cs hsrc
  have hst := run_storeCells_at P g o t cs 0 cur w hg (by simpa using hfit) h1
  cases hq : P.info? elem with
  | none => simp [hq] at hs
  | some i =>
    have hi : i.size = sz := by simpa [hq] using hs
    rw [hn] at hl
    simp [Builtin.copy_, run_underlying hu, Builtin.lenOf, Builtin.firstCells, sizeOf, typeInfo, hq, hi, hl, hst, spl]
theorem wp_copy_rowN {o : Oper} {a : Act} {K : Act → World → Prop} {Q : Exit → Act → World → Prop} (d s : Operand) (t t' : TypeId)
    (ho : o.op = .call { callee := .builtin .copy, args := #[d, s], argTypes := #[t, t'] }) {v u v' : Value} {w' : World} (hd : a.eval d = v) (hs : a.eval s = u)
    (hr : (Builtin.copy_ #[t, t'] o.type #[v, u]).run P w = .ok v' w') (h : K (a.put o.dst v') w') : o.wp P a w K Q := by
  unfold Oper.wp execOp
  simp only [ho, resolve, invoke, builtin, Sem.run_bind, Sem.run_pure, Result.andThen_ok, List.map_toArray, List.map_cons, List.map_nil, hd, hs, hr]
  exact h
theorem wpList_copy_rowN {ops : Array Oper} {rest : List Oper} {o : Oper} {a : Act} {Q : Exit → Act → World → Prop} (hgd : o.guard = none) (d s : Operand) (t t' : TypeId)
    (ho : o.op = .call { callee := .builtin .copy, args := #[d, s], argTypes := #[t, t'] }) (sz elem : Nat) (g f dLen dCap : Nat) (ad : Addr) (sLen sCap : Nat) (cur : Array Value) (te : TypeId) (cs : List Value)
    (hd : a.eval d = .slice (some ⟨g, f, none⟩) dLen dCap) (hs : a.eval s = .slice (some ad) sLen sCap)
    (hu : P.underlying t = some (.slice elem)) (hsz : (P.info? elem).map (·.size) = some sz)
    (hg : w.heap[g]? = some (.cells cur te (0, 0))) (hn : cs.length = Nat.min sLen dLen * sz)
    (hsrc : ∀ j v, cs[j]? = some v → w.cell? (ad.add j) = some v) (hfit : f + cs.length ≤ cur.size) (h1 : ∀ v ∈ cs, v.oneCell' = true)
    (h : wpList P ops Q rest (a.put o.dst (goInt (Nat.min sLen dLen))) (w.setRow g (spl cur.toList f cs).toArray)) : wpList P ops Q (o :: rest) a w :=
  wpList_plain hgd fun _ hK => wp_copy_rowN w d s t t' ho hd hs (run_copy_rowN w t t' o.type elem sz g f dLen dCap ad sLen sCap cur te cs hu hsz hg hn hsrc hfit h1) (hK _ _ h)
theorem wpList_zeros_row {ops : Array Oper} {rest : List Oper} {o : Oper} {a : Act} {Q : Exit → Act → World → Prop} (hgd : o.guard = none) (s x : Operand) (t tn : TypeId)
    (ho : o.op = .call { callee := .builtin .append, args := #[s, x], argTypes := #[t, tn] })
    (e : TypeId) (i : TypeInfo) (z : Value) (kq kn : IntKind) (ht : P.underlying t = some (.slice e)) (htn : P.underlying tn = some (.int kn)) (hi : P.info? e = some i) (hz : i.zero = some z) (hpos : 0 < i.size)
    (ad : Addr) (n c k : Nat) (olds : List Value) (hs : a.eval s = .slice (some ad) n c) (hx : a.eval x = .int kq (k : Int)) (hol : olds.length = n * i.size)
    (hold : ∀ j v, olds[j]? = some v → w.cell? (ad.add j) = some v) (hk : 0 < k) (hg : c < n + k) (h63 : ((n + k : Nat) : Int) ≤ 9223372036854775807) (h47 : (n + k) * i.bytes ≤ 140737488355328)
    (h : wpList P ops Q rest (a.put o.dst (.slice (some ⟨w.heap.size, 0, none⟩) (n + k) (grownCap w (n + k) c e))) (w.drew.alloc (.cells (olds.toArray ++ Builtin.zeroCells z.cells k ++ Builtin.zeroCells z.cells (grownCap w (n + k) c e - (n + k))) e))) :
    wpList P ops Q (o :: rest) a w := by
  have hcells : (Builtin.firstCells i.size n (.slice (some ad) n c)).run P w.drew = .ok olds.toArray w.drew := run_firstCells_some w.drew i.size n ad n c olds hol hold
  have hkb : k * i.bytes ≤ 140737488355328 := Nat.le_trans (Nat.mul_le_mul_right _ (by omega)) h47
  have hr := Lib.run_append_grow_zeros (P := P) w t tn o.type e i z kq kn ht htn hi hz (some ad) n c olds hcells k hk hpos hg h63 (by omega) (growslice_fits hg h47)
  exact Lib.wpList_append_run w hgd s x t tn ho _ _ hs hx _ _ hr h
end
end Go.Proofs.Ytcfglfnncpcfoaa

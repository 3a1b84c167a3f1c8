/- A law for a range over an iterator that keeps a number of its own in a cell (block Bn): the rounds' list xs is known ahead, no round leaves early. -/
import Derived.RangeFuncNested
import Derived.RangeFuncBound
import Derived.RangeFuncCalls
import Derived.RangeFuncLeaves
import Derived.Shelf.Abstract
import Derived.Shelf.RegionOpen
import Derived.WalkKit
import Derived.OwnWalkIn
import Derived.TacticsInMore
import Derived.LoopNIn
import Derived.LoopIn
import Derived.Test.YtcfglfnncpcfoaaRows
import Derived.Test.YtcfglfnncpcfoaaMem2
namespace Go.Proofs.Ytcfglfnncpcfoaa
open Go.RowKit Go.Shelf

section
variable {P : Program} {n : Nat}
/-- How a round's body ends: it goes on, and has left the iterator's own cell alone. -/
def roundEnd {α : Type} (Bn : Nat) (I : List α → World → Prop) (xs : List α) (W : World) : Exit → Act → World → Prop
  | .normal, _, W' => KeepsOthers W W' ∧ W'.heap[Bn]? = W.heap[Bn]? ∧ I xs W'
  | _, _, _ => False
/-- What an iterator with a cell of its own does: it hands out xs, one after the other. -/
def HandsOut {α : Type} (n : Nat) (P : Program) (Bn gf : Nat) (lb : Array Value) (encs : α → Array Value) (xs : List α) (o : Option Obj) : Prop :=
  ∀ (l : Nat) (J : List α → World → Prop) (W : World), W.heap[Bn]? = o →
    (∀ pre A B row, J pre A → A.grownBy B row → (∀ r, row = some r → r = Bn) → J pre B) →
    (∀ pre x W1, J pre W1 → pre ++ [x] <+: xs → YieldAt Fence.wide (n - 1) P l (encs x) W1 fun e W' => e = .returned (.bool true) ∧ J (pre ++ [x]) W' ∧ W'.heap[Bn]? = W1.heap[Bn]?) →
    J [] W → CallsIn Fence.wide n P gf (#[.func (.yield l) #[] #[]] ++ lb) W fun e W' => (∃ v, e = .returned v) ∧ J xs W'

theorem range_law {α : Type} {g : Operand} {ps : Array Tmp} {assign body : Code} {Q : Exit → Act → World → Prop} {a : Act} {w : World} (Bn : Nat) (hBn : Bn < w.heap.size)
    {gf : Nat} {lb : Array Value} (hg : a.eval g = .func (.func gf) #[] lb) (eg : ∀ args w, (callFunc gf args).run P w = .ok (.enter gf args) w)
    (encs : α → Array Value) (xs : List α) (hseq : HandsOut (n - 1) P Bn gf lb encs xs w.heap[Bn]?) (hps : ∀ x, (encs x).size = ps.size)
    (I : List α → World → Prop) (hI : ∀ s A B row, I s A → A.grownBy B row → (∀ r, row = some r → r = Bn ∨ (w.heap.size ≤ r ∧ ∃ o : Obj, A.heap[r]? = some o ∧ o.isCells = false)) → I s B)
    (h0 : I [] w) (a₁ : α → Act)
    (hassign : ∀ (l : Nat) (x : α) (W : World) (K : Act → World → Prop), K (a₁ x) W →
      assign.wpIn (Fence.wide.inRound l) (n - 1 - 1) P (Exit.then K (fun _ _ _ => False)) { tmps := (ps.zip (encs x)).foldl (fun t (p, v) => t.setIfInBounds p v) a.tmps, defers := [] } W)
    (hbody : ∀ (l : Nat) (pre : List α) (x : α) (W : World), I pre W → pre ++ [x] <+: xs → body.wpIn (Fence.wide.inRound l) (n - 1 - 1) P (roundEnd Bn I (pre ++ [x]) W) (a₁ x) W)
    (hdone : ∀ (D : Nat) (W : World), I xs W → W.heap[D]? = some (.deferred (some [])) → w.heap.size ≤ D → Q .normal { a with defers := { target := .collected D, args := #[] } :: a.defers } W) :
    (Code.rangeFunc g ps assign body).wpIn Fence.wide n P Q a w := by
  refine wpIn_rangeFunc fun fn hfn => ?_
  generalize hR : (fun (st : LoopState) (pe : Option Code) => ({ state := st, pending := pe, fn := fn, tmps := a.tmps, params := ps, assign := assign, body := body, defers := w.heap.size } : Loop)) = R
  generalize hW : (w.alloc (.deferred (some []))).alloc (.loop (R .ready none)) = W1
  have hput : ∀ {s : List α} {W : World} {k : Nat} {o : Obj} (o' : Obj), I s W → w.heap.size ≤ k → W.heap[k]? = some o → o.isCells = false → I s (W.putObj k o') := fun {s W k o} o' hs hk ho hc =>
    hI s W _ (some k) hs (grownBy_putObj' W k o') (fun r e => by cases e; exact .inr ⟨hk, o, ho, hc⟩)
  have hloop : W1.heap[w.heap.size + 1]? = some (.loop (R .ready none)) := by
    subst hW
    have h1 := World.alloc_heap_new (w.alloc (.deferred (some []))) (.loop (R .ready none))
    rwa [World.size_alloc] at h1
  have hdef : W1.heap[w.heap.size]? = some (.deferred (some [])) := by
    subst hW
    exact (Below.heap_alloc _ _ _ (by simp)).trans (World.alloc_heap_new w _)
  have hcell : W1.heap[Bn]? = w.heap[Bn]? := by
    subst hW
    exact (Below.heap_alloc _ _ _ (by simp; omega)).trans (Below.heap_alloc _ _ _ hBn)
  have hI1 : I [] W1 := by
    subst hW
    refine hI _ _ _ none (hI _ _ _ none h0 (World.grownBy_alloc w _ _) (fun _ e => by cases e)) (World.grownBy_alloc _ _ _) (fun _ e => by cases e)
  refine ⟨w.heap.size + 1, [{ target := .collected w.heap.size, args := #[] }], W1, { target := .fn (.func gf) lb, args := #[.func (.yield (w.heap.size + 1)) #[] #[]] }, W1, gf,
    #[.func (.yield (w.heap.size + 1)) #[] #[]] ++ lb, W1, ?_, ?_, ?_, ?_, fun h => (by cases h), ?_⟩
  · subst hW; subst hR; exact run_enterLoop_outer _ _ _ _ _
  · simp only [resolve, hg]
    simp [go_sem]
  · intro f' _; trivial
  · simp [invoke, go_sem, eg]
  · have hJ := hseq (w.heap.size + 1) (fun pre W => I pre W ∧ W.heap[w.heap.size + 1]? = some (.loop (R .ready none)) ∧ W.heap[w.heap.size]? = some (.deferred (some []))) W1 hcell
      (fun pre A B row hs hgr hr => by
        have far : ∀ k, Bn ≠ k → A.heap[k]? ≠ none → B.heap[k]? = A.heap[k]? := fun k hk hnn => by
          refine hgr.block k ?_ (fun e => hk (hr k e.symm).symm)
          rcases Nat.lt_or_ge k A.heap.size with h | h
          · exact h
          · exact absurd (Array.getElem?_eq_none h) hnn
        refine ⟨hI pre A B row hs.1 hgr (fun r e => .inl (hr r e)), (far _ (by omega) (by rw [hs.2.1]; simp)).trans hs.2.1, (far _ (by omega) (by rw [hs.2.2]; simp)).trans hs.2.2⟩)
    refine (hJ ?_ ⟨hI1, hloop, hdef⟩).mono ?_
    · rintro pre x W ⟨hi, hl, hk⟩ hpre
      have hlt : w.heap.size + 1 < W.heap.size := (Array.getElem?_eq_some_iff.1 hl).1
      have hy := run_yield (P := P) (args := encs x) hl (by subst hR; exact hps x)
      have hbeg := run_beginRound (P := P) hl (by subst hR; rfl)
      have hbusy : (W.putObj (w.heap.size + 1) (.loop { R .ready none with state := .busy })).heap[w.heap.size + 1]? = some (.loop { R .ready none with state := .busy }) := World.putObj_heap_same hlt
      have hk2 : (W.putObj (w.heap.size + 1) (.loop { R .ready none with state := .busy })).heap[w.heap.size]? = some (.deferred (some [])) := (World.putObj_heap_other (by omega)).trans hk
      have hn2 : (W.putObj (w.heap.size + 1) (.loop { R .ready none with state := .busy })).heap[Bn]? = W.heap[Bn]? := World.putObj_heap_other (by omega)
      have hb := hbody (w.heap.size + 1) pre x _ (hput (.loop { R .ready none with state := .busy }) hi (by omega) hl rfl) hpre
      subst hR
      refine ⟨fn, _, assign, body, hy, roundIn_of_wpIn hfn (hassign _ x W _ ⟨_, hbeg, wpIn_mono hb ?_⟩)⟩
      rintro e a3 W3 hp
      cases e with
      | normal =>
        obtain ⟨hk3, hn3, hi3⟩ := hp
        have hl3 := hk3.same _ _ hbusy rfl
        have hr := run_endRound (P := P) none hl3
        refine ⟨_, _, hr, rfl, ⟨hput _ hi3 (by omega) hl3 rfl, World.putObj_heap_same (Array.getElem?_eq_some_iff.1 hl3).1, (World.putObj_heap_other (by omega)).trans (hk3.same _ _ hk2 rfl)⟩, ?_⟩
        exact (World.putObj_heap_other (by omega)).trans (hn3.trans hn2)
      | ret => exact hp.elim
      | exit id => exact hp.elim
      | goto t => exact hp.elim
      | panic ch => exact hp.elim
      | outgrown => exact hp.elim
    · rintro e W2 ⟨⟨v, rfl⟩, hi, hl, hk⟩
      subst hR
      have hend := run_endLoop (P := P) hl (by simp)
      exact ⟨none, _, hend, hdone _ _ (hput _ hi (by omega) hl rfl) ((World.putObj_heap_other (by omega)).trans hk) (Nat.le_refl _)⟩
end
end Go.Proofs.Ytcfglfnncpcfoaa

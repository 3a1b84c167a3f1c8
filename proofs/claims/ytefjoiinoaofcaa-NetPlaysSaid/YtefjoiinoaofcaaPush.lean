/- The methods Push and Pop of *parcels; heap.Push and heap.Pop over a net's waiting copies. -/
import Derived.Test.YtefjoiinoaofcaaDown
import Derived.Deep.RegionHeld3
import Derived.IntWalk
namespace Go.Proofs.Ytefjoiinoaofcaa
open Go.RowKit

theorem Try.info67 : (Try.prog.info? 67).map (fun i => (i.zero, i.size, i.bytes)) = some (some (.agg #[.int .i64 0, .int .i64 0, .int .i64 0, .string ⟨#[]⟩, .int .i64 0, .int .i64 0]), 6, 56) := by kernel_rfl

theorem assert67 (x : Value) (w : World) : (Instr.typeAssert (.iface 67 x) 20 67 true).run Try.prog w = .ok (.tuple #[x, .bool true]) w := by kernel_rfl
set_option maxHeartbeats 800000 in
theorem push_any (g : Nat) (cs : Array Value) (v : Value) (L : List Par) (q : Par) (w : World) (hb : Bk w g 53 cs) (h : Wt w ⟨g, 2, none⟩ v L) (hn : L.length ≤ 1000000) :
    Calls Try.prog 47 #[.pointer (some ⟨g, 2, none⟩), .iface 67 (.agg q.cells.toArray)] w fun e w' => e = .returned (.tuple #[]) ∧
      ∃ v' w1, w1.setCell ⟨g, 2, none⟩ v' = w' ∧ Own w1 67 6 v' (L ++ [q]).length (pcs (L ++ [q])) ∧ w.grownBy w1 v.ownBlock ∧ (v'.ownBlock = v.ownBlock ∨ ∃ k, v'.ownBlock = some k ∧ w.heap.size ≤ k) := by
  obtain ⟨i0, hi, hz0, hz1, hz2⟩ := info_parts Try.info67
  obtain ⟨A, c, rfl⟩ := h.slice
  have hown := h.own
  have hc := h.cell
  have hf := hb.free 2
  have hg := hb.lt
  have hne : (Value.slice A L.length c).ownBlock ≠ some g := fun e => h.far g e rfl
  have HB := hide hb
  have HW := hide h
  clear h hb
  unfold Par.cells
  have hta := assert67
  go_enter Try.func47, Try.ntmps47
  go_wp2
  have hsrc : Src ((w.alloc (.cells q.cells.toArray 67)).alloc (.cells q.cells.toArray 67)).drew 6 (.slice (some ⟨w.heap.size + 1, 0, none⟩) 1 1) 1 q.cells :=
    Src.built (w.alloc (.cells q.cells.toArray 67)) 67 q.cells.toArray 6 1 rfl _ (by simp)
  have HS := hide hsrc
  have HO := hide hown
  have H1 := hide (pcs_one [q])
  have H2 := hide hz2
  clear hsrc hown hta hz2
  have e1 : pcs [q] = q.cells := by simp [pcs]
  rw [e1] at H1
  clear e1
  unfold Par.cells at HS H1
  go_region_law
    ((refine step_append_src _ (by rfl) _ _ _ (by rfl) 67 i0 _ 6 56 Try.underlying51 hi hz0 hz1 H2.out rfl (by omega) (.slice A L.length c) L.length (pcs L) (by rfl) ((HO.out.alloc _).alloc _).drew (.slice (some ⟨w.heap.size + 1, 0, none⟩) 1 1) 1 _ (by rfl) HS.out H1.out (by unfold maxLen; omega) (by omega) ?_; intro v1 w1 hown1 hg1 hat1; obtain ⟨k1, cap1, hv1, _⟩ := own_form hown1 (by omega); subst hv1
      have hf1 : w1.frozen? ⟨g, 2, none⟩ = false := (hg1.frozen_far ⟨g, 2, none⟩ (by simp; omega) (fun e => hne e.symm)).trans (by simp only [World.frozen?_drew]; rw [World.frozen?_alloc_past _ _ _ (by simp; omega), World.frozen?_alloc_past _ _ _ hg]; exact hf)
      have hc1 : w1.cell? ⟨g, 2, none⟩ = some (.slice A L.length c) := (hg1.cell_far ⟨g, 2, none⟩ (by simp; omega) (fun e => hne e.symm)).trans (by simp only [World.cell?_drew]; rw [World.cell?_alloc_past _ _ _ (by simp; omega), World.cell?_alloc_past _ _ _ hg]; exact hc)))
  all_goals
    go_wp2
    go_end0
    refine ⟨rfl, _, w1, rfl, ?_, ?_, ?_⟩
    · have e1 : pcs (L ++ [q]) = pcs L ++ q.cells := by rw [pcs_append]; simp [pcs]
      rw [e1, List.length_append]
      exact hown1
    · exact ((World.grownBy_alloc w _ _).trans (World.grownBy_alloc _ _ _)).trans ⟨hg1.os, hg1.tape, hg1.output, hg1.size, hg1.block⟩
    · rcases hat1 with e | e
      · exact .inl e
      · exact .inr ⟨_, e, by simp; omega⟩
end Go.Proofs.Ytefjoiinoaofcaa

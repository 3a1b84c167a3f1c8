/- WriteString and String of a builder that the call has made. -/
import Derived.Test.YtcfglfnncpcfoaaBuild
import Derived.Test.YtcfglfnncpcfoaaShelf
import Derived.Lib.AppendStr
namespace Go.Proofs.Ytcfglfnncpcfoaa
open Go.RowKit Go.Shelf

theorem Try.info5 : (Try.prog.info? 5).map (fun i => (i.zero, i.size, i.bytes)) = some (some (.int .u8 0), 1, 1) := by kernel_rfl
/-- Block b is a builder that holds the text l; from block B on. -/
def Bld (B b : Nat) (l : List UInt8) (w : World) : Prop := Lib.IsBuilder 96 5 B b (bv l) w

theorem check_any (B b : Nat) (l : List UInt8) (w : World) (h : Bld B b l w) :
    Calls Try.prog 65 #[.pointer (some ⟨b, 0, none⟩)] w fun e w' => e = .returned (.tuple #[]) ∧ Lib.BuilderAt 96 5 B b (.pointer (some ⟨b, 0, none⟩)) (bv l) w' ∧ Below B w w' := by
  rcases h with h | h
  · refine (check_fresh b w h.cell0 h.shape h.frozen0).mono ?_
    rintro e w' ⟨rfl, rfl⟩
    exact ⟨rfl, h.used _, (Below.refl B w).setCell (p := ⟨b, 0, none⟩) h.1 _⟩
  · refine (check_used b w h.cell0).mono ?_
    rintro e w' ⟨rfl, rfl⟩
    exact ⟨rfl, h, Below.refl B _⟩

theorem keeps_of_below {B : Nat} {w w' : World} (h : Below B w w') (hB : w.heap.size ≤ B) : Keeps [] w w' :=
  ⟨h.os, h.tape, h.output, h.size, fun k hk _ => h.block k (by omega)⟩
/-- A builder stays where everything that was there stays. -/
theorem Bld.keep {B b : Nat} {l : List UInt8} {w w' : World} (h : Bld B b l w) (k : Keeps [] w w') : Bld B b l w' := by
  have one : ∀ {p : Value}, Lib.BuilderAt 96 5 B b p (bv l) w → Lib.BuilderAt 96 5 B b p (bv l) w' := fun {p} h => by
    obtain ⟨hB, v, hbk, hown, hne⟩ := h
    refine ⟨hB, v, (k.block b (Array.getElem?_eq_some_iff.1 hbk).1 (by simp)).trans hbk, ⟨hown.1, ?_⟩, hne⟩
    rcases hown.2 with h0 | ⟨g, cap, cur, rfl, h1, h2, r⟩
    · exact .inl h0
    · exact .inr ⟨g, cap, cur, rfl, h1, (k.block g (Array.getElem?_eq_some_iff.1 h2).1 (by simp)).trans h2, r⟩
  rcases h with h | h
  · exact .inl (one h)
  · exact .inr (one h)
theorem Bld.new (w : World) : Bld w.heap.size w.heap.size [] (w.alloc (.cells #[.pointer none, .slice none 0 0] 96)) :=
  .inl ⟨Nat.le_refl _, .slice none 0 0, heap_alloc_new w _, World.ownsRow_nil _ _ _ _, by simp [Value.ownBlock]⟩

set_option maxHeartbeats 1000000 in
set_option maxRecDepth 100000 in
theorem wstr_any (B b : Nat) (l : List UInt8) (s : ByteArray) (w : World) (h : Bld B b l w) (hlen : l.length + s.size ≤ 140737488355328) (hBw : B ≤ w.heap.size) :
    Calls Try.prog 52 #[.pointer (some ⟨b, 0, none⟩), .string s] w fun e w' => e = .returned (.tuple #[.int .i64 s.size, .nilIface]) ∧ Bld B b (l ++ s.data.toList) w' ∧ Below B w w' := by
  obtain ⟨i0, hi, hz0, hz1, hz2⟩ := info_parts Try.info5
  have HI := hide (And.intro hi (And.intro hz0 (And.intro hz1 hz2)))
  clear hi hz0 hz1 hz2
  go_enter Try.func52, Try.ntmps52
  go_wp2_with fail
  refine (check_any B b l w h).mono ?_
  rintro e w1 ⟨rfl, h1, hb1⟩
  obtain ⟨hB, v, hbk, hown, hne⟩ := h1
  have c1 : w1.cell? ⟨b, 1, none⟩ = some v := by rw [Lib.cell_of_heap hbk]; rfl
  have hlt : b < w1.heap.size := (Array.getElem?_eq_some_iff.1 hbk).1
  obtain ⟨A, c, hv⟩ : ∃ A c, v = .slice A (bv l).length c := by
    rcases hown.2 with ⟨hv, h0⟩ | ⟨g, cap, cur, hv, _⟩
    · exact ⟨none, 0, by rw [hv, h0]⟩
    · exact ⟨_, _, hv⟩
  subst hv
  have HOW := hide hown
  have HBK := hide hbk
  have HB1 := hide hb1
  clear hown hbk hb1
  go_wp2_with (first | (with_reducible refine Halt.append ?_))
  refine Halt.on ?_
  have hsz := HB1.out.size
  refine Lib.wpList_append_own_string _ rfl _ _ 36 9 rfl B 5 i0 Try.underlying36 Try.underlying9 HI.out.1 HI.out.2.1 HI.out.2.2.1 HI.out.2.2.2 (.slice A (bv l).length c) (bv l).length (bv l) rfl HOW.out s rfl (by rw [bv_length]; unfold maxLen; omega) (by rw [bv_length]; omega) (by omega) ?_
  intro v' w2 hown' hgrow hnil
  have hb2 : w2.heap[b]? = some (.cells #[.pointer (some ⟨b, 0, none⟩), .slice A (bv l).length c] 96 (0, 0)) := by
    rw [hgrow.block b hlt (fun e => hne e.symm)]
    exact HBK.out
  have hne2 : v'.ownBlock ≠ some b := by
    intro e
    rcases hown'.2 with ⟨hv, _⟩ | ⟨g, cap, cur, hv, _, hg, _⟩
    · rw [hv] at e; simp [Value.ownBlock] at e
    · rw [hv] at e
      have : g = b := by simpa [Value.ownBlock] using e
      subst this
      rw [hb2] at hg
      injection hg with hg
      injection hg with _ hg
      exact absurd hg (by decide)
  have d1 : w2.cell? ⟨b, 1, none⟩ = some (.slice A (bv l).length c) := by rw [Lib.cell_of_heap hb2]; rfl
  have hf : w2.frozen? ⟨b, 1, none⟩ = false := Bk.free (t := 96) hb2 1
  obtain ⟨A', c', hv'⟩ : ∃ A' c', v' = .slice A' ((bv l).length + s.size) c' := by
    rcases hown'.2 with ⟨hv, h0⟩ | ⟨g, cap, cur, hv, _⟩
    · exact ⟨none, 0, by rw [hv, h0]⟩
    · exact ⟨_, _, hv⟩
  subst hv'
  have hfin : Bld B b (l ++ s.data.toList) (w2.setCell ⟨b, 1, none⟩ (.slice A' ((bv l).length + s.size) c')) ∧ Below B w (w2.setCell ⟨b, 1, none⟩ (.slice A' ((bv l).length + s.size) c')) := by
    have hset := Bk.set (t := 96) hb2 1 (.slice A' ((bv l).length + s.size) c')
    refine ⟨.inr ⟨hB, .slice A' ((bv l).length + s.size) c', by simpa [Bk] using hset, ?_, hne2⟩, ?_⟩
    · have e1 : bv (l ++ s.data.toList) = bv l ++ Lib.strCells s := by rw [bv_append]; rfl
      rw [e1]
      have e2 : (bv l ++ Lib.strCells s).length = (bv l).length + s.size := by simp [Lib.strCells]
      rw [e2]
      refine ⟨hown'.1, ?_⟩
      rcases hown'.2 with h0 | ⟨g, cap, cur, hv, h1, h2, r⟩
      · exact .inl h0
      · refine .inr ⟨g, cap, cur, hv, h1, ?_, r⟩
        rw [Below.heap_setCell w2 _ _ g (fun e => ?_)]
        · exact h2
        · simp at e
          subst e
          exact hne2 (by rw [hv]; rfl)
    · have hgb : Below B w1 w2 := ⟨hgrow.os, hgrow.tape, hgrow.output, hgrow.size, fun k hk => hgrow.block k (by omega) (fun e => by
        rcases HOW.out.2 with ⟨hv, _⟩ | ⟨g, cap, cur, hv, h1, _⟩
        · rw [hv] at e; simp [Value.ownBlock] at e
        · rw [hv] at e
          have : k = g := by simpa [Value.ownBlock] using e
          omega)⟩
      exact (HB1.out.trans hgb).setCell (p := ⟨b, 1, none⟩) hB _
  have HF := hide hfin
  clear hfin hown' hgrow hnil hb2 hne2 HOW HBK HB1 HI c1
  go_wp2_with fail
  go_ret2
  exact ⟨rfl, HF.out⟩
theorem bstr_any (B b : Nat) (l : List UInt8) (w : World) (h : Bld B b l w) (hBw : B ≤ w.heap.size) :
    Calls Try.prog 55 #[.pointer (some ⟨b, 0, none⟩)] w fun e w' => e = .returned (.string (bs l)) ∧ Below B w w' := Try.Builder_String_any B b l w h hBw
end Go.Proofs.Ytcfglfnncpcfoaa

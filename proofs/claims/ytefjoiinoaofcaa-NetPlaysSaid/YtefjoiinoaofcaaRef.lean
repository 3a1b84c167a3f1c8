/- The reference's New, Waiting and Send. -/
import Derived.Test.YtefjoiinoaofcaaNext
namespace Go.Proofs.Ytefjoiinoaofcaa
open Go.RowKit

theorem Try.info69 : (Try.prog.info? 69).map (fun i => (i.zero, i.size, i.bytes)) = some (some (.agg #[.int .i64 0, .int .i64 0, .int .i64 0, .string ⟨#[]⟩, .int .i64 0, .int .i64 0]), 6, 56) := by kernel_rfl

def MadeRef (w : World) (N : NS) (g : Nat) (w' : World) : Prop := ∃ F, IsRef w' g F N ∧ Adds w [] F ∧ Keeps [] w w'
set_option maxHeartbeats 400000 in
theorem rnew_any (nodes : Int) (A : Option Addr) (c : Nat) (l : List Tr) (w : World) (h : Src w 3 (.slice A l.length c) l.length (trs l)) (hn : l.length ≤ 1000) :
    Calls Try.prog 13 #[.int .i64 nodes, .slice A l.length c] w fun e w' => ∃ g, e = .returned (.pointer (some ⟨g, 0, none⟩)) ∧ MadeRef w (NS.new nodes l) g w' := by
  obtain ⟨i0, hi, hz0, hz1, hz2⟩ := info_parts Try.info42
  have HS := hide h
  clear h
  go_enter Try.func13, Try.ntmps13
  go_wp2_with (first | (with_reducible refine Halt.append ?_))
  refine Halt.on ?_
  have hk0 := (Keeps.refl [] w).alloc (.cells #[] 42)
  have hs0 := HS.out.keep hk0 (by simp)
  have he0 : Own (w.alloc (.cells #[] 42)) 42 3 (.slice (some ⟨w.heap.size, 0, none⟩) 0 0) 0 [] := World.ownsRow_made w #[] 0 (Nat.zero_le _) (by unfold maxLen; omega) rfl
  refine wpList_append_src _ rfl _ _ _ rfl 42 i0 _ 3 24 Try.underlying22 hi hz0 hz1 hz2 rfl (by omega) (.slice (some ⟨w.heap.size, 0, none⟩) 0 0) 0 [] rfl he0 (.slice A l.length c) l.length (trs l) rfl hs0 (trs_one l) (by unfold maxLen; omega) (by omega) ?_
  intro v w1 hown hg1 hat1
  rw [Nat.zero_add, List.nil_append] at hown
  have hk : Keeps [] w w1 := hk0.trans (Keeps.of_grown hg1 (F := [w.heap.size]) (fun k hk => by simp [Value.ownBlock] at hk; simp [hk])) (fun i hi => .inr (by simp at hi; omega))
  have hb : ∀ b, v.ownBlock = some b → w.heap.size ≤ b := fun b hb => by
    rcases hat1 with e | e
    · rw [hb] at e; simp [Value.ownBlock] at e; omega
    · rw [hb] at e; simp at e; omega
  have hk2 := hk.alloc (.cells #[.int .i64 nodes, v, .slice none 0 0, .int .i64 0] 60)
  have hfin : MadeRef w (NS.new nodes l) w1.heap.size (w1.alloc (.cells #[.int .i64 nodes, v, .slice none 0 0, .int .i64 0] 60)) := by
    refine ⟨w1.heap.size :: v.ownBlock.toList, ⟨v, .slice none 0 0, [], Bk.new _ _ _, by simp, hown.alloc _, World.ownsRow_nil _ _ _ _, fun b hb => by simp [hb], by simp [Value.ownBlock], ?_, List.Perm.refl _, NS.new_ok nodes l hn⟩, ?_, hk2⟩
    · intro i hi
      rw [List.mem_cons] at hi
      rcases hi with rfl | hi
      · simp
      · have := hown.lt i (by simpa using hi)
        simp; omega
    · intro i hi
      rw [List.mem_cons] at hi
      right
      rcases hi with rfl | hi
      · exact hk.size
      · exact hb i (by simpa using hi)
  obtain ⟨A1, c1, hv⟩ := hown.slice
  subst hv
  have HF := hide hfin
  clear hfin hk2 hown hk hb HS hat1 hg1 he0 hs0 hk0 hi hz0 hz1 hz2
  go_wp2_with fail
  go_ret
  exact ⟨_, rfl, HF.out⟩

theorem rwaiting_any (g : Nat) (F : List Nat) (N : NS) (w : World) (h : IsRef w g F N) : Calls Try.prog 19 #[.pointer (some ⟨g, 0, none⟩)] w fun e w' => e = .returned (.int .i64 N.S.length) ∧ w = w' := by
  obtain ⟨vs, vw, L, hd⟩ := h
  obtain ⟨A, c, hv⟩ := hd.wai.slice
  have c2 := hd.blk.cell 2
  simp at c2
  rw [hv] at c2
  have HL := hide hd.perm.length_eq
  clear hd hv
  go_enter Try.func19, Try.ntmps19
  go_wp2
  go_ret
  rw [HL.out]
  exact ⟨rfl, rfl⟩

/-- The number of sent messages goes up. -/
theorem RefAt.count {w w2 : World} {g : Nat} {F : List Nat} {N : NS} {vs vw : Value} {L : List Par} (h : RefAt w g F N vs vw L) (hk : Keeps [] w w2) (hf : N.sent < 100000) :
    IsRef (w2.setCell ⟨g, 3, none⟩ (.int .i64 (N.sent + 1))) g F { N with sent := N.sent + 1 } ∧ Keeps F w (w2.setCell ⟨g, 3, none⟩ (.int .i64 (N.sent + 1))) := by
  have h2 := h.keep hk (apart_nil F)
  have k3 : Keeps [g] w2 (w2.setCell ⟨g, 3, none⟩ (.int .i64 (N.sent + 1))) := (Keeps.refl _ _).setCell (.inl (by simp)) _
  have n1 : vs.ownBlock ≠ some g := h.scr.bk_ne h.blk (by decide)
  have n2 : vw.ownBlock ≠ some g := h.wai.bk_ne h.blk (by decide)
  refine ⟨⟨vs, vw, L, ?_, h.gin, h2.scr.keep k3 (fun b hb hm => ?_), h2.wai.keep k3 (fun b hb hm => ?_), h.sin, h.win, h2.all.keep k3, h.perm, ?_⟩, (hk.nil.setCell (.inl h.gin) _)⟩
  · have := h2.blk.set 3 (.int .i64 (N.sent + 1))
    simpa using this
  · rw [List.mem_singleton] at hm; subst hm; exact n1 hb
  · rw [List.mem_singleton] at hm; subst hm; exact n2 hb
  · have o := h.ok
    exact ⟨o.sorted, fun p hp => by have := o.before p hp; simp; omega, by have := o.many; simp; omega, by simp; omega, o.scr⟩
/-- The block and its row have turned. -/
theorem RefAt.turn {w w3 : World} {g : Nat} {F : List Nat} {N N' : NS} {vs vw v' : Value} {L L' : List Par} (h : RefAt w g F N vs vw L) (k : Keeps (g :: vw.ownBlock.toList) w w3)
    (hb : Bk w3 g 60 #[.int .i64 N'.nodes, vs, v', .int .i64 N'.sent]) (hown : Own w3 69 6 v' L'.length (pcs L')) (hat : v'.ownBlock = vw.ownBlock ∨ ∃ b, v'.ownBlock = some b ∧ w.heap.size ≤ b)
    (hperm : L'.Perm N'.S) (hok : N'.ok) (e : N'.scr = N.scr) : RefAt w3 g (v'.ownBlock.toList ++ F) N' vs v' L' ∧ Keeps F w w3 ∧ Adds w F (v'.ownBlock.toList ++ F) := by
  have n1 : vs.ownBlock ≠ some g := h.scr.bk_ne h.blk (by decide)
  have n2 := h.scr.ne h.wai (by decide)
  have hkF : Keeps F w w3 := k.mono (fun i hi => .inl (by
    rw [List.mem_cons] at hi
    rcases hi with rfl | hi
    · exact h.gin
    · exact h.win i (by simpa using hi)))
  have hadd : Adds w F (v'.ownBlock.toList ++ F) := by
    intro i hi
    rw [List.mem_append] at hi
    rcases hi with hi | hi
    · have hi' : v'.ownBlock = some i := by simpa using hi
      rcases hat with e | ⟨b, e, hb⟩
      · exact .inl (h.win i (by rw [← e]; exact hi'))
      · rw [hi'] at e; injection e with e; subst e; exact .inr hb
    · exact .inl hi
  refine ⟨⟨hb, by simp [h.gin], ?_, hown, fun b hb => by simp [h.sin b hb], fun b hb => by simp [hb], ?_, hperm, hok⟩, hkF, hadd⟩
  · rw [e]
    refine h.scr.keep k (fun b hq hm => ?_)
    rw [List.mem_cons] at hm
    rcases hm with rfl | hm
    · exact n1 hq
    · exact n2 b hq (by simpa using hm)
  · intro i hi
    rw [List.mem_append] at hi
    rcases hi with hi | hi
    · exact hown.lt i (by simpa using hi)
    · exact h.all.keep hkF i hi
end Go.Proofs.Ytefjoiinoaofcaa

/- The contracts of list.add, list.settle and Sync. -/
import Derived.Test.YtppgddigcoojiaaRead
import Derived.Deep.RegionHeld3
namespace Go.Proofs.Ytppgddigcoojiaa
open Go.RowKit

theorem settle_any (g : Nat) (v : Value) (w : World) (h : w.cell? ⟨g, 2, none⟩ = some v) (hf : w.frozen? ⟨g, 2, none⟩ = false) :
    Calls Try.prog 41 #[.pointer (some ⟨g, 2, none⟩)] w fun e w' => e = .returned (.tuple #[]) ∧ w.setCell ⟨g, 2, none⟩ (.slice none 0 0) = w' := by
  go_enter Try.func41, Try.ntmps41
  go_wp2
  go_end0
  exact ⟨rfl, rfl⟩

theorem Try.info69 : (Try.prog.info? 69).map (fun i => (i.zero, i.size, i.bytes)) = some (some (.agg #[.int .i64 0, .slice none 0 0]), 2, 32) := by kernel_rfl

theorem Src.built (w : World) (t : TypeId) (cs : Array Value) (sz m : Nat) (hm : cs.size = m * sz) (g : Nat) (hg : g = w.heap.size) : Src (w.alloc (.cells cs t)) sz (.slice (some ⟨g, 0, none⟩) m m) m cs.toList := by
  subst hg
  refine ⟨by simpa using hm, _, _, rfl, fun h => by (cases h), fun ad had j u hu => ?_⟩
  injection had with had
  subst had
  have e : (⟨w.heap.size, 0, none⟩ : Addr).add j = ⟨w.heap.size, j, none⟩ := by unfold Addr.add; split <;> simp_all
  rw [e]
  simpa using hu

set_option maxHeartbeats 800000 in
theorem add_any (g : Nat) (A : Option Addr) (n c : Nat) (xs : List Value) (off : Int) (At : Option Addr) (nt ct : Nat) (w : World) (hg : g < w.heap.size) (h : w.cell? ⟨g, 2, none⟩ = some (.slice A n c)) (hf : w.frozen? ⟨g, 2, none⟩ = false)
    (hown : Own w 69 2 (.slice A n c) n xs) (hne : (Value.slice A n c).ownBlock ≠ some g) (hn : n ≤ 1099511627776) :
    Calls Try.prog 40 #[.pointer (some ⟨g, 2, none⟩), .agg #[.int .i64 off, .slice At nt ct]] w fun e w' => e = .returned (.tuple #[]) ∧
      ∃ v' w1, w1.setCell ⟨g, 2, none⟩ v' = w' ∧ Own w1 69 2 v' (n + 1) (xs ++ [.int .i64 off, .slice At nt ct]) ∧ w.grownBy w1 (Value.slice A n c).ownBlock ∧ (v'.ownBlock = (Value.slice A n c).ownBlock ∨ ∃ k, v'.ownBlock = some k ∧ w.heap.size ≤ k) := by
  obtain ⟨i0, hi, hz0, hz1, hz2⟩ := info_parts Try.info69
  go_enter Try.func40, Try.ntmps40
  go_wp2
  have hsrc : Src ((w.alloc (.cells #[.int .i64 off, .slice At nt ct] 69)).alloc (.cells #[.int .i64 off, .slice At nt ct] 69)).drew 2 (.slice (some ⟨w.heap.size + 1, 0, none⟩) 1 1) 1 [.int .i64 off, .slice At nt ct] :=
    Src.built (w.alloc (.cells #[.int .i64 off, .slice At nt ct] 69)) 69 #[.int .i64 off, .slice At nt ct] 2 1 rfl _ (by simp)
  have HS := hide hsrc
  clear hsrc
  have h1 : ∀ u ∈ [Value.int .i64 off, .slice At nt ct], u.oneCell' = true := by intro u hu; simp at hu; rcases hu with rfl | rfl <;> rfl
  have H1 := hide h1
  clear h1
  have HO := hide hown
  clear hown
  go_region_law
    ((refine step_append_src _ (by rfl) _ _ _ (by rfl) 69 i0 _ 2 32 Try.underlying58 hi hz0 hz1 hz2 rfl (by omega) (.slice A n c) n xs (by rfl) ((HO.out.alloc _).alloc _).drew (.slice (some ⟨w.heap.size + 1, 0, none⟩) 1 1) 1 _ (by rfl) HS.out H1.out (by unfold maxLen; omega) (by omega) ?_; intro v1 w1 hown1 hg1 hat1; obtain ⟨k1, cap1, hv1, _⟩ := own_form hown1 (by omega); subst hv1
      have hf1 : w1.frozen? ⟨g, 2, none⟩ = false := (hg1.frozen_far ⟨g, 2, none⟩ (by simp; omega) (fun e => hne e.symm)).trans (by simp only [World.frozen?_drew]; rw [World.frozen?_alloc_past _ _ _ (by simp; omega), World.frozen?_alloc_past _ _ _ hg]; exact hf)
      have hc1 : w1.cell? ⟨g, 2, none⟩ = some (.slice A n c) := (hg1.cell_far ⟨g, 2, none⟩ (by simp; omega) (fun e => hne e.symm)).trans (by simp only [World.cell?_drew]; rw [World.cell?_alloc_past _ _ _ (by simp; omega), World.cell?_alloc_past _ _ _ hg]; exact h)))
  all_goals
    go_wp2
    go_end0
    refine ⟨rfl, _, w1, rfl, hown1, ?_, ?_⟩
    · exact ((World.grownBy_alloc w _ _).trans (World.grownBy_alloc _ _ _)).trans ⟨hg1.os, hg1.tape, hg1.output, hg1.size, hg1.block⟩
    · rcases hat1 with e | e
      · exact .inl e
      · exact .inr ⟨_, e, by simp; omega⟩

theorem Own.cut0 {w : World} {e : TypeId} {sz n c : Nat} {A : Option Addr} {xs : List Value} (h : Own w e sz (.slice A n c) n xs) : Own w e sz (.slice A 0 c) 0 [] := by
  refine ⟨by simp, ?_⟩
  rcases h.2 with ⟨h0, _⟩ | ⟨g, cap, cur, hv, hb, hg, hc, hm, hs, ht⟩
  · injection h0 with h1 h2 h3
    subst h1 h3
    exact .inl ⟨rfl, rfl⟩
  · injection hv with h1 h2 h3
    subst h1 h3
    exact .inr ⟨g, c, cur, rfl, hb, hg, Nat.zero_le _, hm, hs, by simp⟩

def syncS (S : DS) : DS := { S with synced := S.now, pieces := [] }

theorem Own.addr {w : World} {e : TypeId} {sz n c : Nat} {A : Option Addr} {xs : List Value} (h : Own w e sz (.slice A n c) n xs) : (A = none ∧ n = 0 ∧ c = 0) ∨ ∃ b, A = some ⟨b, 0, none⟩ := by
  rcases h.2 with ⟨h0, h1⟩ | ⟨g, cap, cur, hv, _⟩
  · injection h0 with h2 h3 h4
    exact .inl ⟨h2, h1, h4⟩
  · injection hv with h2 h3 h4
    exact .inr ⟨g, h2⟩

theorem Bk.grown {w w' : World} {g : Nat} {t : TypeId} {cs : Array Value} {row : Option Nat} (h : Bk w g t cs) (hg : w.grownBy w' row) (hn : some g ≠ row) : Bk w' g t cs := (hg.block g h.lt hn).trans h

/-- The state behind Sync. -/
theorem sync_end (w w1 w2 : World) (g : Nat) (F : List Nat) (S1 : DS) (vp : Value) (cs : List Value) (An : Option Addr) (cn nn ns cc : Nat) (As : Option Addr) (A2 : Option Addr) (c2 : Nat) (k1 : Keeps F w w1)
    (hd : DiskAt w1 g F S1 (.slice An nn cn) (.slice As ns cc) vp cs) (hown : Own w2 5 1 (.slice A2 (0 + S1.now.length) c2) (0 + S1.now.length) ([] ++ bv S1.now)) (hg : w1.drew.grownBy w2 (Value.slice As 0 cc).ownBlock)
    (hat : (Value.slice A2 (0 + S1.now.length) c2).ownBlock = (Value.slice As 0 cc).ownBlock ∨ (Value.slice A2 (0 + S1.now.length) c2).ownBlock = some w1.drew.heap.size) :
    ∃ F', IsDisk ((w2.setCell ⟨g, 1, none⟩ (.slice A2 S1.now.length c2)).setCell ⟨g, 2, none⟩ (.slice none 0 0)) g F' (syncS S1) ∧ Adds w F F' ∧ Keeps F w ((w2.setCell ⟨g, 1, none⟩ (.slice A2 S1.now.length c2)).setCell ⟨g, 2, none⟩ (.slice none 0 0)) := by
  simp only [Nat.zero_add, List.nil_append] at hown hat
  have n2 : (Value.slice As ns cc).ownBlock ≠ some g := hd.syn.bk_ne hd.blk (by decide)
  have hsame : (Value.slice As 0 cc).ownBlock = (Value.slice As ns cc).ownBlock := by cases As <;> rfl
  rw [hsame] at hg hat
  have hg' : w1.grownBy w2 (Value.slice As ns cc).ownBlock := ⟨hg.os, hg.tape, hg.output, hg.size, hg.block⟩
  have hb2 := hd.blk.grown hg' (fun e => n2 e.symm)
  have n1 : (Value.slice An nn cn).ownBlock ≠ some g := hd.now.bk_ne hd.blk (by decide)
  have hk2 : Keeps F w1 w2 := Keeps.of_grown hg' (fun b hb => (hd.sin b hb).1)
  have hk3 : Keeps [g] w2 ((w2.setCell ⟨g, 1, none⟩ (.slice A2 S1.now.length c2)).setCell ⟨g, 2, none⟩ (.slice none 0 0)) := ((Keeps.refl _ _).setCell (.inl (by simp)) _).setCell (.inl (by simp)) _
  have hk23 : Keeps F w1 ((w2.setCell ⟨g, 1, none⟩ (.slice A2 S1.now.length c2)).setCell ⟨g, 2, none⟩ (.slice none 0 0)) := hk2.trans hk3 (fun i hi => .inl (by simp at hi; subst hi; exact hd.gin))
  have hnew : ∀ b, (Value.slice A2 S1.now.length c2).ownBlock = some b → (b ∈ F ∨ b = w1.heap.size) ∧ (Value.slice An nn cn).ownBlock ≠ some b ∧ b ≠ g := by
    intro b hb
    rcases hat with e | e
    · rw [hb] at e
      have := hd.sin b e.symm
      exact ⟨.inl this.1, this.2, fun h => n2 (by rw [← h]; exact e.symm)⟩
    · rw [hb] at e
      injection e with e
      refine ⟨.inr e, fun h => ?_, ?_⟩
      · have := hd.now.lt b h
        simp at e; omega
      · rintro rfl
        have := hd.blk.lt
        simp at e; omega
  have hsz : w1.heap.size ≤ w2.heap.size := hk2.size
  refine ⟨(Value.slice A2 S1.now.length c2).ownBlock.toList ++ F, ⟨.slice An nn cn, .slice A2 S1.now.length c2, .slice none 0 0, [], ?_⟩, ?_, k1.trans hk23 fun i hi => .inl hi⟩
  · refine ⟨(hb2.set 1 _).set 2 _, by simp [hd.gin], ?_, ?_, World.ownsRow_nil _ _ _ _, by simp [syncS], ?_, ?_, by simp [Value.ownBlock], ?_, ?_⟩
    · refine Own.keep (Own.keep hd.now (Keeps.of_grown (F := (Value.slice As ns cc).ownBlock.toList) hg' (fun b hb => by simp [hb])) ?_) hk3 ?_
      · intro b hb hm
        exact (hd.sin b (by simpa using hm)).2 hb
      · intro b hb hm
        simp at hm
        exact n1 (by rw [← hm]; exact hb)
    · exact hown.keep hk3 (fun b hb => by simp; exact (hnew b hb).2.2)
    · intro b hb
      simp [hd.nin b hb]
    · intro b hb
      exact ⟨by simp [hb], (hnew b hb).2.1⟩
    · intro b hb
      rw [List.mem_append] at hb
      rcases hb with hb | hb
      · have hb' : (Value.slice A2 S1.now.length c2).ownBlock = some b := by simpa using hb
        have := hown.lt b hb'
        simpa using this
      · exact hd.all.keep hk23 b hb
    · have o := hd.ok
      exact ⟨o.now, o.now, by simp [syncS], o.low, o.lo, o.hi, by simp [syncS], o.calls⟩
  · intro b hb
    rw [List.mem_append] at hb
    rcases hb with hb | hb
    · have hb' : (Value.slice A2 S1.now.length c2).ownBlock = some b := by simpa using hb
      rcases (hnew b hb').1 with h | h
      · exact .inl h
      · have := k1.size
        exact .inr (by omega)
    · exact .inl hb

set_option maxHeartbeats 800000 in
theorem sync_on (g : Nat) (F : List Nat) (S : DS) (w : World) (hd : IsDisk w g F S) (ho : S.off = false) (hc : S.calls < 1099511627776) :
    Calls Try.prog 28 #[.pointer (some ⟨g, 0, none⟩)] w fun e w' => e = .returned (.int .i64 0) ∧ ∃ F', IsDisk w' g F' (syncS (callS S)) ∧ Adds w F F' ∧ Keeps F w w' := by
  obtain ⟨i0, hi, hz0, hz1, hz2⟩ := info_parts Try.info5
  go_enter Try.func28, Try.ntmps28
  go_wp2_with fail
  refine (call_on g F S w hd ho hc).mono ?_
  rintro e w1 ⟨rfl, hd1, hk1⟩
  have HK1 := hide hk1
  clear hk1 hd
  generalize hS : callS S = S1 at hd1
  have HS := hide hS
  clear hS
  obtain ⟨vn, vs, vp, cs, hd1⟩ := hd1
  have hgl := hd1.blk.lt
  have hb := hd1.ok.now
  have n1 : vn.ownBlock ≠ some g := hd1.now.bk_ne hd1.blk (by decide)
  have n2 : vs.ownBlock ≠ some g := hd1.syn.bk_ne hd1.blk (by decide)
  obtain ⟨An, cn, rfl⟩ := hd1.now.slice
  obtain ⟨As, cc, rfl⟩ := hd1.syn.slice
  have c0 := hd1.blk.cell 0
  have c1 := hd1.blk.cell 1
  have f1 := hd1.blk.free 1
  simp at c0 c1
  have HD := hide hd1
  have hAs := hd1.syn.addr
  clear hd1
  go_wp2_with fail
  have hown0 := HD.out.syn.cut0
  have hsrc := HD.out.now.src
  have HO := hide hown0
  have HR := hide hsrc
  clear hown0 hsrc
  rcases hAs with ⟨rfl, hz, rfl⟩ | ⟨b, rfl⟩
  · go_region_law
      ((refine step_append_src _ (by rfl) _ _ _ (by rfl) 5 i0 _ 1 1 Try.underlying56 hi hz0 hz1 hz2 rfl (by omega) (.slice none 0 0) 0 [] (by rfl) HO.out.drew (.slice An S1.now.length cn) S1.now.length (bv S1.now) (by rfl) HR.out (bv_one _) (by unfold maxLen; omega) (by omega) ?_; intro v2 w2 hown2 hg2 hat2; obtain ⟨A2, c2, hv2⟩ := hown2.slice; subst hv2
        have hb2 := HD.out.blk.drew.grown hg2 (fun e => n2 e.symm)
        have k1 := hb2.cell 1; have k2 := hb2.cell 2; have e1 := hb2.free 1; have e2 := hb2.free 2; simp at k1 k2
        have HB2 := hide hb2; clear hb2))
    all_goals
      go_wp2_with fail
      refine (settle_any g vp _ (by have := (HB2.out.set 1 (.slice A2 S1.now.length c2)).cell 2; simpa using this) (by simpa using e2)).mono ?_
      rintro e w3 ⟨rfl, rfl⟩
      go_wp2_with fail
      go_ret
      refine ⟨rfl, ?_⟩
      rw [HS.out]
      exact sync_end w w1 w2 g F S1 vp cs An cn S1.now.length S1.synced.length _ _ A2 c2 HK1.out HD.out hown2 hg2 hat2
  · go_region_law
      ((refine step_append_src _ (by rfl) _ _ _ (by rfl) 5 i0 _ 1 1 Try.underlying56 hi hz0 hz1 hz2 rfl (by omega) (.slice (some ⟨b, 0, none⟩) 0 cc) 0 [] (by rfl) HO.out.drew (.slice An S1.now.length cn) S1.now.length (bv S1.now) (by rfl) HR.out (bv_one _) (by unfold maxLen; omega) (by omega) ?_; intro v2 w2 hown2 hg2 hat2; obtain ⟨A2, c2, hv2⟩ := hown2.slice; subst hv2
        have hb2 := HD.out.blk.drew.grown hg2 (fun e => n2 e.symm)
        have k1 := hb2.cell 1; have k2 := hb2.cell 2; have e1 := hb2.free 1; have e2 := hb2.free 2; simp at k1 k2
        have HB2 := hide hb2; clear hb2))
    all_goals
      go_wp2_with fail
      refine (settle_any g vp _ (by have := (HB2.out.set 1 (.slice A2 S1.now.length c2)).cell 2; simpa using this) (by simpa using e2)).mono ?_
      rintro e w3 ⟨rfl, rfl⟩
      go_wp2_with fail
      go_ret
      refine ⟨rfl, ?_⟩
      rw [HS.out]
      exact sync_end w w1 w2 g F S1 vp cs An cn S1.now.length S1.synced.length _ _ A2 c2 HK1.out HD.out hown2 hg2 hat2

theorem sync_off (g : Nat) (F : List Nat) (S : DS) (w : World) (hd : IsDisk w g F S) (ho : S.off = true) :
    Calls Try.prog 28 #[.pointer (some ⟨g, 0, none⟩)] w fun e w' => e = .returned (.int .i64 70) ∧ w = w' := by
  go_enter Try.func28, Try.ntmps28
  go_wp2_with fail
  refine (call_off g F S w hd ho).mono ?_
  rintro e w1 ⟨rfl, rfl⟩
  go_wp2_with fail
  go_ret
  exact ⟨rfl, rfl⟩
end Go.Proofs.Ytppgddigcoojiaa

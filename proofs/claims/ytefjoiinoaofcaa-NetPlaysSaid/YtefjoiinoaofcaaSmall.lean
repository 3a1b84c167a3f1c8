/- queue, Waiting, slices.Clone, New, trouble. -/
import Derived.Test.YtefjoiinoaofcaaPop
namespace Go.Proofs.Ytefjoiinoaofcaa
open Go.RowKit

theorem Try.info42 : (Try.prog.info? 42).map (fun i => (i.zero, i.size, i.bytes)) = some (some (.agg #[.bool false, .int .i64 0, .int .i64 0]), 3, 24) := by kernel_rfl

theorem queue_any (g : Nat) (w : World) : Calls Try.prog 23 #[.pointer (some ⟨g, 0, none⟩)] w fun e w' => e = .returned (.iface 75 (.pointer (some ⟨g, 2, none⟩))) ∧ w = w' := by
  go_enter Try.func23, Try.ntmps23
  go_wp2
  go_ret
  exact ⟨rfl, rfl⟩
theorem waiting_any (g : Nat) (F : List Nat) (N : NS) (w : World) (h : IsNet w g F N) : Calls Try.prog 18 #[.pointer (some ⟨g, 0, none⟩)] w fun e w' => e = .returned (.int .i64 N.S.length) ∧ w = w' := by
  obtain ⟨vs, vw, L, hd⟩ := h
  obtain ⟨A, c, hv⟩ := hd.wt.slice
  have hml := m_len ⟨g, 2, none⟩ A L.length c w (by rw [← hv]; exact hd.wt.cell)
  have HL := hide hd.bag.length
  clear hd hv
  go_enter Try.func18, Try.ntmps18
  go_wp2_with fail
  refine (queue_any g w).mono ?_
  rintro e w1 ⟨rfl, rfl⟩
  go_wp2_with fail
  refine (len_any A L.length c w).mono ?_
  rintro e w1 ⟨rfl, rfl⟩
  go_wp2_with fail
  go_ret
  rw [HL.out]
  exact ⟨rfl, rfl⟩

theorem nil22 (w : World) (a : Option Addr) (n c n' c' : Nat) : (binOp .eql 22 (.slice a n c) (.slice none n' c')).run Try.prog w = .ok (.bool a.isNone) w := Lib.run_eql_slice_nil w _ _ a n c n' c' Try.underlying22
/-- A clone holds the same, in new memory. -/
def Cloned (w : World) (l : List Tr) (v : Value) (w' : World) : Prop := Own w' 42 3 v l.length (trs l) ∧ Keeps [] w w' ∧ ∀ b, v.ownBlock = some b → w.heap.size ≤ b
set_option maxHeartbeats 400000 in
theorem clone_any (A : Option Addr) (c : Nat) (l : List Tr) (w : World) (h : Src w 3 (.slice A l.length c) l.length (trs l)) (hn : l.length ≤ 1000) :
    Calls Try.prog 20 #[.slice A l.length c] w fun e w' => ∃ v, e = .returned v ∧ Cloned w l v w' := by
  cases A with
  | none =>
    have hl : l.length = 0 := by
      obtain ⟨_, A, c', hA, h0, _⟩ := h
      injection hA with hA
      exact h0 hA.symm
    obtain rfl : l = [] := List.eq_nil_of_length_eq_zero hl
    clear h hl hn
    have hq := nil22
    go_enter Try.func20, Try.ntmps20
    go_wp2
    go_ret
    exact ⟨_, rfl, World.ownsRow_nil _ _ _ _, Keeps.refl _ _, by simp [Value.ownBlock]⟩
  | some ad =>
    obtain ⟨i0, hi, hz0, hz1, hz2⟩ := info_parts Try.info42
    have HS := hide h
    clear h
    have hq := nil22
    go_enter Try.func20, Try.ntmps20
    go_wp2_with (first | (with_reducible refine Halt.append ?_))
    refine Halt.on ?_
    have hk0 := (Keeps.refl [] w).alloc (.cells #[] 42)
    have hs0 := HS.out.keep hk0 (by simp)
    have he0 : Own (w.alloc (.cells #[] 42)) 42 3 (.slice (some ⟨w.heap.size, 0, none⟩) 0 0) 0 [] := World.ownsRow_made w #[] 0 (Nat.zero_le _) (by unfold maxLen; omega) rfl
    refine wpList_append_src _ rfl _ _ _ rfl 42 i0 _ 3 24 Try.underlying22 hi hz0 hz1 hz2 rfl (by omega) (.slice (some ⟨w.heap.size, 0, none⟩) 0 0) 0 [] rfl he0 (.slice (some ad) l.length c) l.length (trs l) rfl hs0 (trs_one l) (by unfold maxLen; omega) (by omega) ?_
    intro v1 w1 hown1 hg1 hat1
    have hfin : Cloned w l v1 w1 := by
      refine ⟨by simpa using hown1, hk0.trans (Keeps.of_grown hg1 (F := [w.heap.size]) (fun k hk => by simp [Value.ownBlock] at hk; simp [hk])) (fun i hi => .inr (by simp at hi; omega)), fun b hb => ?_⟩
      rcases hat1 with e | e
      · rw [hb] at e; simp [Value.ownBlock] at e; omega
      · rw [hb] at e; simp at e; omega
    have HF := hide hfin
    clear hfin hown1 hg1 hat1 hk0 hs0 he0 hi hz0 hz1 hz2 HS
    go_wp2_with fail
    go_ret
    exact ⟨_, rfl, HF.out⟩

/-- A net, all of whose memory is new. -/
def MadeNet (w : World) (N : NS) (g : Nat) (w' : World) : Prop := ∃ F, IsNet w' g F N ∧ Adds w [] F ∧ Keeps [] w w'
set_option maxHeartbeats 400000 in
theorem new_any (nodes : Int) (A : Option Addr) (c : Nat) (l : List Tr) (w : World) (h : Src w 3 (.slice A l.length c) l.length (trs l)) (hn : l.length ≤ 1000) :
    Calls Try.prog 12 #[.int .i64 nodes, .slice A l.length c] w fun e w' => ∃ g, e = .returned (.pointer (some ⟨g, 0, none⟩)) ∧ MadeNet w (NS.new nodes l) g w' := by
  have HS := hide h
  clear h
  go_enter Try.func12, Try.ntmps12
  go_wp2_with fail
  refine (clone_any A c l w HS.out hn).mono ?_
  rintro e w1 ⟨v, rfl, hown, hk, hb⟩
  have hk2 := hk.alloc (.cells #[.int .i64 nodes, v, .slice none 0 0, .int .i64 0] 53)
  have hfin : MadeNet w (NS.new nodes l) w1.heap.size (w1.alloc (.cells #[.int .i64 nodes, v, .slice none 0 0, .int .i64 0] 53)) := by
    refine ⟨w1.heap.size :: v.ownBlock.toList, ⟨v, .slice none 0 0, [], Bk.new _ _ _, by simp, hown.alloc _, World.ownsRow_nil _ _ _ _, fun b hb => by simp [hb], by simp [Value.ownBlock], ?_, Bag.nil, NS.new_ok nodes l hn⟩, ?_, hk2⟩
    · intro i hi
      rw [List.mem_cons] at hi
      rcases hi with rfl | hi
      · simp
      · have := hown.lt i (by simpa using hi)
        simp; omega
    · intro i hi
      rw [List.mem_cons] at hi
      right
      rcases hi with rfl | hi
      · exact hk.size
      · exact hb i (by simpa using hi)
  obtain ⟨A1, c1, hv⟩ := hown.slice
  subst hv
  have HF := hide hfin
  clear hfin hk2 hown hk hb HS
  go_wp2_with fail
  go_ret
  exact ⟨_, rfl, HF.out⟩

set_option maxHeartbeats 400000 in
theorem trouble_any (g : Nat) (F : List Nat) (N : NS) (w : World) (h : IsNet w g F N) :
    Calls Try.prog 21 #[.pointer (some ⟨g, 0, none⟩)] w fun e w' => e = .returned (.agg N.tr.cells.toArray) ∧ Keeps [] w w' := by
  obtain ⟨vs, vw, L, hd⟩ := h
  have c1 := hd.blk.cell 1
  have c3 := hd.blk.cell 3
  have hg := hd.blk.lt
  simp at c1 c3
  by_cases h0 : N.scr.length = 0
  · obtain ⟨A, c, hv⟩ := hd.scr.slice
    rw [hv, h0] at c1
    have htr : N.tr = ⟨false, 1, 1⟩ := by unfold NS.tr; rw [if_pos h0]
    rw [htr]
    have HK := hide ((Keeps.refl [] w).alloc (.cells #[.bool false, .int .i64 1, .int .i64 1] 42))
    clear hd h0 htr hv
    unfold Tr.cells
    go_enter Try.func21, Try.ntmps21
    go_wp2
    exact bodyPost_ret (v := .agg #[.bool false, .int .i64 1, .int .i64 1]) (by simp [results, Try.results21, go_sem]) rfl ⟨rfl, HK.out⟩
  · obtain ⟨b, c, cur, hv, hc, hm, hb, _, _, hcell⟩ := hd.scr.head (by omega)
    rw [hv] at c1
    have htr : N.tr = trAt N.scr (N.sent % N.scr.length) := by unfold NS.tr; rw [if_neg h0]
    have hlt : N.sent % N.scr.length < N.scr.length := Nat.mod_lt _ (by omega)
    obtain ⟨i0, i1, i2⟩ := trs_at N.scr _ hlt
    replace i0 := hcell _ _ i0
    replace i1 := hcell _ _ i1
    replace i2 := hcell _ _ i2
    rw [← htr] at i0 i1 i2
    have hbl := hb.lt
    have hs := hd.ok.few
    have hl := hd.ok.scr
    generalize N.tr = t at *
    generalize N.scr.length = n at *
    generalize N.sent = s at *
    obtain ⟨r, hr⟩ : ∃ r, s % n = r := ⟨_, rfl⟩
    rw [hr] at i0 i1 i2 hlt
    have hri : (s : Int) % (n : Int) = (r : Int) := by omega
    have b1 : (0 : Int) ≤ (r : Int) := by omega
    have b2 : (r : Int) < (n : Int) := by omega
    have HK := hide (((Keeps.refl [] w).alloc (.cells #[.bool t.lost, .int .i64 t.copies, .int .i64 t.delay] 42)).drew)
    clear hd hv htr hcell hb hr
    have hn0 : ((n : Int) == 0) = false := by simp; omega
    unfold Tr.cells
    go_enter Try.func21, Try.ntmps21
    go_wp2
    go_region
    go_wp2
    exact bodyPost_ret (v := .agg #[.bool t.lost, .int .i64 t.copies, .int .i64 t.delay]) (by simp [results, Try.results21, go_sem]) rfl ⟨rfl, HK.out⟩
end Go.Proofs.Ytefjoiinoaofcaa

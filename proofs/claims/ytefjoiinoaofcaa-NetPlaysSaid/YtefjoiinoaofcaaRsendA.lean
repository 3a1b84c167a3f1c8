/- The reference's Send where the message is kept: the script is empty. -/
import Derived.Test.YtefjoiinoaofcaaRsend
import Derived.Deep.DrawnRows
namespace Go.Proofs.Ytefjoiinoaofcaa
open Go.RowKit
attribute [local go_sem ↓] Go.wp_at_zero Go.wp_at_succ

set_option maxRecDepth 10000 in
set_option maxHeartbeats 6400000 in
theorem rsend_keepA (g : Nat) (F : List Nat) (N : NS) (now a b n : Int) (x : ByteArray) (w : World) (h : IsRef w g F N) (hf : N.sent < 100000) (h0 : N.scr.length = 0) (hdr : N.drops b = false) (hn1 : -1000000000000000000 ≤ now) (hn2 : now ≤ 1000000000000000000) (_hdl : N.tr.delay ≤ 1000000000000000000) :
    Calls Try.prog 15 #[.pointer (some ⟨g, 0, none⟩), .int .i64 now, msgV a b n x] w fun e w' => e = .returned (.tuple #[]) ∧ ∃ F', IsRef w' g F' (sentN N a b n x (now + max N.tr.delay 0) (copiesOf N.tr)) ∧ Adds w F F' ∧ Keeps F w w' := by
  have hcase : N.tr.lost = false ∧ ¬ b < 0 ∧ ¬ N.nodes ≤ b := by
    unfold NS.drops at hdr
    cases hl : N.tr.lost
    · rw [hl] at hdr; simp at hdr
      exact ⟨rfl, by omega, by omega⟩
    · rw [hl] at hdr; simp at hdr
  have HC := hide hcase
  clear hcase hdr
  obtain ⟨vs, vw, L, hd⟩ := h
  have hg := hd.blk.lt
  have c0 := hd.blk.cell 0
  have c1 := hd.blk.cell 1
  have c3 := hd.blk.cell 3
  have f3 := hd.blk.free 3
  simp at c0 c1 c3
  have HD := hide hd
  have HF := hide (hd.count (Keeps.refl [] w) hf)
  unfold msgV
  · obtain ⟨A, c, hv⟩ := hd.scr.slice
    rw [hv, h0] at c1
    have htr : N.tr = ⟨false, 1, 1⟩ := by unfold NS.tr; rw [if_pos h0]
    have hd00 : decide ((0 : Int) < ((0 : Nat) : Int)) = false := by simp
    clear hd h0 hv
    obtain ⟨hl, h0', h1'⟩ := HC.out
    have d0 : decide (b < 0) = false := by simpa using h0'
    have d1 : decide (N.nodes ≤ b) = false := by simpa using h1'
    have HTR := hide htr
    clear hl HC h0' h1' htr
    go_enter Try.func15, Try.ntmps15
    go_wp2
    go_wp2
    go_quiet (fail)
    go_wp2
    have hst : IsRef ((((w.setCell ⟨g, 3, none⟩ (.int .i64 (N.sent + 1))).alloc (.cells #[.int .i64 a, .int .i64 b, .int .i64 n, .string x] 31)).alloc (.cells #[.bool false, .int .i64 1, .int .i64 1] 42)).drewN nq) g F (sentN N a b n x (now + 1) 0) ∧ Keeps F w ((((w.setCell ⟨g, 3, none⟩ (.int .i64 (N.sent + 1))).alloc (.cells #[.int .i64 a, .int .i64 b, .int .i64 n, .string x] 31)).alloc (.cells #[.bool false, .int .i64 1, .int .i64 1] 42)).drewN nq) ∧ Bk ((((w.setCell ⟨g, 3, none⟩ (.int .i64 (N.sent + 1))).alloc (.cells #[.int .i64 a, .int .i64 b, .int .i64 n, .string x] 31)).alloc (.cells #[.bool false, .int .i64 1, .int .i64 1] 42)).drewN nq) w.heap.size 31 #[.int .i64 a, .int .i64 b, .int .i64 n, .string x] ∧ Bk ((((w.setCell ⟨g, 3, none⟩ (.int .i64 (N.sent + 1))).alloc (.cells #[.int .i64 a, .int .i64 b, .int .i64 n, .string x] 31)).alloc (.cells #[.bool false, .int .i64 1, .int .i64 1] 42)).drewN nq) (w.heap.size + 1) 42 #[.bool false, .int .i64 1, .int .i64 1] := by
      have kk : Keeps [] (w.setCell ⟨g, 3, none⟩ (.int .i64 (N.sent + 1))) ((((w.setCell ⟨g, 3, none⟩ (.int .i64 (N.sent + 1))).alloc (.cells #[.int .i64 a, .int .i64 b, .int .i64 n, .string x] 31)).alloc (.cells #[.bool false, .int .i64 1, .int .i64 1] 42)).drewN nq) := (((Keeps.refl [] _).alloc _).alloc _).drewN nq
      have kb : Keeps [] ((w.setCell ⟨g, 3, none⟩ (.int .i64 (N.sent + 1))).alloc (.cells #[.int .i64 a, .int .i64 b, .int .i64 n, .string x] 31)) ((((w.setCell ⟨g, 3, none⟩ (.int .i64 (N.sent + 1))).alloc (.cells #[.int .i64 a, .int .i64 b, .int .i64 n, .string x] 31)).alloc (.cells #[.bool false, .int .i64 1, .int .i64 1] 42)).drewN nq) := ((Keeps.refl [] _).alloc _).drewN nq
      have b1 : Bk ((w.setCell ⟨g, 3, none⟩ (.int .i64 (N.sent + 1))).alloc (.cells #[.int .i64 a, .int .i64 b, .int .i64 n, .string x] 31)) w.heap.size 31 #[.int .i64 a, .int .i64 b, .int .i64 n, .string x] := by
        have := Bk.new (w.setCell ⟨g, 3, none⟩ (.int .i64 (N.sent + 1))) 31 #[.int .i64 a, .int .i64 b, .int .i64 n, .string x]
        simpa using this
      have b2 : Bk (((w.setCell ⟨g, 3, none⟩ (.int .i64 (N.sent + 1))).alloc (.cells #[.int .i64 a, .int .i64 b, .int .i64 n, .string x] 31)).alloc (.cells #[.bool false, .int .i64 1, .int .i64 1] 42)) (w.heap.size + 1) 42 #[.bool false, .int .i64 1, .int .i64 1] := by
        have := Bk.new ((w.setCell ⟨g, 3, none⟩ (.int .i64 (N.sent + 1))).alloc (.cells #[.int .i64 a, .int .i64 b, .int .i64 n, .string x] 31)) 42 #[.bool false, .int .i64 1, .int .i64 1]
        simpa using this
      exact ⟨HF.out.1.keep0 kk, HF.out.2.trans' kk.nil, b1.keep kb (by simp), b2⟩
    have hall := HD.out.all
    have bm0 : w.heap.size ∉ F := fun hm => Nat.lt_irrefl _ (hall _ hm)
    have bt0 : w.heap.size + 1 ∉ F := fun hm => by have := hall _ hm; omega
    have HST := hide hst
    have HOK := hide HD.out.ok
    clear hst hall HF HD c0 c1 c3 f3 hg
    generalize ((((w.setCell ⟨g, 3, none⟩ (.int .i64 (N.sent + 1))).alloc (.cells #[.int .i64 a, .int .i64 b, .int .i64 n, .string x] 31)).alloc (.cells #[.bool false, .int .i64 1, .int .i64 1] 42)).drewN nq) = W at HST ⊢
    generalize w.heap.size + 1 = bt at bt0 HST ⊢
    generalize w.heap.size = bm at bm0 HST ⊢
    go_loopw [8] (fun iv wr => ∃ (k : Nat) (F' : List Nat), iv = .int .i64 k ∧ k ≤ 1 ∧ Hid (IsRef wr g F' (sentN N a b n x (now + 1) k) ∧ Adds W F F' ∧ Keeps F W wr)) (fun iv _ => 1 - (intOf iv).toNat)
    case atStart => exact ⟨0, F, rfl, Nat.zero_le _, hide ⟨HST.out.1, Adds.refl _ _, Keeps.refl _ _⟩⟩
    case round =>
      obtain ⟨k, F', rfl, hk, HR⟩ := hrel
      have hbm := HST.out.2.2.1.keep HR.out.2.2 bm0
      have hbt := HST.out.2.2.2.keep HR.out.2.2 bt0
      have q0 := hbm.cell 0
      have q1 := hbm.cell 1
      have q2 := hbm.cell 2
      have q3 := hbm.cell 3
      have q4 := hbt.cell 2
      have q5 := hbt.cell 1
      have l1 := hbm.lt
      have l2 := hbt.lt
      simp at q0 q1 q2 q3 q4 q5
      clear hbm hbt
      by_cases hlt : k < 1
      · obtain ⟨vs, vw, L, hrf, hL, hnw, hok1⟩ := rsend_round g F N a b n x (now + 1) k w wr F' HR.out.1 HOK.out hf (by omega) rfl rfl
        obtain ⟨i0, hi, hz0, hz1, hz2⟩ := info_parts Try.info69
        obtain ⟨A, c, hv⟩ := hrf.wai.slice
        subst hv
        have g2 := hrf.blk.cell 2
        have hf2 := hrf.blk.free 2
        have hg := hrf.blk.lt
        simp at g2
        have hne : (Value.slice A L.length c).ownBlock ≠ some g := hrf.wai.bk_ne hrf.blk (by decide)
        have HRF := hide hrf
        have HOW := hide hrf.wai
        have HO1 := hide hok1
        have H2 := hide hz2
        have hsrc : Src (wr.alloc (.cells (Par.cells ⟨a, b, n, x, now + 1 + k, N.sent⟩).toArray 69)).drew 6 (.slice (some ⟨wr.heap.size, 0, none⟩) 1 1) 1 (Par.cells ⟨a, b, n, x, now + 1 + k, N.sent⟩) :=
          Src.built wr 69 (Par.cells ⟨a, b, n, x, now + 1 + k, N.sent⟩).toArray 6 1 rfl _ rfl
        have h1 := pcs_one [⟨a, b, n, x, now + 1 + k, N.sent⟩]
        have e1 : pcs [⟨a, b, n, x, now + 1 + k, N.sent⟩] = Par.cells ⟨a, b, n, x, now + 1 + k, N.sent⟩ := by simp [pcs]
        rw [e1] at h1
        have HS := hide hsrc
        have H1 := hide h1
        clear hrf hok1 hz2 hsrc h1 e1 hnw
        unfold Par.cells at HS H1
        have v1 : IntKind.i64.wrap (now + 1) = now + 1 := IntWalk.i64_in _ (by omega)
        have v2 : IntKind.i64.wrap (now + 1 + (k : Int)) = now + 1 + k := IntWalk.i64_in _ (by omega)
        go_wp2_with fail
        go_region_law
          ((refine step_append_src _ (by rfl) _ _ _ (by rfl) 69 i0 _ 6 56 Try.underlying58 hi hz0 hz1 H2.out rfl (by omega) (.slice A L.length c) L.length (pcs L) (by rfl) (HOW.out.alloc _).drew (.slice (some ⟨wr.heap.size, 0, none⟩) 1 1) 1 _ (by rfl) HS.out H1.out (by unfold maxLen; omega) (by omega) ?_; intro v1' w1 hown1 hg1 hat1; obtain ⟨k1, cap1, hv1, _⟩ := own_form hown1 (by omega); subst hv1
            have hf1 : w1.frozen? ⟨g, 2, none⟩ = false := (hg1.frozen_far ⟨g, 2, none⟩ (by simp; omega) (fun e => hne e.symm)).trans (by simp only [World.frozen?_drew]; rw [World.frozen?_alloc_past _ _ _ hg]; exact hf2)
            have hc1 : w1.cell? ⟨g, 2, none⟩ = some (.slice A L.length c) := (hg1.cell_far ⟨g, 2, none⟩ (by simp; omega) (fun e => hne e.symm)).trans (by simp only [World.cell?_drew]; rw [World.cell?_alloc_past _ _ _ hg]; exact g2)))
        all_goals
          have hgr : wr.grownBy w1 (Value.slice A L.length c).ownBlock := (World.grownBy_alloc wr _ _).trans ⟨hg1.os, hg1.tape, hg1.output, hg1.size, hg1.block⟩
          have hfin := rpush_end (q := ⟨a, b, n, x, now + 1 + k, N.sent⟩) HRF.out (sentN_succ N a b n x (now + 1) k) HO1.out hgr (by rw [pcs_append, List.length_append]; exact hown1) (by
            rcases hat1 with e | e
            · exact .inl e
            · exact .inr ⟨_, e, by simp⟩)
          have HFIN := hide hfin
          clear hfin hgr hown1 hg1 hat1 hf1 hc1 hi hz0 hz1 H2 HS H1 HOW v1 v2 q0 q1 q2 q3 q4 q5
          go_wp2_with fail
          go_roundw
          case rel =>
            obtain ⟨F2, r1, r2, r3⟩ := HFIN.out
            exact ⟨k + 1, F2, by go_num, by omega, hide ⟨r1, HR.out.2.1.trans r2 HR.out.2.2.size, HR.out.2.2.trans r3 HR.out.2.1⟩⟩
          case measure =>
            simp [intOf]; omega
      · go_wp2_with fail
        go_end0
        have hkc : k = 1 := by omega
        subst hkc
        refine ⟨rfl, F', ?_, (Adds.refl w F).trans HR.out.2.1 HST.out.2.1.size, HST.out.2.1.trans' HR.out.2.2⟩
        rw [HTR.out]
        exact HR.out.1
end Go.Proofs.Ytefjoiinoaofcaa

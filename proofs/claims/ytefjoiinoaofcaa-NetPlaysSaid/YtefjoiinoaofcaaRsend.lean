/- The contract of the reference's Send. -/
import Derived.Test.YtefjoiinoaofcaaRef
namespace Go.Proofs.Ytefjoiinoaofcaa
open Go.RowKit

set_option maxRecDepth 10000 in
set_option maxHeartbeats 3200000 in
theorem rsend_drop (g : Nat) (F : List Nat) (N : NS) (now a b n : Int) (x : ByteArray) (w : World) (h : IsRef w g F N) (hf : N.sent < 100000) (hdr : N.drops b = true) :
    Calls Try.prog 15 #[.pointer (some ⟨g, 0, none⟩), .int .i64 now, msgV a b n x] w fun e w' => e = .returned (.tuple #[]) ∧ IsRef w' g F { N with sent := N.sent + 1 } ∧ Keeps F w w' := by
  have hcase : N.tr.lost = true ∨ (N.tr.lost = false ∧ b < 0) ∨ (N.tr.lost = false ∧ ¬ b < 0 ∧ N.nodes ≤ b) := by
    unfold NS.drops at hdr
    cases hl : N.tr.lost
    · rw [hl] at hdr; simp at hdr
      by_cases h0 : b < 0
      · exact .inr (.inl ⟨rfl, h0⟩)
      · exact .inr (.inr ⟨rfl, h0, by omega⟩)
    · exact .inl rfl
  have HC := hide hcase
  clear hcase hdr
  obtain ⟨vs, vw, L, hd⟩ := h
  have hg := hd.blk.lt
  have c0 := hd.blk.cell 0
  have c1 := hd.blk.cell 1
  have c3 := hd.blk.cell 3
  have f3 := hd.blk.free 3
  simp at c0 c1 c3
  have HD := hide hd
  have HF := hide (hd.count (Keeps.refl [] w) hf)
  unfold msgV
  by_cases h0 : N.scr.length = 0
  · obtain ⟨A, c, hv⟩ := hd.scr.slice
    rw [hv, h0] at c1
    have htr : N.tr = ⟨false, 1, 1⟩ := by unfold NS.tr; rw [if_pos h0]
    rw [htr] at HC
    have hd0 : decide ((0 : Int) < ((0 : Nat) : Int)) = false := by simp
    clear hd h0 hv
    rcases HC.out with hl | ⟨hl, h0⟩ | ⟨hl, h0, h1⟩
    · cases hl
    · have d0 : decide (b < 0) = true := by simpa using h0
      clear HC hl
      go_enter Try.func15, Try.ntmps15
      go_wp2
      go_wp2
      go_quiet (fail)
      go_wp2
      exact bodyPost_ret (v := .tuple #[]) (by simp [results, Try.results15, go_sem]) rfl ⟨rfl, HF.out.1.keep0 ((((Keeps.refl [] _).alloc _).alloc _).drewN nq), (HF.out.2.trans' ((((Keeps.refl [] _).alloc _).alloc _).drewN nq).nil)⟩
    · have d0 : decide (b < 0) = false := by simpa using h0
      have d1 : decide (N.nodes ≤ b) = true := by simpa using h1
      clear HC hl
      go_enter Try.func15, Try.ntmps15
      go_wp2
      go_wp2
      go_quiet (fail)
      go_wp2
      exact bodyPost_ret (v := .tuple #[]) (by simp [results, Try.results15, go_sem]) rfl ⟨rfl, HF.out.1.keep0 ((((Keeps.refl [] _).alloc _).alloc _).drewN nq), (HF.out.2.trans' ((((Keeps.refl [] _).alloc _).alloc _).drewN nq).nil)⟩
  · obtain ⟨b0, c, cur, hv, hc, hm, hb, _, _, hcell⟩ := hd.scr.head (by omega)
    rw [hv] at c1
    have htr : N.tr = trAt N.scr (N.sent % N.scr.length) := by unfold NS.tr; rw [if_neg h0]
    have hlt : N.sent % N.scr.length < N.scr.length := Nat.mod_lt _ (by omega)
    obtain ⟨i0, i1, i2⟩ := trs_at N.scr _ hlt
    replace i0 := hcell _ _ i0
    replace i1 := hcell _ _ i1
    replace i2 := hcell _ _ i2
    rw [← htr] at i0 i1 i2
    have hbl := hb.lt
    have hs := hd.ok.few
    have hl := hd.ok.scr
    generalize ht : N.tr = t at *
    generalize hn : N.scr.length = sl at *
    obtain ⟨r, hr⟩ : ∃ r, N.sent % sl = r := ⟨_, rfl⟩
    rw [hr] at i0 i1 i2 hlt
    have hri : (N.sent : Int) % (sl : Int) = (r : Int) := by omega
    have b1 : (0 : Int) ≤ (r : Int) := by omega
    have b2 : (r : Int) < (sl : Int) := by omega
    have HT := hide ht
    clear hd hv htr hcell hb hr hn ht
    have hn0 : decide (0 < sl) = true := by simp; omega
    rcases HC.out with hl | ⟨hl, h0⟩ | ⟨hl, h0, h1⟩
    · rw [hl] at i0
      clear HC hl
      go_enter Try.func15, Try.ntmps15
      go_wp2
      go_region
      go_wp2
      go_quiet (fail)
      go_wp2
      exact bodyPost_ret (v := .tuple #[]) (by simp [results, Try.results15, go_sem]) rfl ⟨rfl, HF.out.1.keep0 ((((Keeps.refl [] _).alloc _).alloc _).drew.drewN nq), (HF.out.2.trans' ((((Keeps.refl [] _).alloc _).alloc _).drew.drewN nq).nil)⟩
    · rw [hl] at i0
      have d0 : decide (b < 0) = true := by simpa using h0
      clear HC hl
      go_enter Try.func15, Try.ntmps15
      go_wp2
      go_region
      go_wp2
      go_quiet (fail)
      go_wp2
      exact bodyPost_ret (v := .tuple #[]) (by simp [results, Try.results15, go_sem]) rfl ⟨rfl, HF.out.1.keep0 ((((Keeps.refl [] _).alloc _).alloc _).drew.drewN nq), (HF.out.2.trans' ((((Keeps.refl [] _).alloc _).alloc _).drew.drewN nq).nil)⟩
    · rw [hl] at i0
      have d0 : decide (b < 0) = false := by simpa using h0
      have d1 : decide (N.nodes ≤ b) = true := by simpa using h1
      clear HC hl
      go_enter Try.func15, Try.ntmps15
      go_wp2
      go_region
      go_wp2
      go_quiet (fail)
      go_wp2
      exact bodyPost_ret (v := .tuple #[]) (by simp [results, Try.results15, go_sem]) rfl ⟨rfl, HF.out.1.keep0 ((((Keeps.refl [] _).alloc _).alloc _).drew.drewN nq), (HF.out.2.trans' ((((Keeps.refl [] _).alloc _).alloc _).drew.drewN nq).nil)⟩

/-- The loop of the reference's Send, from a world W on. -/
theorem rsend_round (g : Nat) (F : List Nat) (N : NS) (a b n : Int) (x : ByteArray) (t : Int) (k : Nat) (w wr : World) (F' : List Nat) (hr : IsRef wr g F' (sentN N a b n x t k)) (hok : N.ok) (hf : N.sent < 100000) (hk : k < 8) (_hx : w = w) (_hF : F = F) :
    ∃ vs vw L, RefAt wr g F' (sentN N a b n x t k) vs vw L ∧ L.length ≤ 1000000 ∧ New ⟨a, b, n, x, t + k, N.sent⟩ (sentN N a b n x t k).S ∧ (sentN N a b n x t (k + 1)).ok := by
  obtain ⟨vs, vw, L, hd⟩ := hr
  refine ⟨vs, vw, L, hd, ?_, sentN_new hok a b n x t k, sentN_ok hok hf a b n x t (k + 1) (by omega)⟩
  have h1 := hd.perm.length_eq
  have h2 := hd.ok.many
  have h3 := hd.ok.few
  omega
theorem rpush_end {wr w1 : World} {g : Nat} {F' : List Nat} {N M : NS} {vs vw v' : Value} {L : List Par} {q : Par} (h : RefAt wr g F' N vs vw L) (hM : M = { N with S := ins q N.S }) (hok : M.ok) (hg : wr.grownBy w1 vw.ownBlock) (hown : Own w1 69 6 v' (L ++ [q]).length (pcs (L ++ [q])))
    (hat : v'.ownBlock = vw.ownBlock ∨ ∃ b, v'.ownBlock = some b ∧ wr.heap.size ≤ b) : ∃ F2, IsRef (w1.setCell ⟨g, 2, none⟩ v') g F2 M ∧ Adds wr F' F2 ∧ Keeps F' wr (w1.setCell ⟨g, 2, none⟩ v') := by
  subst hM
  have n1 : vw.ownBlock ≠ some g := h.wai.bk_ne h.blk (by decide)
  have hb1 := h.blk.grown hg (fun e => n1 e.symm)
  have n2 : v'.ownBlock ≠ some g := hown.bk_ne hb1 (by decide)
  have hb2 := hb1.set 2 v'
  have k1 : Keeps (g :: vw.ownBlock.toList) wr w1 := Keeps.of_grown hg (fun b hb => by simp [hb])
  have k2 : Keeps [g] w1 (w1.setCell ⟨g, 2, none⟩ v') := (Keeps.refl _ _).setCell (.inl (by simp)) _
  have hown2 : Own (w1.setCell ⟨g, 2, none⟩ v') 69 6 v' (L ++ [q]).length (pcs (L ++ [q])) := hown.keep k2 (fun b hb => by
    simp only [List.mem_singleton]
    rintro rfl
    exact n2 hb)
  obtain ⟨t1, t2, t3⟩ := h.turn (N' := { N with S := ins q N.S }) (k1.setCell (.inl (by simp)) _) (by simpa using hb2) hown2 hat ((List.perm_append_comm.trans (List.Perm.cons q h.perm)).trans (ins_perm q N.S).symm) hok rfl
  exact ⟨_, ⟨_, _, _, t1⟩, t3, t2⟩

end Go.Proofs.Ytefjoiinoaofcaa

/- The walk of JournalEarly. -/
import Derived.Test.YtcfglfnncpcfoaaSane
namespace Go.Proofs.Ytcfglfnncpcfoaa
open Go.RowKit
theorem early_late (e : Ev) (h : e.t < 0) : takeE Lg.new e = 71 ∧ takeS Lg.new e = Lg.new := by
  have h1 : takeE Lg.new e = 71 := takeE_late (by simp [Lg.new]; exact h)
  exact ⟨h1, takeS_not (by rw [h1]; decide)⟩
theorem early_fine (e : Ev) (h : ¬ e.t < 0) : takeE Lg.new e = 0 ∧ takeS Lg.new e = ⟨[e], 0⟩ := by
  have h1 : takeE Lg.new e = 0 := takeE_ok (by simp [Lg.new]; omega) rfl (by simp [Lg.new])
  exact ⟨h1, by rw [takeS_ok h1]; rfl⟩
theorem upto_all (L : List Ev) (x : Int) (h : ∀ e ∈ L, e.t ≤ x) : upto L x = L.length :=
  cutN_of _ L _ (parts_of _ L _ (Nat.le_refl _) (fun i _ hi => decide_eq_true (h _ (List.getElem_mem hi))) (fun i h1 h2 => by omega))
theorem settle_most (L : List Ev) (h : ∀ e ∈ L, e.t ≤ 9223372036854775807) : settleR ⟨L, 0⟩ 9223372036854775807 = L ∧ settleS ⟨L, 0⟩ 9223372036854775807 = ⟨[], 9223372036854775808⟩ := by
  have hu := upto_all L _ h
  unfold settleR settleS
  rw [if_neg (show ¬ (9223372036854775807 : Int) < ((0 : Nat) : Int) by omega), if_neg (show ¬ (9223372036854775807 : Int) < ((0 : Nat) : Int) by omega), hu]
  simp only [List.take_length, List.drop_length]
  exact ⟨trivial, rfl⟩
theorem settle_again (x : Int) (h : x < 9223372036854775808) : settleR ⟨[], 9223372036854775808⟩ x = [] ∧ settleS ⟨[], 9223372036854775808⟩ x = ⟨[], 9223372036854775808⟩ := by
  unfold settleR settleS
  rw [if_pos (by show x < ((9223372036854775808 : Nat) : Int); omega), if_pos (by show x < ((9223372036854775808 : Nat) : Int); omega)]
  exact ⟨rfl, rfl⟩
theorem settle_less (x : Int) (h : x < 0) : settleR Lg.new x = [] ∧ settleS Lg.new x = Lg.new := by
  unfold settleR settleS
  rw [if_pos (by simp [Lg.new]; exact h), if_pos (by simp [Lg.new]; exact h)]
  exact ⟨rfl, rfl⟩
theorem late_end (e : Ev) (h : e.t ≤ 9223372036854775807) : takeE ⟨[], 9223372036854775808⟩ e = 71 ∧ takeS ⟨[], 9223372036854775808⟩ e = ⟨[], 9223372036854775808⟩ := by
  have h1 : takeE ⟨[], 9223372036854775808⟩ e = 71 := takeE_late (by show e.t < ((9223372036854775808 : Nat) : Int); omega)
  exact ⟨h1, takeS_not (by rw [h1]; decide)⟩
set_option maxHeartbeats 2000000 in
set_option maxRecDepth 100000 in
theorem early_walk (e : Ev) (x : Int) (w : World) (he1 : -9223372036854775808 ≤ e.t) (he2 : e.t ≤ 9223372036854775807) (hx1 : -9223372036854775808 ≤ x) (hx2 : x ≤ 9223372036854775807) :
    Calls Try.prog 9 #[ev e, .int .i64 x] w fun r w' => r = .returned (.bool true) ∧ Keeps [] w w' := by
  obtain ⟨m, hm⟩ : ∃ m : Int, m = min x (-1) := ⟨_, rfl⟩
  have hm1 : min x (-1) = m := hm.symm
  have hm2 : (if (-1 : Int) < x then (-1 : Int) else x) = m := by split <;> omega
  have hm3 : m < 0 := by omega
  have hm4 : -9223372036854775808 ≤ m := by omega
  have HT := hide (And.intro he1 he2)
  have HSL := hide (settle_less m hm3)
  have HLE := hide (late_end e he2)
  have HSA := hide (settle_again 9223372036854775807 (by omega))
  obtain ⟨Z, hZ⟩ : ∃ Z : Lg, Z = ⟨[], 9223372036854775808⟩ := ⟨_, rfl⟩
  have HB := hide (Bk.new w 27 (ec e).toArray)
  have HK := hide ((Keeps.refl [] w).alloc (.cells (ec e).toArray 27))
  have HZO := hide (show ((Z.op : Int) - 1 = 9223372036854775807) by rw [hZ]; decide)
  have HMO := hide (settle_most)
  rw [← hZ] at HLE HSA HMO
  clear hm hZ he1 he2
  unfold ev
  go_enter Try.func9, Try.ntmps9
  go_wp2_with fail
  generalize w.alloc (.cells (ec e).toArray 27) = w0 at HB HK ⊢
  generalize w.heap.size = bx at HB ⊢
  refine (sanity_any w0).mono ?_
  rintro r w1 ⟨rfl, k1⟩
  have HE := hide ((EvAt.box HB.out).keep k1)
  replace HK := hide (HK.out.trans' k1)
  clear k1 HB
  go_wp2_with fail
  refine (new_sn w1).mono ?_
  rintro r w2 ⟨rfl, h2⟩
  have H2 := hide h2
  generalize w1.heap.size = g at H2 ⊢
  clear h2
  go_wp2_with fail
  refine H2.out.settled.mono ?_
  rintro r w3 ⟨rfl, rfl⟩
  rw [show ((Lg.new.op : Int) - 1) = -1 from rfl]
  go_wp2_with fail
  refine (H2.out.settle m hm4 (by omega)).mono ?_
  rintro r w4 ⟨v4, rfl, e4, n4, h4⟩
  rw [HSL.out.1] at e4
  rw [HSL.out.2] at h4
  have e4' : Own w4 27 18 v4 0 [] := e4
  obtain ⟨A4, c4, rfl⟩ := Own.slice e4'
  have H4 := hide h4
  clear e4 e4' n4 h4 H2
  go_wp2_with fail
  refine H4.out.settled.mono ?_
  rintro r w5 ⟨rfl, rfl⟩
  rw [show ((Lg.new.op : Int) - 1) = -1 from rfl]
  go_wp2_with (with_reducible refine Halt.load ?_)
  refine Halt.on ?_
  have HE4 := hide (HE.out.keep H4.out.keeps)
  have t0 : w4.cell? ⟨bx, 0, none⟩ = some (.int .i64 e.t) := HE4.out 0 _ rfl
  refine wpList_load_ev rfl _ rfl bx 0 e rfl HE4.out ?_
  go_wp2_with fail
  by_cases hl : e.t < 0
  · have hd : decide (e.t < 0) = true := by simp; omega
    have HT1 := hide (early_late e hl)
    have HSM := hide (HMO.out [] (by simp; try exact HT.out.2))
    clear HMO
    refine (H4.out.take e HT.out.1 HT.out.2).mono ?_
    rintro r w6 ⟨hr, h6⟩
    rw [HT1.out.1] at hr
    rw [HT1.out.2] at h6
    subst hr
    have H6 := hide h6
    have t0 : w6.cell? ⟨bx, 0, none⟩ = some (.int .i64 e.t) := (HE.out.keep h6.keeps) 0 _ rfl
    clear h6 H4 HE4 HT1
    go_wp2_with fail
    refine H6.out.events.mono ?_
    rintro r w7 ⟨v7, rfl, e7, n7, h7, k7⟩
    have e7' : Own w7 27 18 v7 0 (ecs []) := e7
    obtain ⟨A7, c7, rfl⟩ := Own.slice e7'
    have H7 := hide h7
    clear e7 e7' n7 h7 k7 H6 t0
    go_wp2_with fail
    refine (H7.out.settle 9223372036854775807 (by omega) (by omega)).mono ?_
    rintro r w8 ⟨v8, rfl, e8, n8, h8⟩
    rw [show settleR Lg.new 9223372036854775807 = [] from HSM.out.1] at e8
    rw [show settleS Lg.new 9223372036854775807 = Z from HSM.out.2] at h8
    have e8' : Own w8 27 18 v8 0 (ecs []) := e8
    obtain ⟨A8, c8, rfl⟩ := Own.slice e8'
    have H8 := hide h8
    clear e8 e8' n8 h8 H7 HSM
    go_wp2_with fail
    refine H8.out.settled.mono ?_
    rintro r w9 ⟨rfl, rfl⟩
    rw [HZO.out]
    go_wp2_with (with_reducible refine Halt.load ?_)
    refine Halt.on ?_
    refine wpList_load_evG (by rfl) _ rfl bx 0 e rfl (HE.out.keep H8.out.keeps) ?_
    go_wp2_with fail
    refine (H8.out.take e HT.out.1 HT.out.2).mono ?_
    rintro r w10 ⟨hr, h10⟩
    rw [HLE.out.1] at hr
    rw [HLE.out.2] at h10
    subst hr
    have H10 := hide h10
    clear h10 H8
    go_wp2_with fail
    refine (H10.out.settle 9223372036854775807 (by omega) (by omega)).mono ?_
    rintro r w11 ⟨v11, rfl, e11, n11, h11⟩
    rw [HSA.out.1] at e11
    have e11' : Own w11 27 18 v11 0 [] := e11
    obtain ⟨A11, c11, rfl⟩ := Own.slice e11'
    have HF := hide (HK.out.trans' h11.keeps)
    clear e11 e11' n11 h11 H10
    go_wp2
    go_ret
    exact ⟨rfl, HF.out⟩
  · have hd : decide (e.t < 0) = false := by simp; omega
    have HT1 := hide (early_fine e hl)
    have HSM := hide (HMO.out [e] (by simp; try exact HT.out.2))
    clear HMO
    refine (H4.out.take e HT.out.1 HT.out.2).mono ?_
    rintro r w6 ⟨hr, h6⟩
    rw [HT1.out.1] at hr
    rw [HT1.out.2] at h6
    subst hr
    have H6 := hide h6
    have t0 : w6.cell? ⟨bx, 0, none⟩ = some (.int .i64 e.t) := (HE.out.keep h6.keeps) 0 _ rfl
    clear h6 H4 HE4 HT1
    go_wp2_with fail
    refine H6.out.events.mono ?_
    rintro r w7 ⟨v7, rfl, e7, n7, h7, k7⟩
    have e7' : Own w7 27 18 v7 1 (ecs [e]) := e7
    obtain ⟨A7, c7, rfl⟩ := Own.slice e7'
    have H7 := hide h7
    clear e7 e7' n7 h7 k7 H6 t0
    go_wp2_with fail
    refine (H7.out.settle 9223372036854775807 (by omega) (by omega)).mono ?_
    rintro r w8 ⟨v8, rfl, e8, n8, h8⟩
    rw [show settleR ⟨[e], 0⟩ 9223372036854775807 = [e] from HSM.out.1] at e8
    rw [show settleS ⟨[e], 0⟩ 9223372036854775807 = Z from HSM.out.2] at h8
    have e8' : Own w8 27 18 v8 1 (ecs [e]) := e8
    obtain ⟨A8, c8, rfl⟩ := Own.slice e8'
    have H8 := hide h8
    clear e8 e8' n8 h8 H7 HSM
    go_wp2_with fail
    refine H8.out.settled.mono ?_
    rintro r w9 ⟨rfl, rfl⟩
    rw [HZO.out]
    go_wp2_with (with_reducible refine Halt.load ?_)
    refine Halt.on ?_
    refine wpList_load_evG (by rfl) _ rfl bx 0 e rfl (HE.out.keep H8.out.keeps) ?_
    go_wp2_with fail
    refine (H8.out.take e HT.out.1 HT.out.2).mono ?_
    rintro r w10 ⟨hr, h10⟩
    rw [HLE.out.1] at hr
    rw [HLE.out.2] at h10
    subst hr
    have H10 := hide h10
    clear h10 H8
    go_wp2_with fail
    refine (H10.out.settle 9223372036854775807 (by omega) (by omega)).mono ?_
    rintro r w11 ⟨v11, rfl, e11, n11, h11⟩
    rw [HSA.out.1] at e11
    have e11' : Own w11 27 18 v11 0 [] := e11
    obtain ⟨A11, c11, rfl⟩ := Own.slice e11'
    have HF := hide (HK.out.trans' h11.keeps)
    clear e11 e11' n11 h11 H10
    go_wp2
    go_ret
    exact ⟨rfl, HF.out⟩
end Go.Proofs.Ytcfglfnncpcfoaa

/- The law QueueOrder, the walk. -/
import Derived.Test.YtlpmalkjbagbgaaOrders
import Derived.Deep.RegionLaw
namespace Go.Proofs.Ytlpmalkjbagbgaa
open Go.RowKit Go.Shelf
theorem put_listN (A : Option Addr) (c n : Nat) (l : List Hold) (w : World) (hn : l.length = n) (hl : Came w A c l) : Calls Try.prog 11 #[.slice A n c] w fun e w' => ∃ v, e = .returned v ∧ HO w' v (que l) ∧ New w v ∧ Keeps [] w w' := by
  subst hn
  exact put_list A c l w hl.le hl.cm hl.s hl.nil
theorem Came.own {w : World} {A : Option Addr} {c n : Nat} {L : List Hold} (h : Own w 28 10 (.slice A n c) n (hcs L)) (hn : L.length = n) : Came w A c L := by
  subst hn
  obtain ⟨A', c', hv, hC⟩ := Came.of (show HO w (.slice A L.length c) L from h)
  injection hv with h1 _ h3
  subst h1 h3
  exact hC
theorem before_yes (a b : Hold) (w : World) (h : beforeB a b = true) : Calls Try.prog 18 #[hv a, hv b] w fun e w' => e = .returned (.bool true) ∧ Keeps [] w w' := by
  rw [← h]
  exact before_any a b w
set_option maxHeartbeats 8000000 in
set_option maxRecDepth 100000 in
theorem order_walk (A : Option Addr) (c : Nat) (l : List Hold) (A' : Option Addr) (c' : Nat) (B : List Int) (w : World) (hl : Came w A c l) (hb : Src w 1 (.slice A' B.length c') B.length (ub B)) (hx : ∀ x ∈ B, 0 ≤ x ∧ x ≤ 255) (hBl : B.length ≤ 9223372036854775807) :
    Calls Try.prog 5 #[.slice A l.length c, .slice A' B.length c'] w fun e w' => e = .returned (.bool true) ∧ Keeps [] w w' := by
  obtain ⟨M, hMl, hMe, hMc⟩ := hl.front (min l.length 30) (by omega)
  have hmin : (if (30 : Int) < (l.length : Int) then (30 : Int) else (l.length : Int)) = (M.length : Int) := by rw [hMl]; split <;> omega
  have hM30 : M.length ≤ 30 := by omega
  have z1 : (0 : Int) ≤ (M.length : Int) := by omega
  have z2 : (M.length : Int) ≤ (c : Int) := by have := hl.le; omega
  have z3 : M.length ≤ c := by have := hl.le; omega
  have HMC := hide hMc
  have HB := hide hb
  have HX := hide hx
  clear hl hMl hMe hMc hb hx
  go_enter Try.func5, Try.ntmps5
  go_wp2_with fail
  refine (sanity_any w).mono ?_
  rintro e w1 ⟨rfl, k1⟩
  replace HMC := hide (HMC.out.keep k1)
  have HK := hide k1
  clear k1
  go_wp2_with (with_reducible refine Halt.append ?_)
  refine Halt.on ?_
  refine wpList_copyall rfl _ _ rfl w w1 A c M.length M rfl rfl rfl HK.out HMC.out.s (by omega) ?_
  intro v1 w2 HO1 HN1 HK1
  obtain ⟨A1, c1, hv1, hle1, hcm1⟩ := HO.form HO1.out
  subst hv1
  have HN := hide (show New w (.slice A1 M.length c1) from HN1.out)
  have HO0 := hide (show OX w2 A1 c1 M 0 by rw [OX, updX_zero]; exact HO1.out)
  clear HO1 HN1 HK HMC hmin z1 z2 z3
  go_wp2
  go_loopw [7, 24] (fun _ s24 wr => ∃ k : Nat, k ≤ M.length ∧ s24 = .int .i64 k ∧ Hid (OX wr A1 c1 M k) ∧ Hid (Keeps [] w wr)) (fun _ s24 _ => M.length - (intOf s24).toNat)
  case atStart => exact ⟨0, Nat.zero_le _, rfl, HO0, HK1⟩
  case round =>
    obtain ⟨k, hk, rfl, HOW, HK⟩ := hrel
    by_cases hlt : k < M.length
    · have hltz : (k : Int) < (M.length : Int) := by omega
      have hk0 : (0 : Int) ≤ (k : Int) := by omega
      obtain ⟨g, cur, rfl, d0, d2, hbk⟩ := HOW.out.cells hlt
      have f0 := hbk.free (k * 10)
      have f2 := hbk.free (k * 10 + 2)
      obtain ⟨m, hm⟩ : ∃ m : Int, (if M[k].item < 0 then 0 else M[k].item) = m := ⟨_, rfl⟩
      have HS := hide (HOW.out.step hlt hm HK.out (HN.out g rfl))
      generalize M[k].item = it at d2 hm
      generalize M[k].id = ii at d0
      clear hbk
      go_wp2
      go_roundw
      case measure => simp [intOf]; omega
      case rel => exact ⟨k + 1, by omega, by go_num, hide HS.out.1, hide HS.out.2⟩
    · obtain rfl : k = M.length := by omega
      have hltz : ¬ (M.length : Int) < (M.length : Int) := by omega
      obtain ⟨X, hX⟩ : ∃ X, X = M.mapIdx nrm := ⟨_, rfl⟩
      have hXl : X.length = M.length := by rw [hX]; simp
      have HXO := hide (show Own wr 28 10 (.slice A1 M.length c1) M.length (hcs X) by rw [hX, ← updX_end]; exact HOW.out)
      have HXI := hide (show X.Pairwise (fun a b => a.id ≠ b.id) by rw [hX]; exact X_ids M)
      have HXK := hide (show ∀ x ∈ X, ¬ (x.id < 1 ∨ x.item < 0) by rw [hX]; exact X_ok M)
      have HXL := hide hXl
      clear hX HOW hXl HO0 HK1
      have HCX := hide (Came.own HXO.out HXL.out)
      go_wp2_with (with_reducible refine Halt.append ?_)
      refine Halt.on ?_
      refine wpList_copyall rfl _ _ rfl wr wr A1 c1 M.length X rfl rfl HXL.out (Keeps.refl _ _) HCX.out.s (by have := HXL.out; omega) ?_
      intro v2 w3 HO2 HN2 HK2
      obtain ⟨wa, hwa⟩ : ∃ wa : World, wa = wr := ⟨_, rfl⟩
      rw [← hwa] at HN2 HK2 HXO HK HCX
      clear hwa HXO
      obtain ⟨A2, c2, hv2, hle2, hcm2⟩ := HO.form HO2.out
      subst hv2
      have HOY := hide (show Own w3 28 10 (.slice A2 M.length c2) M.length (hcs X) by have := HO2.out; unfold HO at this; rw [HXL.out] at this; exact this)
      have HNY := hide (show New wa (.slice A2 M.length c2) by have := HN2.out; rw [HXL.out] at this; exact this)
      rw [HXL.out] at hle2 ⊢
      clear HO2 HN2
      go_wp2
      go_loopw [9, 10] (fun s9 _ wr => ∃ (k : Nat) (Y : List Hold), s9 = .int .i64 ((k : Int) + 1) ∧ k ≤ M.length ∧ Hid (Y.length = M.length ∧ Y.Perm X) ∧ Hid (Own wr 28 10 (.slice A2 M.length c2) M.length (hcs Y)) ∧ Hid (Keeps [] wa wr)) (fun s9 _ _ => M.length + 1 - (intOf s9).toNat)
      case atStart => exact ⟨0, X, rfl, by omega, hide ⟨HXL.out, List.Perm.refl _⟩, HOY, HK2⟩
      case round =>
        obtain ⟨k, Y, rfl, hk, HY, HOW, HKR⟩ := hrel
        clear HOY
        by_cases hgo : k + 1 < M.length ∧ 0 < B.length
        · obtain ⟨hlt2, hnb⟩ := hgo
          have hd1 : ((k : Int) + 1) < (M.length : Int) := by omega
          have hd2 : (0 : Int) < (B.length : Int) := by omega
          have hd2n : decide (0 < B.length) = true := by simp [hnb]
          have hd1b : decide ((k : Int) + 1 < (M.length : Int)) = true := by simp [hd1]
          have hk0 : (0 : Int) ≤ (k : Int) + 1 := by omega
          have hk1 : ((k : Int) + 1).toNat = k + 1 := by omega
          obtain ⟨i, hi⟩ : ∃ i : Nat, ((k : Int) + 1) % (B.length : Int) = (i : Int) := ⟨(((k : Int) + 1) % (B.length : Int)).toNat, (Int.toNat_of_nonneg (Int.emod_nonneg _ (by omega))).symm⟩
          have hib : i < B.length := by
            have := Int.emod_lt_of_pos ((k : Int) + 1) (b := (B.length : Int)) (by omega)
            rw [hi] at this
            omega
          have hi0 : (0 : Int) ≤ (i : Int) := by omega
          have hi1 : (i : Int) < (B.length : Int) := by omega
          obtain ⟨bo, oo, hA', hbc⟩ := (Src.keep HB.out (HK.out.trans' HKR.out) (by simp)).headN (by omega) (by omega)
          subst hA'
          have hx := HX.out B[i] (List.getElem_mem _)
          have hbx := hbc i (.int .u8 B[i]) (by simp [ub, hib])
          generalize B[i] = x at hx hbx
          obtain ⟨hx0, hx1⟩ := hx
          have hx8 : IntKind.i64.wrap x = x := by rw [IntKind.wrap_i64]; omega
          obtain ⟨j, hj⟩ : ∃ j : Nat, x % ((k : Int) + 1 + 1) = (j : Int) := ⟨(x % ((k : Int) + 1 + 1)).toNat, (Int.toNat_of_nonneg (Int.emod_nonneg _ (by omega))).symm⟩
          have hjk : j < k + 2 := by
            have := Int.emod_lt_of_pos x (b := (k : Int) + 1 + 1) (by omega)
            rw [hj] at this
            omega
          have hj0 : (0 : Int) ≤ (j : Int) := by omega
          have hj1 : (j : Int) < (M.length : Int) := by omega
          have hkp : (1 : Int) ≤ (k : Int) + 1 + 1 := by omega
          clear hbc hnb
          go_wp2
          rw [hj]
          clear hi hj hx8 hbx hx0 hx1 hib hi0 hi1 hd2 hd2n hd1b hkp
          have hYl := HY.out.1
          obtain ⟨g2, c2', cur2, hv2, _, _, hbk2, hsz2, _, hcell2⟩ := Own.head HOW.out (by omega)
          injection hv2 with hA2 _ hcc2
          subst hA2 hcc2
          have hkY : k + 1 < Y.length := by omega
          have hjY : j < Y.length := by omega
          have hcz : ∀ (q : Nat) (u : Value), (hcs Y)[q]? = some u → wr.cell? ⟨g2, 0 + q, none⟩ = some u := fun q u hu => by rw [Nat.zero_add]; exact hcell2 q u hu
          obtain ⟨e0, e1, e2, e3, e4, e5, e6, e7, e8, e9⟩ := hold_cells hcz (k + 1) hkY
          obtain ⟨f0, f1, f2, f3, f4, f5, f6, f7, f8, f9⟩ := hold_cells hcz j hjY
          simp only [Nat.zero_add] at e0 e1 e2 e3 e4 e5 e6 e7 e8 e9 f0 f1 f2 f3 f4 f5 f6 f7 f8 f9
          have HPM := hide (List.set_set_perm hkY hjY)
          have HYL := hide hYl
          have HYP := hide HY.out.2
          have HOWD := hide (Own.drew HOW.out)
          have HKD := hide HKR.out.drew
          have hge := HNY.out g2 rfl
          clear hbk2 hsz2 hcell2 hcz HOW HKR HY
          generalize Y[k + 1] = yk at e0 e1 e2 e3 e4 e5 e6 e7 e8 e9 HPM
          generalize Y[j] = yj at f0 f1 f2 f3 f4 f5 f6 f7 f8 f9 HPM
          have HE := hide (And.intro hkY hjY)
          clear hkY hjY
          rw [hYl] at HE
          clear hYl
          refine wp_region_any (by kernel_rfl) ?_
          change wpAny _ _ _ _ _ _ _ (World.drew _)
          refine wpAny_take (i := 0) (v := ?_) rfl (by kernel_rfl) (by kernel_rfl) (by kernel_rfl) (fun _ _ _ h => h) (Or.inl ⟨by rfl, ?_⟩) ?_
          rotate_left
          · (intro w; go_simp; try with_reducible rfl)
          refine wpAny_take (i := 1) (v := ?_) rfl (by kernel_rfl) (by kernel_rfl) (by kernel_rfl) (fun _ _ _ h => h) (Or.inl ⟨by rfl, ?_⟩) ?_
          rotate_left
          · (intro w; go_simp; try with_reducible rfl)
          refine wpAny_take (i := 2) (v := ?_) rfl (by kernel_rfl) (by kernel_rfl) (by kernel_rfl) (fun _ _ _ h => h) (Or.inl ⟨by rfl, ?_⟩) ?_
          rotate_left
          · (intro w; go_simp; try with_reducible rfl)
          refine wpAny_take (i := 3) (v := ?_) rfl (by kernel_rfl) (by kernel_rfl) (by kernel_rfl) (fun _ _ _ h => h) (Or.inl ⟨by rfl, ?_⟩) ?_
          rotate_left
          · (intro w; go_simp; try with_reducible rfl)
          refine wpAny_take (i := 4) (v := ?_) rfl (by kernel_rfl) (by kernel_rfl) (by kernel_rfl) (fun _ _ _ h => h) (Or.inl ⟨by rfl, ?_⟩) ?_
          rotate_left
          · (intro w; go_simp; try with_reducible rfl)
          refine wpAny_take (i := 5) (v := ?_) rfl (by kernel_rfl) (by kernel_rfl) (by kernel_rfl) (fun _ _ _ h => h) (Or.inl ⟨by rfl, ?_⟩) ?_
          rotate_left
          · (intro w; go_simp; try with_reducible rfl)
          refine wpAny_take (i := 6) (v := ?_) rfl (by kernel_rfl) (by kernel_rfl) (by kernel_rfl) (fun _ _ _ h => h) (Or.inl ⟨by rfl, ?_⟩) ?_
          rotate_left
          · (intro w; go_simp; try with_reducible rfl)
          refine wpAny_take (i := 8) (v := ?_) rfl (by kernel_rfl) (by kernel_rfl) (by kernel_rfl) (fun _ _ _ h => h) (Or.inl ⟨by rfl, ?_⟩) ?_
          rotate_left
          · (intro w; go_simp; try with_reducible rfl)
          refine wpAny_take (i := 9) (v := ?_) rfl (by kernel_rfl) (by kernel_rfl) (by kernel_rfl) (fun _ _ _ h => h) (Or.inl ⟨by rfl, ?_⟩) ?_
          rotate_left
          · (intro w; go_simp; try with_reducible rfl)
          refine wpAny_take (i := 10) (v := ?_) rfl (by kernel_rfl) (by kernel_rfl) (by kernel_rfl) (fun _ _ _ h => h) (Or.inl ⟨by rfl, ?_⟩) ?_
          rotate_left
          · (intro w; go_simp; try with_reducible rfl)
          refine wpAny_ready (rs := [7, 11]) (by kernel_rfl) (by simp) ?_
          refine AllReady.cons rfl (fun K hK => ?_) (AllReady.cons rfl (fun K hK => ?_) AllReady.nil)
          · go_simp
            refine hK _ _ ?_
            clear hK K
            refine wpAny_ready (rs := [11]) (by kernel_rfl) (by simp) ?_
            refine AllReady.cons rfl (fun K hK => ?_) AllReady.nil
            go_simp
            refine hK _ _ ?_
            clear hK K
            refine wpAny_take (i := 12) (v := ?_) rfl (by kernel_rfl) (by kernel_rfl) (by kernel_rfl) (fun _ _ _ h => h) (Or.inl ⟨by rfl, ?_⟩) ?_
            rotate_left
            · (intro w; go_simp; try with_reducible rfl)
            refine wpAny_ready (rs := [13]) (by kernel_rfl) (by simp) ?_
            refine AllReady.cons rfl (fun K hK => ?_) AllReady.nil
            refine step_store_hold (by rfl) _ _ (by rfl) wa _ g2 (k + 1) c2 M.length Y yj (by rfl) (by rfl) HOWD.out HYL.out HE.out.1 HKD.out hge ?_
            intro w5 HO5 HK5
            refine hK _ _ ?_
            clear hK K
            refine wpAny_take (i := 14) (v := ?_) rfl (by kernel_rfl) (by kernel_rfl) (by kernel_rfl) (fun _ _ _ h => h) (Or.inl ⟨by rfl, ?_⟩) ?_
            rotate_left
            · (intro w; go_simp; try with_reducible rfl)
            refine wpAny_ready (rs := [15]) (by kernel_rfl) (by simp) ?_
            refine AllReady.cons rfl (fun K hK => ?_) AllReady.nil
            refine step_store_hold (by rfl) _ _ (by rfl) wa _ g2 j c2 M.length (Y.set (k + 1) yj) yk (by rfl) (by rfl) HO5.out (by rw [List.length_set]; exact HYL.out) HE.out.2 HK5.out hge ?_
            intro w6 HO6 HK6
            refine hK _ _ ?_
            clear hK K
            refine wpAny_done (by kernel_rfl) ?_ _
            clear HO5 HK5 HOWD HKD HE
            go_wp2
            go_roundw
            case measure => simp [intOf]; omega
            case rel => exact ⟨k + 1, (Y.set (k + 1) yj).set j yk, by go_num, by omega, hide ⟨by rw [List.length_set, List.length_set]; exact HYL.out, HPM.out.trans HYP.out⟩, HO6, HK6⟩
          · go_simp
            refine hK _ _ ?_
            clear hK K
            refine wpAny_ready (rs := [7]) (by kernel_rfl) (by simp) ?_
            refine AllReady.cons rfl (fun K hK => ?_) AllReady.nil
            go_simp
            refine hK _ _ ?_
            clear hK K
            refine wpAny_take (i := 12) (v := ?_) rfl (by kernel_rfl) (by kernel_rfl) (by kernel_rfl) (fun _ _ _ h => h) (Or.inl ⟨by rfl, ?_⟩) ?_
            rotate_left
            · (intro w; go_simp; try with_reducible rfl)
            refine wpAny_ready (rs := [13]) (by kernel_rfl) (by simp) ?_
            refine AllReady.cons rfl (fun K hK => ?_) AllReady.nil
            refine step_store_hold (by rfl) _ _ (by rfl) wa _ g2 (k + 1) c2 M.length Y yj (by rfl) (by rfl) HOWD.out HYL.out HE.out.1 HKD.out hge ?_
            intro w5 HO5 HK5
            refine hK _ _ ?_
            clear hK K
            refine wpAny_take (i := 14) (v := ?_) rfl (by kernel_rfl) (by kernel_rfl) (by kernel_rfl) (fun _ _ _ h => h) (Or.inl ⟨by rfl, ?_⟩) ?_
            rotate_left
            · (intro w; go_simp; try with_reducible rfl)
            refine wpAny_ready (rs := [15]) (by kernel_rfl) (by simp) ?_
            refine AllReady.cons rfl (fun K hK => ?_) AllReady.nil
            refine step_store_hold (by rfl) _ _ (by rfl) wa _ g2 j c2 M.length (Y.set (k + 1) yj) yk (by rfl) (by rfl) HO5.out (by rw [List.length_set]; exact HYL.out) HE.out.2 HK5.out hge ?_
            intro w6 HO6 HK6
            refine hK _ _ ?_
            clear hK K
            refine wpAny_done (by kernel_rfl) ?_ _
            clear HO5 HK5 HOWD HKD HE
            go_wp2
            go_roundw
            case measure => simp [intOf]; omega
            case rel => exact ⟨k + 1, (Y.set (k + 1) yj).set j yk, by go_num, by omega, hide ⟨by rw [List.length_set, List.length_set]; exact HYL.out, HPM.out.trans HYP.out⟩, HO6, HK6⟩
        · have hcs : (decide ((k : Int) + 1 < (M.length : Int)) = false ∨ (decide ((k : Int) + 1 < (M.length : Int)) = true ∧ decide (0 < B.length) = false)) := by
            by_cases h1 : k + 1 < M.length
            · refine .inr ⟨by simp; omega, ?_⟩
              rw [decide_eq_false_iff_not]
              exact fun h => hgo ⟨h1, h⟩
            · exact .inl (by simp; omega)
          have hqp := que_perm (l := X) (by have := HXL.out; omega) HXK.out HXI.out
          obtain ⟨Z, hZ⟩ : ∃ Z, Z = que X := ⟨_, rfl⟩
          have HQL := hide (show Z.length = M.length by rw [hZ]; exact hqp.length_eq.trans HXL.out)
          have HQO := hide (show Ord Z by rw [hZ]; exact (isQ_que X).ord)
          have HQS := hide (show que Y = Z by rw [hZ]; exact que_same (l := X) (by have := HXL.out; omega) HXK.out HXI.out HY.out.2)
          have HZ := hide hZ
          clear hgo hqp HXK HXI hZ
          rcases hcs with h1 | ⟨h1, h2⟩
          all_goals
            go_wp2_with fail
            refine (put_listN A1 c1 M.length X wr HXL.out (HCX.out.keep HKR.out)).mono ?_
            rintro e w5 ⟨v5, rfl, ho5, hn5, k5⟩
            rw [← HZ.out] at ho5
            obtain ⟨A5, c5, hv5, hC5⟩ := Came.of ho5
            rw [HQL.out] at hv5
            subst hv5
            have HC5 := hide hC5
            have HCY := hide (Came.own (Own.keep HOW.out k5 (by simp)) HY.out.1)
            have HK5 := hide ((HK.out.trans' HKR.out).trans' k5)
            clear ho5 hn5 k5 hC5 HOW
            go_wp2_with fail
            refine (put_listN A2 c2 M.length Y w5 HY.out.1 HCY.out).mono ?_
            rintro e w6 ⟨v6, rfl, ho6, hn6, k6⟩
            rw [HQS.out] at ho6
            obtain ⟨A6, c6, hv6, hC6⟩ := Came.of ho6
            rw [HQL.out] at hv6
            subst hv6
            have HC6 := hide hC6
            replace HC5 := hide (HC5.out.keep k6)
            have HK6 := hide (HK5.out.trans' k6)
            clear ho6 hn6 k6 hC6 HCY HK5 HCX HZ HQS HXL HY HKR HK HK2
            go_wp2
            go_loopw [13] (fun s13 wr => ∃ k : Nat, s13 = .int .i64 ((k : Int) + 1) ∧ k ≤ M.length ∧ Hid (Keeps [] w6 wr)) (fun s13 _ => M.length + 1 - (intOf s13).toNat)
            case atStart => exact ⟨0, rfl, by omega, hide (Keeps.refl _ _)⟩
            case round =>
              obtain ⟨q, rfl, hq, HKQ⟩ := hrel
              by_cases hq1 : q + 1 < M.length
              · have hd1 : ((q : Int) + 1) < (M.length : Int) := by omega
                have hq0 : (0 : Int) ≤ (q : Int) + 1 := by omega
                have hq2 : ((q : Int) + 1).toNat = q + 1 := by omega
                have hq3 : (q : Int) + 1 - 1 = (q : Int) := by omega
                have hq4 : (q : Int) < (M.length : Int) := by omega
                have hq8 : IntKind.i64.wrap ((q : Int) + 1 - 1) = (q : Int) := by rw [IntKind.wrap_i64]; omega
                have hq9 : IntKind.i64.wrap (q : Int) = (q : Int) := by rw [IntKind.wrap_i64]; omega
                have hq5 : (0 : Int) ≤ (q : Int) := by omega
                have hZl := HQL.out
                have hq6 : q < Z.length := by omega
                have hq7 : q + 1 < Z.length := by omega
                obtain ⟨b5, o5, hA5, hcell⟩ := (HC5.out.keep HKQ.out).s.headN (by omega) (by omega)
                obtain ⟨e0, e1, e2, e3, e4, e5, e6, e7, e8, e9⟩ := hold_cells hcell q hq6
                obtain ⟨f0, f1, f2, f3, f4, f5, f6, f7, f8, f9⟩ := hold_cells hcell (q + 1) hq7
                have HBF := hide (ord_next HQO.out hq7)
                clear hcell hZl
                subst hA5
                generalize Z[q] = ya at e0 e1 e2 e3 e4 e5 e6 e7 e8 e9 HBF
                generalize Z[q + 1] = yb at f0 f1 f2 f3 f4 f5 f6 f7 f8 f9 HBF
                clear hq6 hq7
                have HCB := hide (before_yes ya yb wr.drew HBF.out)
                go_wp2
                go_region_with (go_at_call 18; refine HCB.out.mono ?_; rintro e w9 ⟨rfl, k9⟩)
                all_goals
                  have HK9 := hide (HKQ.out.trans' ((Keeps.refl [] wr).drew.trans' k9))
                  clear k9 e0 e1 e2 e3 e4 e5 e6 e7 e8 e9 f0 f1 f2 f3 f4 f5 f6 f7 f8 f9
                  go_wp2
                  go_roundw
                  case measure => simp [intOf]; omega
                  case rel => exact ⟨q + 1, by go_num, by omega, HK9⟩
              · have hd1 : ¬ ((q : Int) + 1) < (M.length : Int) := by omega
                have hlb : (M.length == M.length) = true := by simp
                have hM64 : M.length ≤ 64 := by omega
                have HQ14 := hide (same_self A5 A6 c5 c6 Z Z wr M.length M.length HQL.out HQL.out hM64 rfl (HC5.out.keep HKQ.out).s (HC6.out.keep HKQ.out).s)
                have HK7 := hide (HK6.out.trans' HKQ.out)
                clear HC5 HC6 HKQ HK6
                go_wp2_with fail
                refine HQ14.out.mono ?_
                rintro e w9 ⟨rfl, k9⟩
                have HK9 := hide (HK7.out.trans' k9)
                clear k9
                go_wp2
                go_ret
                exact ⟨rfl, HK9.out⟩
end Go.Proofs.Ytlpmalkjbagbgaa

/- The law QueueChanges. -/
import Derived.Test.YtlpmalkjbagbgaaPuts
import Derived.Test.YtlpmalkjbagbgaaSusp
import Derived.Deep.RegionHeld3
namespace Go.Proofs.Ytlpmalkjbagbgaa
open Go.RowKit Go.Shelf
theorem rem_le (L : List Hold) (id : Int) : (remL L id).length ≤ L.length := by
  unfold remL
  split
  · exact List.length_filter_le _ _
  · simp
theorem sus_le (L : List Hold) (id t : Int) : (susL L id t).length ≤ L.length := by
  unfold susL
  split
  · simp
  · simp
set_option maxHeartbeats 8000000 in
set_option maxRecDepth 100000 in
theorem changes_walk (A : Option Addr) (c : Nat) (l : List Hold) (x y n : Int) (w : World) (hl : Came w A c l) :
    Calls Try.prog 7 #[.slice A l.length c, .agg #[.int .i64 x, .int .i64 y, .int .i64 n]] w fun e w' => e = .returned (.bool true) ∧ Keeps [] w w' := by
  have k0 := (Keeps.refl [] w).alloc (.cells #[.int .i64 x, .int .i64 y, .int .i64 n] 46)
  obtain ⟨M, hMl, hMe, hMc⟩ := (hl.keep k0).front (min l.length 30) (by omega)
  have hmin : (if (30 : Int) < (l.length : Int) then (30 : Int) else (l.length : Int)) = (M.length : Int) := by rw [hMl]; split <;> omega
  have hM30 : M.length ≤ 30 := by omega
  have z1 : (0 : Int) ≤ (M.length : Int) := by omega
  have z2 : (M.length : Int) ≤ (c : Int) := by have := hl.le; omega
  have z3 : M.length ≤ c := by have := hl.le; omega
  have HB := hide (Bk.new w 46 #[.int .i64 x, .int .i64 y, .int .i64 n])
  have HL := hide (hl.keep k0)
  have HMC := hide hMc
  have HK := hide k0
  clear hl k0 hMl hMe hMc
  go_enter Try.func7, Try.ntmps7
  go_wp2_with fail
  generalize w.alloc (.cells #[Value.int .i64 x, .int .i64 y, .int .i64 n] 46) = w0 at HB HL HK HMC ⊢
  refine (sanity_any w0).mono ?_
  rintro e w1 ⟨rfl, k1⟩
  replace HB := hide (HB.out.keep k1 (by simp))
  replace HL := hide (HL.out.keep k1)
  replace HMC := hide (HMC.out.keep k1)
  replace HK := hide (HK.out.trans' k1)
  clear k1
  go_wp2_with fail
  have HP := hide (rqueue_any A c l w1.drew (Nat.le_trans HL.out.le HL.out.cm) HL.out.s)
  go_cut [24, 25, 26] (fun s20 s21 s22 wx => s21 = .int .i64 2 ∧ s22 = .int .i64 0 ∧ ∃ g, s20 = .slice (some ⟨g, 0, none⟩) 2 2 ∧ Hid (Pair wx g ∧ Keeps [] w1 wx))
  case first =>
    go_region_with (go_at_call 15; refine HP.out.mono ?_; rintro e w2 ⟨v2, rfl, ho2, hn2, k2⟩; obtain ⟨A2, c2, hv2, hC2⟩ := Came.of ho2; subst hv2)
    all_goals
      have hk2 := ((Keeps.refl [] w1).drew.trans' k2)
      have hCM := HMC.out.keep hk2
      have HPA := hide (And.intro (Pair.mk (w := w2) (Bk.new w2 22 #[.slice A2 (que l).length c2, .slice A M.length c]) rfl rfl hC2 hCM (que_length l) hM30 ((Keeps.refl [] w2).alloc _)) (hk2.alloc (.cells #[.slice A2 (que l).length c2, .slice A M.length c] 22)))
      clear hk2 hCM ho2 hn2 k2 hC2
      go_wp2_with fail
      go_meet
      exact ⟨rfl, rfl, _, rfl, HPA⟩
  case rest =>
  obtain ⟨rfl, rfl, g, rfl, HPK⟩ := hcut
  have HPA := hide HPK.out.1
  replace HB := hide (HB.out.keep HPK.out.2 (by simp))
  replace HK := hide (HK.out.trans' HPK.out.2)
  clear HPK HMC HP HL hmin z1 z2 z3
  obtain ⟨w3, rfl⟩ : ∃ w3 : World, w3 = wc := ⟨_, rfl⟩
  go_wp2
  go_loopw [7, 8, 9, 10, 11, 12, 13, 14, 15, 26] (fun _ _ _ _ _ _ _ _ _ s26 wr => ∃ k : Nat, k ≤ 2 ∧ s26 = .int .i64 k ∧ Hid (Keeps [] w3 wr)) (fun _ _ _ _ _ _ _ _ _ s26 _ => 2 - (intOf s26).toNat)
  case atStart => exact ⟨0, by omega, rfl, hide (Keeps.refl _ _)⟩
  case round =>
    obtain ⟨k, hk, rfl, HR⟩ := hrel
    by_cases hlt : k < 2
    · have hltz : (k : Int) < 2 := by omega
      have hk0 : (0 : Int) ≤ (k : Int) := by omega
      obtain ⟨A4, c4, L, hcell, hcm, hL⟩ := HPA.out.keep HR.out k hlt
      have HC := hide hcm
      have hb := HB.out.keep HR.out (by simp)
      have HBB := hide hb
      have d0 := hb.cell 0
      simp at d0
      clear hb hcm
      go_wp2_with fail
      refine (remove_any A4 c4 L x wr (by omega) HC.out.s).mono ?_
      rintro e w5 ⟨v5, rfl, ho5, hn5, k5⟩
      obtain ⟨A5, c5, hv5, hC5⟩ := Came.of ho5
      subst hv5
      replace HC := hide (HC.out.keep k5)
      replace HBB := hide (HBB.out.keep k5 (by simp))
      have HC5 := hide hC5
      have HR5 := hide (HR.out.trans' k5)
      clear ho5 hn5 k5 hC5 d0 hcell
      have d0 := HBB.out.cell 0
      simp at d0
      go_wp2_with fail
      refine (rremove_any A4 c4 L x w5 (by omega) HC.out.s).mono ?_
      rintro e w6 ⟨v6, rfl, ho6, hn6, k6⟩
      obtain ⟨A6, c6, hv6, hC6⟩ := Came.of ho6
      subst hv6
      replace HC := hide (HC.out.keep k6)
      replace HBB := hide (HBB.out.keep k6 (by simp))
      replace HC5 := hide (HC5.out.keep k6)
      have HC6 := hide hC6
      have HR6 := hide (HR5.out.trans' k6)
      clear ho6 hn6 k6 hC6 d0 HR5
      have d0 := HBB.out.cell 0
      have d1 := HBB.out.cell 1
      simp at d0 d1
      go_wp2_with fail
      refine (suspend_any A4 c4 L x y w6 (by omega) HC.out.s).mono ?_
      rintro e w7 ⟨v7, rfl, ho7, hn7, k7⟩
      obtain ⟨A7, c7, hv7, hC7⟩ := Came.of ho7
      subst hv7
      replace HC := hide (HC.out.keep k7)
      replace HBB := hide (HBB.out.keep k7 (by simp))
      replace HC5 := hide (HC5.out.keep k7)
      replace HC6 := hide (HC6.out.keep k7)
      have HC7 := hide hC7
      have HR7 := hide (HR6.out.trans' k7)
      clear ho7 hn7 k7 hC7 d0 d1 HR6
      have d0 := HBB.out.cell 0
      have d1 := HBB.out.cell 1
      simp at d0 d1
      go_wp2_with fail
      refine (rsuspend_any A4 c4 L x y w7 (by omega) HC.out.s).mono ?_
      rintro e w8 ⟨v8, rfl, ho8, hn8, k8⟩
      obtain ⟨A8, c8, hv8, hC8⟩ := Came.of ho8
      subst hv8
      replace HC := hide (HC.out.keep k8)
      replace HBB := hide (HBB.out.keep k8 (by simp))
      replace HC5 := hide (HC5.out.keep k8)
      replace HC6 := hide (HC6.out.keep k8)
      replace HC7 := hide (HC7.out.keep k8)
      have HC8 := hide hC8
      have HR8 := hide (HR7.out.trans' k8)
      clear ho8 hn8 k8 hC8 d0 d1 HR7
      have d2 := HBB.out.cell 2
      simp at d2
      have l5 : (remL L x).length ≤ 64 := Nat.le_trans (rem_le L x) (by omega)
      have l7 : (susL L x y).length ≤ 64 := Nat.le_trans (sus_le L x y) (by omega)
      have l9 : (L.filter (act n)).length ≤ 64 := Nat.le_trans (List.length_filter_le _ _) (by omega)
      have HQ19 := hide (fun (W : World) (hk : Keeps [] w8 W) => active_any A4 c4 L n W (by omega) (HC.out.keep hk).s)
      have HQ24 := hide (fun (W : World) (hk : Keeps [] w8 W) => ract_any A4 c4 L n W (by omega) (HC.out.keep hk).s)
      have HQ56 := hide (fun (W : World) (hk : Keeps [] w8 W) => same_self A5 A6 c5 c6 (remL L x) (remL L x) W _ _ rfl rfl l5 rfl (HC5.out.keep hk).s (HC6.out.keep hk).s)
      have HQ78 := hide (fun (W : World) (hk : Keeps [] w8 W) => same_self A7 A8 c7 c8 (susL L x y) (susL L x y) W _ _ rfl rfl l7 rfl (HC7.out.keep hk).s (HC8.out.keep hk).s)
      have HID := hide (Keeps.refl [] w8)
      have HC9 : Hid True := trivial
      have HC10 : Hid True := trivial
      have HL9 := hide l9
      clear HC5 HC6 HC7 HC8 l5 l7 l9
      generalize (remL L x).length = n5 at *
      generalize (susL L x y).length = n7 at *
      generalize hasId L x = hx
      have hbx : (hx != hx) = false := by simp
      go_wp2_with fail
      go_region_held3 (fun w' => w'.cell? ⟨w.heap.size, 2, none⟩ = some (.int .i64 n))
        (first
          | go_keep
          | exact hk2.cell (by assumption)
          | fail)
        (first
          | (go_at_call 19; refine (HQ19.out _ (by first | exact (Keeps.refl [] w8).drew | exact HID.out)).mono ?_; rintro e w2 ⟨v2, rfl, ho2, hn2, hk2⟩; obtain ⟨A9, c9, hv9, hC9⟩ := Came.of ho2; subst hv9; replace HID := hide (Keeps.trans' (by first | exact (Keeps.refl [] w8).drew | exact HID.out) hk2); replace HC9 := hide hC9; (try replace HC10 := hide (Came.keep HC10.out hk2)); clear ho2 hn2 hC9)
          | (go_at_call 24; refine (HQ24.out _ (by first | exact (Keeps.refl [] w8).drew | exact HID.out)).mono ?_; rintro e w2 ⟨v2, rfl, ho2, hn2, hk2⟩; obtain ⟨A10, c10, hv10, hC10⟩ := Came.of ho2; subst hv10; replace HID := hide (Keeps.trans' (by first | exact (Keeps.refl [] w8).drew | exact HID.out) hk2); replace HC10 := hide hC10; (try replace HC9 := hide (Came.keep HC9.out hk2)); clear ho2 hn2 hC10)
          | (go_at_call_of 14 (Value.slice A5 n5 c5); refine (HQ56.out _ (by first | exact (Keeps.refl [] w8).drew | exact HID.out)).mono ?_; rintro e w2 ⟨rfl, hk2⟩; replace HID := hide (Keeps.trans' (by first | exact (Keeps.refl [] w8).drew | exact HID.out) hk2))
          | (go_at_call_of 14 (Value.slice A7 n7 c7); refine (HQ78.out _ (by first | exact (Keeps.refl [] w8).drew | exact HID.out)).mono ?_; rintro e w2 ⟨rfl, hk2⟩; replace HID := hide (Keeps.trans' (by first | exact (Keeps.refl [] w8).drew | exact HID.out) hk2))
          | (go_at_call 14; refine (same_self _ _ _ _ _ _ _ _ _ rfl rfl HL9.out rfl HC9.out.s HC10.out.s).mono ?_; rintro e w2 ⟨rfl, hk2⟩; replace HID := hide (HID.out.trans' hk2))
          | fail)
      all_goals
        have HR2 := hide (HR8.out.trans' HID.out)
        clear HID HQ19 HQ24 HQ56 HQ78 HC9 HC10
        go_wp2
        go_roundw
        case measure => simp [intOf]; omega
        case rel => exact ⟨k + 1, by omega, by go_num, HR2⟩
    · obtain rfl : k = 2 := by omega
      go_wp2
      go_ret
      exact ⟨rfl, HK.out.trans' HR.out⟩
end Go.Proofs.Ytlpmalkjbagbgaa

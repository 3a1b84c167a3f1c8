/- The law QueueFor. -/
import Derived.Test.YtlpmalkjbagbgaaPuts
import Derived.Test.YtlpmalkjbagbgaaRfor
namespace Go.Proofs.Ytlpmalkjbagbgaa
open Go.RowKit Go.Shelf
theorem Src.front {w : World} {sz n c : Nat} {A : Option Addr} {xs : List Value} (h : Src w sz (.slice A n c) n xs) (m : Nat) (hm : m ≤ n) : Src w sz (.slice A m c) m (xs.take (m * sz)) := by
  obtain ⟨hl, A', c', hA, hnil, hc⟩ := h
  injection hA with hA _ hcc
  subst hA hcc
  refine ⟨by rw [List.length_take, hl]; exact Nat.min_eq_left (Nat.mul_le_mul_right _ hm), _, _, rfl, fun h0 => by have := hnil h0; omega, fun ad had j u hu => hc ad had j u ?_⟩
  rw [List.getElem?_take] at hu
  split at hu
  · exact hu
  · cases hu
theorem scs_take : ∀ (L : List Sm) (m : Nat), (scs L).take (m * 4) = scs (L.take m)
  | [], m => by simp [scs]
  | a :: t, 0 => by simp [scs]
  | a :: t, m + 1 => by
    have := scs_take t m
    simp only [scs, List.flatMap_cons, List.take_succ_cons] at this ⊢
    have hl : (sc a).length = 4 := rfl
    rw [List.take_append, hl, show (m + 1) * 4 - 4 = m * 4 by omega, this, List.take_of_length_le (by simp [hl]; omega)]
theorem TS.front {w : World} {A : Option Addr} {c : Nat} {T : List Sm} (h : TS w (.slice A T.length c) T) (m : Nat) (hm : m ≤ T.length) : ∃ T2 : List Sm, T2.length = m ∧ T2 = T.take m ∧ TS w (.slice A T2.length c) T2 := by
  have hl : (T.take m).length = m := by simp [hm]
  refine ⟨T.take m, hl, rfl, ?_⟩
  have := Src.front h m hm
  rw [scs_take] at this
  unfold TS
  rw [hl]
  exact this
theorem for_len (L : List Hold) (item s n : Int) (T : List Sm) (day : Int) : (forL L item s n T day).length ≤ L.length := Nat.le_trans (List.length_filter_le _ _) (List.length_filter_le _ _)
set_option maxHeartbeats 4000000 in
theorem fors_walk (A : Option Addr) (c : Nat) (l : List Hold) (A' : Option Addr) (c' : Nat) (T : List Sm) (item s n day : Int) (w : World) (hl : Came w A c l) (ht : TS w (.slice A' T.length c') T) (hTc : T.length ≤ c') (hcm : c' ≤ 9223372036854775807) :
    Calls Try.prog 4 #[.slice A l.length c, .slice A' T.length c', .agg #[.int .i64 item, .int .i64 s, .int .i64 n, .int .i64 day]] w fun e w' => e = .returned (.bool true) ∧ Keeps [] w w' := by
  have k0 := (Keeps.refl [] w).alloc (.cells #[.int .i64 item, .int .i64 s, .int .i64 n, .int .i64 day] 39)
  obtain ⟨M, hMl, hMe, hMc⟩ := (hl.keep k0).front (min l.length 30) (by omega)
  obtain ⟨T2, hTl, hTe, hTs⟩ := TS.front (Src.keep ht k0 (by simp)) (min T.length 30) (by omega)
  have hmin : (if (30 : Int) < (l.length : Int) then (30 : Int) else (l.length : Int)) = (M.length : Int) := by rw [hMl]; split <;> omega
  have hminT : (if (30 : Int) < (T.length : Int) then (30 : Int) else (T.length : Int)) = (T2.length : Int) := by rw [hTl]; split <;> omega
  have hM30 : M.length ≤ 30 := by omega
  have hT30 : T2.length ≤ 30 := by omega
  have z1 : (0 : Int) ≤ (M.length : Int) := by omega
  have z2 : (M.length : Int) ≤ (c : Int) := by have := hl.le; omega
  have z3 : M.length ≤ c := by have := hl.le; omega
  have y1 : (0 : Int) ≤ (T2.length : Int) := by omega
  have y2 : (T2.length : Int) ≤ (c' : Int) := by omega
  have y3 : T2.length ≤ c' := by omega
  have HB := hide (Bk.new w 39 #[.int .i64 item, .int .i64 s, .int .i64 n, .int .i64 day])
  have HL := hide (hl.keep k0)
  have HMC := hide hMc
  have HT := hide hTs
  have HK := hide k0
  clear hl k0 hMl hMe hMc hTl hTe hTs ht hTc hcm
  go_enter Try.func4, Try.ntmps4
  go_wp2_with fail
  generalize w.alloc (.cells #[Value.int .i64 item, .int .i64 s, .int .i64 n, .int .i64 day] 39) = w0 at HB HL HK HMC HT ⊢
  refine (sanity_any w0).mono ?_
  rintro e w1 ⟨rfl, k1⟩
  replace HB := hide (HB.out.keep k1 (by simp))
  replace HL := hide (HL.out.keep k1)
  replace HMC := hide (HMC.out.keep k1)
  replace HT := hide (Src.keep HT.out k1 (by simp))
  replace HK := hide (HK.out.trans' k1)
  clear k1
  go_wp2_with fail
  have HP := hide (rqueue_any A c l w1.drew (Nat.le_trans HL.out.le HL.out.cm) HL.out.s)
  go_cut [23, 24, 25] (fun s20 s21 s22 wx => s21 = .int .i64 2 ∧ s22 = .int .i64 0 ∧ ∃ g, s20 = .slice (some ⟨g, 0, none⟩) 2 2 ∧ Hid (Pair wx g ∧ Keeps [] w1 wx))
  case first =>
    go_region_with (go_at_call 15; refine HP.out.mono ?_; rintro e w2 ⟨v2, rfl, ho2, hn2, k2⟩; obtain ⟨A2, c2, hv2, hC2⟩ := Came.of ho2; subst hv2)
    all_goals
      have hk2 := ((Keeps.refl [] w1).drew.trans' k2)
      have hCM := HMC.out.keep hk2
      have HPA := hide (And.intro (Pair.mk (w := w2) (Bk.new w2 22 #[.slice A2 (que l).length c2, .slice A M.length c]) rfl rfl hC2 hCM (que_length l) hM30 ((Keeps.refl [] w2).alloc _)) (hk2.alloc (.cells #[.slice A2 (que l).length c2, .slice A M.length c] 22)))
      clear hk2 hCM ho2 hn2 k2 hC2
      go_wp2_with fail
      go_meet
      exact ⟨rfl, rfl, _, rfl, HPA⟩
  case rest =>
  obtain ⟨rfl, rfl, g, rfl, HPK⟩ := hcut
  have HPA := hide HPK.out.1
  replace HB := hide (HB.out.keep HPK.out.2 (by simp))
  replace HT := hide (Src.keep HT.out HPK.out.2 (by simp))
  replace HK := hide (HK.out.trans' HPK.out.2)
  clear HPK HMC HP HL hmin hminT z1 z2 z3 y1 y2 y3
  obtain ⟨w3, rfl⟩ : ∃ w3 : World, w3 = wc := ⟨_, rfl⟩
  go_wp2
  go_loopw [9, 25] (fun _ s25 wr => ∃ k : Nat, k ≤ 2 ∧ s25 = .int .i64 k ∧ Hid (Keeps [] w3 wr)) (fun _ s25 _ => 2 - (intOf s25).toNat)
  case atStart => exact ⟨0, by omega, rfl, hide (Keeps.refl _ _)⟩
  case round =>
    obtain ⟨k, hk, rfl, HR⟩ := hrel
    by_cases hlt : k < 2
    · have hltz : (k : Int) < 2 := by omega
      have hk0 : (0 : Int) ≤ (k : Int) := by omega
      obtain ⟨A4, c4, L, hcell, hcm, hL⟩ := HPA.out.keep HR.out k hlt
      have hb := HB.out.keep HR.out (by simp)
      have d0 := hb.cell 0
      have d1 := hb.cell 1
      have d2 := hb.cell 2
      have d3 := hb.cell 3
      simp at d0 d1 d2 d3
      have hfl := for_len L item s n T2 day
      have hfl2 : (forL L item s n T2 day).length ≤ 64 := by omega
      have HQ16 := hide (fun (W : World) (hk : Keeps [] wr W) => for_any A4 c4 L item s n A' c' T2 day W (by omega) (by omega) (hcm.keep hk).s (Src.keep HT.out (HR.out.trans' hk) (by simp)))
      have HQ17 := hide (fun (W : World) (hk : Keeps [] wr W) => rfor_any A4 c4 L item s n A' c' T2 day W (by omega) (by omega) (hcm.keep hk).s (Src.keep HT.out (HR.out.trans' hk) (by simp)))
      have HID := hide (Keeps.refl [] wr)
      have HC6 : Hid True := trivial
      have HC7 : Hid True := trivial
      clear hb hcm hfl
      go_wp2_with fail
      go_region_held3 (fun w' => w'.cell? ⟨w.heap.size, 0, none⟩ = some (.int .i64 item) ∧ w'.cell? ⟨w.heap.size, 1, none⟩ = some (.int .i64 s) ∧ w'.cell? ⟨w.heap.size, 2, none⟩ = some (.int .i64 n) ∧ w'.cell? ⟨w.heap.size, 3, none⟩ = some (.int .i64 day))
        (first
          | go_keep
          | (go_split_ands; exact ⟨hk2.cell (by assumption), hk2.cell (by assumption), hk2.cell (by assumption), hk2.cell (by assumption)⟩)
          | fail)
        (first
          | (go_at_call 16; refine (HQ16.out _ (by first | exact (Keeps.refl [] wr).drew | exact HID.out)).mono ?_; rintro e w2 ⟨v2, rfl, ho2, hn2, hk2⟩; obtain ⟨A6, c6, hv6, hC6⟩ := Came.of ho2; subst hv6; replace HID := hide (Keeps.trans' (by first | exact (Keeps.refl [] wr).drew | exact HID.out) hk2); replace HC6 := hide hC6; (try replace HC7 := hide (Came.keep HC7.out hk2)); clear ho2 hn2 hC6)
          | (go_at_call 17; refine (HQ17.out _ (by first | exact (Keeps.refl [] wr).drew | exact HID.out)).mono ?_; rintro e w2 ⟨v2, rfl, ho2, hn2, hk2⟩; obtain ⟨A7, c7, hv7, hC7⟩ := Came.of ho2; subst hv7; replace HID := hide (Keeps.trans' (by first | exact (Keeps.refl [] wr).drew | exact HID.out) hk2); replace HC7 := hide hC7; (try replace HC6 := hide (Came.keep HC6.out hk2)); clear ho2 hn2 hC7)
          | (go_at_call 14; refine (same_self _ _ _ _ _ _ _ _ _ rfl rfl hfl2 rfl HC6.out.s HC7.out.s).mono ?_; rintro e w2 ⟨rfl, hk2⟩; replace HID := hide (HID.out.trans' hk2))
          | fail)
      all_goals
        have HR2 := hide (HR.out.trans' HID.out)
        clear HID HQ16 HQ17 HC6 HC7
        go_wp2
        go_roundw
        case measure => simp [intOf]; omega
        case rel => exact ⟨k + 1, by omega, by go_num, HR2⟩
    · obtain rfl : k = 2 := by omega
      go_wp2
      go_ret
      exact ⟨rfl, HK.out.trans' HR.out⟩
end Go.Proofs.Ytlpmalkjbagbgaa

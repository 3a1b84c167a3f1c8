/- The reference's Title and For. -/
import Derived.Test.YtlpmalkjbagbgaaFor
import Derived.Deep.DeepCutAuto
import Derived.Test.YtlpmalkjbagbgaaRact
import Derived.Test.YtlpmalkjbagbgaaForw
namespace Go.Proofs.Ytlpmalkjbagbgaa
open Go.RowKit Go.Shelf
theorem title_hit {s n : Int} {T : List Sm} {k : Nat} (h : titleOf s n T = titleOf s n (T.drop k)) (hk : k < T.length) (he : isRec s n T[k] = true) : titleOf s n T = (T[k].ts, T[k].tn) := by
  rw [h, List.drop_eq_getElem_cons hk, titleOf, if_pos he]
theorem title_miss {s n : Int} {T : List Sm} {k : Nat} (h : titleOf s n T = titleOf s n (T.drop k)) (hk : k < T.length) (he : isRec s n T[k] = false) : titleOf s n T = titleOf s n (T.drop (k + 1)) := by
  rw [h, List.drop_eq_getElem_cons hk, titleOf, he]; rfl
set_option maxHeartbeats 1000000 in
theorem title_any (s n : Int) (A : Option Addr) (c : Nat) (T : List Sm) (w : World) (hT : T.length ≤ 64) (hs : TS w (.slice A T.length c) T) :
    Calls Try.prog 37 #[.slice A T.length c, .agg #[.int .i64 s, .int .i64 n]] w fun e w' => e = .returned (.agg #[.int .i64 (titleOf s n T).1, .int .i64 (titleOf s n T).2]) ∧ Keeps [] w w' := by
  have HK := hide (((Keeps.refl [] w).alloc (.cells #[.int .i64 s, .int .i64 n] 24)).alloc (.cells #[.int .i64 0, .int .i64 0] 24))
  have hB : Bk ((w.alloc (.cells #[.int .i64 s, .int .i64 n] 24)).alloc (.cells #[.int .i64 0, .int .i64 0] 24)) w.heap.size 24 #[.int .i64 s, .int .i64 n] := (Bk.new w 24 _).alloc _
  have hR : Bk ((w.alloc (.cells #[.int .i64 s, .int .i64 n] 24)).alloc (.cells #[.int .i64 0, .int .i64 0] 24)) (w.heap.size + 1) 24 #[.int .i64 0, .int .i64 0] := by
    have := Bk.new (w.alloc (.cells #[.int .i64 s, .int .i64 n] 24)) 24 #[.int .i64 0, .int .i64 0]
    simpa using this
  have hg := Try.guard24
  go_enter Try.func37, Try.ntmps37
  go_wp2
  generalize (w.alloc (.cells #[.int .i64 s, .int .i64 n] 24)).alloc (.cells #[.int .i64 0, .int .i64 0] 24) = w0 at HK hB hR ⊢
  have HS0 := hide (Src.keep hs HK.out (by simp))
  have HB := hide hB
  have HR := hide hR
  clear hB hR hs
  go_loopw [5] (fun s5 wr => ∃ k q : Nat, k ≤ T.length ∧ s5 = .int .i64 k ∧ wr = w0.drewN q ∧ Hid (titleOf s n T = titleOf s n (T.drop k))) (fun s5 _ => T.length - (intOf s5).toNat)
  case atStart => exact ⟨0, 0, Nat.zero_le _, rfl, rfl, rfl⟩
  case round =>
    obtain ⟨k, q, hk, rfl, rfl, HD⟩ := hrel
    have b0 := HB.out.cell 0
    have b1 := HB.out.cell 1
    have r0 := HR.out.cell 0
    have r1 := HR.out.cell 1
    have f0 := HR.out.free 0
    have f1 := HR.out.free 1
    simp at b0 b1 r0 r1
    by_cases hlt : k < T.length
    · have hltz : (k : Int) < (T.length : Int) := by omega
      have hk0 : (0 : Int) ≤ (k : Int) := by omega
      obtain ⟨b, o, rfl, hcell⟩ := HS0.out.headN (by omega) (by omega)
      obtain ⟨c0, c1, c2, c3⟩ := sm_cells hcell k hlt
      have hE : ∀ w, (Op.equalIn 10000 24 (.agg #[.int .i64 T[k].rs, .int .i64 T[k].rn]) (.agg #[.int .i64 s, .int .i64 n])).run Try.prog w = .ok (isRec s n T[k]) w := fun w => eq24 9998 _ _ _ _ w
      have HX := hide (fun e => title_hit HD.out hlt e)
      have HY := hide (fun e => title_miss HD.out hlt e)
      clear hcell
      generalize T[k] = y at c0 c1 c2 c3 hE HX HY
      cases he : isRec s n y with
      | true =>
        rw [he] at hE
        have HT := hide (HX.out he)
        clear he HX HY
        go_wp2
        go_quiet (fail)
        go_wp2
        have hR2 := fun N => Bk.set (Bk.set (w := w0.drewN N) (show Bk (w0.drewN N) (w.heap.size + 1) 24 #[.int .i64 0, .int .i64 0] from HR.out) 0 (.int .i64 y.ts)) 1 (.int .i64 y.tn)
        have q0 := fun N => (hR2 N).cell 0
        have q1 := fun N => (hR2 N).cell 1
        simp at q0 q1
        refine bodyPost_ret (v := .agg #[.int .i64 (y.ts), .int .i64 (y.tn)]) (by simp [results, Try.results37, go_sem, q0, q1]) rfl ⟨by rw [HT.out], ?_⟩
        exact ((HK.out.drewN _).setCell (.inr (by simp)) _).setCell (.inr (by simp)) _
      | false =>
        rw [he] at hE
        have HT := hide (HY.out he)
        clear he HX HY
        go_wp2
        go_quiet (fail)
        go_wp2
        go_roundw
        case measure => simp [intOf]; omega
        case rel => exact ⟨k + 1, _, by omega, by go_num, rfl, HT⟩
    · have hltz : ¬ (k : Int) < (T.length : Int) := by omega
      obtain rfl : k = T.length := by omega
      have HT := hide (show titleOf s n T = (s, n) by rw [HD.out, List.drop_length]; rfl)
      clear HD
      go_wp2
      have hR2 := fun N => Bk.set (Bk.set (w := w0.drewN N) (show Bk (w0.drewN N) (w.heap.size + 1) 24 #[.int .i64 0, .int .i64 0] from HR.out) 0 (.int .i64 s)) 1 (.int .i64 n)
      have q0 := fun N => (hR2 N).cell 0
      have q1 := fun N => (hR2 N).cell 1
      simp at q0 q1
      refine bodyPost_ret (v := .agg #[.int .i64 s, .int .i64 n]) (by simp [results, Try.results37, go_sem, q0, q1]) rfl ⟨by rw [HT.out], ?_⟩
      exact ((HK.out.drewN _).setCell (.inr (by simp)) _).setCell (.inr (by simp)) _
set_option maxHeartbeats 4000000 in
theorem rfor_any (A : Option Addr) (c : Nat) (L : List Hold) (item ts tn : Int) (A' : Option Addr) (c' : Nat) (T : List Sm) (day : Int) (w : World) (hL : L.length ≤ 64) (hT : T.length ≤ 64) (hs : HS w (.slice A L.length c) L) (ht : TS w (.slice A' T.length c') T) :
    Calls Try.prog 17 #[.slice A L.length c, .int .i64 item, .agg #[.int .i64 ts, .int .i64 tn], .slice A' T.length c', .int .i64 day] w fun e w' => ∃ v, e = .returned v ∧ HO w' v (forL L item ts tn T day) ∧ New w v ∧ Keeps [] w w' := by
  have hK := (Keeps.refl [] w).alloc (.cells #[.int .i64 ts, .int .i64 tn] 24)
  have hB := Bk.new w 24 #[.int .i64 ts, .int .i64 tn]
  replace hs := Src.keep hs hK (by simp)
  replace ht := Src.keep ht hK (by simp)
  obtain ⟨p, hp⟩ : ∃ p : Hold → Bool, p = serve item (titleOf ts tn T).1 (titleOf ts tn T).2 T := ⟨_, rfl⟩
  have HP := hide hp
  have HFL := hide (show forL L item ts tn T day = (L.filter (act day)).filter p by rw [forL, hp])
  clear hp
  go_enter Try.func17, Try.ntmps17
  go_wp2_with fail
  generalize w.alloc (.cells #[Value.int .i64 ts, .int .i64 tn] 24) = w0 at hK hB hs ht ⊢
  refine (ract_any A c L day w0 hL hs).mono ?_
  rintro e w1 ⟨v1, rfl, ho1, hn1, k1⟩
  have hlen : (L.filter (act day)).length ≤ 64 := Nat.le_trans (List.length_filter_le _ _) hL
  obtain ⟨A1, c1, hv1, _, _⟩ := HO.form ho1
  subst hv1
  have HB := hide (hB.keep k1 (by simp))
  have HT := hide (Src.keep ht k1 (by simp))
  have HK := hide (hK.trans' k1)
  have HS := hide (HO.hs ho1)
  clear hB ht hK hs ho1 hn1 k1
  generalize L.filter (act day) = M at HFL hlen HS ⊢
  go_wp2
  go_loopw [12, 13, 14] (fun s12 s13 _ wr => ∃ k : Nat, k ≤ M.length ∧ s13 = .int .i64 k ∧ Hid (HO wr s12 ((M.take k).filter p)) ∧ Hid (New w1 s12) ∧ Hid (Keeps [] w1 wr)) (fun _ s13 _ _ => M.length - (intOf s13).toNat)
  case atStart => exact ⟨0, Nat.zero_le _, rfl, hide (by simpa using own_nil w1), hide (new_nil w1), hide (Keeps.refl _ _)⟩
  case round =>
    obtain ⟨k, hk, rfl, HOW, HN, HKR⟩ := hrel
    by_cases hlt : k < M.length
    · have hltz : (k : Int) < (M.length : Int) := by omega
      have hk0 : (0 : Int) ≤ (k : Int) := by omega
      obtain ⟨b, o, rfl, hcell⟩ := (Src.keep HS.out HKR.out (by simp)).headN (by omega) (by omega)
      obtain ⟨d0, d1, d2, d3, d4, d5, d6, d7, d8, d9⟩ := hold_cells hcell k hlt
      have HFS := hide (filter_succ hlt p)
      have hfl := filter_len hk p
      clear hcell
      generalize M[k] = y at d0 d1 d2 d3 d4 d5 d6 d7 d8 d9 HFS
      have hka := (Keeps.refl [] wr).alloc (.cells (hc y).toArray 28)
      have HKA := hide (HKR.out.trans' hka)
      have HOA := hide (Own.alloc HOW.out (.cells (hc y).toArray 28))
      have HBY := hide (Bk.new wr 28 (hc y).toArray)
      have HBT := hide (HB.out.keep HKA.out (by simp))
      have HTT := hide (Src.keep HT.out HKA.out (by simp))
      simp only [hc] at HKA HOA HBY HBT HTT
      clear hka
      have HPY := hide (show p y = serve item (titleOf ts tn T).1 (titleOf ts tn T).2 T y by rw [HP.out])
      have HF2 := hide (fun (e : p y = true) => show (M.take (k + 1)).filter p = (M.take k).filter p ++ [y] by rw [HFS.out, e]; rfl)
      have HF3 := hide (fun (e : p y = false) => show (M.take (k + 1)).filter p = (M.take k).filter p by rw [HFS.out, e]; simp)
      clear HFS HP HB HT HK
      by_cases hpos : 0 < y.item
      · have hd1 : decide (0 < y.item) = true := by simp [hpos]
        have hd2 : decide (y.item ≤ 0) = false := by simp; omega
        by_cases hie : y.item = item
        · have hb0 : (y.item == item) = true := by simp [hie]
          have HF := hide (HF2.out (by rw [HPY.out, serve, if_pos hpos]; simp [hie]))
          clear hie HF2 HF3 HPY
          go_wp2
          generalize wr.alloc (.cells #[Value.int .i64 y.id, .int .i64 y.patron, .int .i64 y.item, .int .i64 y.src, .int .i64 y.num, .int .i64 y.pickup, .int .i64 y.till, .int .i64 y.time, .int .i64 y.site, .int .i64 y.stamp] 28) = W1 at HKA HOA HBY HBT HTT ⊢
          obtain ⟨c0, c1, c2, c3, c4, c5, c6, c7, c8, c9⟩ := box_cells (h := y) HBY.out
          go_region
          go_wp2_with (with_reducible refine Halt.append ?_)
          refine Halt.on ?_
          refine wpList_push rfl _ _ rfl w1 _ u12 _ y _ rfl rfl (by simp [go_sem]) (Own.drew HOA.out) HN.out HKA.out.drew (by omega) ?_
          intro v' w5 HO2 HN2 HK2
          replace HO2 := hide (show HO w5 v' ((M.take (k + 1)).filter p) by rw [HF.out]; exact HO2.out)
          go_wp2
          go_roundw
          case measure => simp [intOf]; omega
          case rel => exact ⟨k + 1, by omega, by go_num, HO2, HN2, HK2⟩
        · have hb0 : (y.item == item) = false := by simp [hie]
          have HF := hide (HF3.out (by rw [HPY.out, serve, if_pos hpos]; simp [hie]))
          clear hie HF2 HF3 HPY
          go_wp2
          generalize wr.alloc (.cells #[Value.int .i64 y.id, .int .i64 y.patron, .int .i64 y.item, .int .i64 y.src, .int .i64 y.num, .int .i64 y.pickup, .int .i64 y.till, .int .i64 y.time, .int .i64 y.site, .int .i64 y.stamp] 28) = W1 at HKA HOA HBY HBT HTT ⊢
          obtain ⟨c0, c1, c2, c3, c4, c5, c6, c7, c8, c9⟩ := box_cells (h := y) HBY.out
          go_region
          have HO2 := hide (show HO W1.drew u12 ((M.take (k + 1)).filter p) by rw [HF.out]; exact HOA.out)
          have HK2 := hide (HKA.out.drew)
          go_wp2
          go_roundw
          case measure => simp [intOf]; omega
          case rel => exact ⟨k + 1, by omega, by go_num, HO2, HN, HK2⟩
      · have hd1 : decide (0 < y.item) = false := by simp; omega
        have hd2 : decide (y.item ≤ 0) = true := by simp; omega
        have hg := Try.guard24
        have hE : ∀ w, (Op.equalIn 10000 24 (.agg #[.int .i64 (titleOf y.src y.num T).1, .int .i64 (titleOf y.src y.num T).2]) (.agg #[.int .i64 (titleOf ts tn T).1, .int .i64 (titleOf ts tn T).2])).run Try.prog w = .ok (p y) w := fun w => by rw [HPY.out, serve, if_neg hpos]; exact eq24 9998 _ _ _ _ w
        go_wp2
        generalize wr.alloc (.cells #[Value.int .i64 y.id, .int .i64 y.patron, .int .i64 y.item, .int .i64 y.src, .int .i64 y.num, .int .i64 y.pickup, .int .i64 y.till, .int .i64 y.time, .int .i64 y.site, .int .i64 y.stamp] 28) = W1 at HKA HOA HBY HBT HTT ⊢
        obtain ⟨c0, c1, c2, c3, c4, c5, c6, c7, c8, c9⟩ := box_cells (h := y) HBY.out
        have t0 := HBT.out.cell 0
        have t1 := HBT.out.cell 1
        simp at t0 t1
        have HQ := hide (fun (W : World) (hk : Keeps [] W1 W) (s n : Int) => title_any s n A' c' T W hT (Src.keep HTT.out hk (by simp)))
        have HID := hide (Keeps.refl [] W1)
        clear HPY
        generalize p y = pv at hE HF2 HF3
        go_cut [51] (fun s51 wx => s51 = .bool pv ∧ Hid (Keeps [] W1 wx))
        case first =>
          first
            | (go_region_with (go_at_call 37; refine (HQ.out _ (by first | exact (Keeps.refl [] W1).drew | exact HID.out) _ _).mono ?_; rintro e w2 ⟨rfl, hk2⟩; replace HID := hide (Keeps.trans' (by first | exact (Keeps.refl [] W1).drew | exact HID.out) hk2); have e3 := HID.out.cell c3; have e4 := HID.out.cell c4; have e5 := HID.out.cell t0; have e6 := HID.out.cell t1; clear hk2))
            | fail
          all_goals (go_wp2_with fail; go_meet; exact ⟨rfl, HID⟩)
        case rest =>
          obtain ⟨rfl, HKC⟩ := hcut
          clear c0 c1 c2 c3 c4 c5 c6 c7 c8 c9 t0 t1 HQ HID hE hg
          have HKD := hide (HKA.out.trans' HKC.out)
          have HOD := hide (Own.keep HOA.out HKC.out (by simp))
          obtain ⟨c0, c1, c2, c3, c4, c5, c6, c7, c8, c9⟩ := box_cells (h := y) (HBY.out.keep HKC.out (by simp))
          clear HBY HBT HTT HKA HOA HKC
          cases pv with
          | true =>
            have HF := hide (HF2.out rfl)
            clear HF2 HF3
            go_wp2_with (with_reducible refine Halt.append ?_)
            refine Halt.on ?_
            refine wpList_push rfl _ _ rfl w1 _ u12 _ y _ rfl rfl (by simp [go_sem]) HOD.out HN.out HKD.out (by omega) ?_
            intro v' w5 HO2 HN2 HK2
            replace HO2 := hide (show HO w5 v' ((M.take (k + 1)).filter p) by rw [HF.out]; exact HO2.out)
            go_wp2
            go_roundw
            case measure => simp [intOf]; omega
            case rel => exact ⟨k + 1, by omega, by go_num, HO2, HN2, HK2⟩
          | false =>
            have HF := hide (HF3.out rfl)
            clear HF2 HF3
            have HO2 := hide (show HO wc u12 ((M.take (k + 1)).filter p) by rw [HF.out]; exact HOD.out)
            go_wp2
            go_roundw
            case measure => simp [intOf]; omega
            case rel => exact ⟨k + 1, by omega, by go_num, HO2, HN, HKD⟩
    · have hltz : ¬ (k : Int) < (M.length : Int) := by omega
      obtain rfl : k = M.length := by omega
      have HO2 := hide (show HO wr u12 (M.filter p) by have := HOW.out; rwa [List.take_length] at this)
      clear HOW
      go_wp2
      go_ret
      exact ⟨_, rfl, by rw [HFL.out]; exact HO2.out, fun g hg => Nat.le_trans HK.out.size (HN.out g hg), HK.out.trans' HKR.out⟩
end Go.Proofs.Ytlpmalkjbagbgaa

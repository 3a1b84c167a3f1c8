/- The reference's Put, and Same. -/
import Derived.Test.YtlpmalkjbagbgaaPut
import Derived.Laws.StructEq
namespace Go.Proofs.Ytlpmalkjbagbgaa
open Go.RowKit Go.Shelf

/-- How many of the front have h not before them. -/
def afters (h : Hold) (L : List Hold) (m : Nat) : Prop := ins h L = L.take m ++ ins h (L.drop m)
theorem afters_zero (h : Hold) (L : List Hold) : afters h L 0 := rfl
theorem afters_succ {h : Hold} {L : List Hold} {m : Nat} (ha : afters h L m) (hm : m < L.length) (hb : beforeB h L[m] = false) : afters h L (m + 1) := by
  unfold afters at ha ⊢
  rw [ha, List.drop_eq_getElem_cons hm, List.take_succ_eq_append_getElem hm, List.append_assoc]
  congr 1
  simp [ins, hb]
theorem afters_here {h : Hold} {L : List Hold} {m : Nat} (ha : afters h L m) (hm : m < L.length) (hb : beforeB h L[m] = true) : ins h L = L.take m ++ (h :: L.drop m) := by
  unfold afters at ha
  rw [ha, List.drop_eq_getElem_cons hm]
  simp [ins, hb]
theorem afters_end {h : Hold} {L : List Hold} (ha : afters h L L.length) : ins h L = L.take L.length ++ (h :: L.drop L.length) := by
  unfold afters at ha
  rw [ha]
  simp [ins]
theorem any_none_succ {L : List Hold} {i : Int} {k : Nat} (h : (L.take k).any (fun x => decide (x.id = i)) = false) (hk : k < L.length) (hn : L[k].id ≠ i) : (L.take (k + 1)).any (fun x => decide (x.id = i)) = false := by
  rw [List.take_succ_eq_append_getElem hk, List.any_append, h]
  simp [hn]
theorem any_hit {L : List Hold} {i : Int} {k : Nat} (hk : k < L.length) (hn : L[k].id = i) : L.any (fun x => decide (x.id = i)) = true := by
  rw [List.any_eq_true]
  exact ⟨L[k], List.getElem_mem _, by simpa using hn⟩

set_option maxHeartbeats 4000000 in
theorem rput_any (A : Option Addr) (c : Nat) (L : List Hold) (h : Hold) (w : World) (hL : L.length ≤ 60) (hs : HS w (.slice A L.length c) L) (hc0 : L.length ≤ c) (hc1 : c ≤ 9223372036854775807) (hA0 : A = none → c = 0) :
    Calls Try.prog 13 #[.slice A L.length c, hvl h] w fun e w' => ∃ v, e = .returned (.tuple #[v, .int .i64 (putE L h)]) ∧ HO w' v (putL L h) ∧ New w v ∧ Keeps [] w w' := by
  have HK0 := hide ((Keeps.refl [] w).alloc (.cells (hc h).toArray 28))
  have HB0 := hide (Bk.new w 28 (hc h).toArray)
  have HS0 := hide (Src.keep hs HK0.out (by simp))
  have HSo := hide hs
  clear hs
  by_cases hbad : h.id < 1 ∨ h.item < 0
  · have HE := hide (show putE L h = 1 by simp [putE, hbad])
    have HL := hide (show putL L h = [] by simp [putL, hbad])
    by_cases h1 : h.id < 1
    · have hd : decide (h.id < 1) = true := by simp [h1]
      go_enter Try.func13, Try.ntmps13
      go_wp2
      go_ret2
      refine ⟨_, by rw [HE.out]; rfl, by rw [HL.out]; exact own_nil _, new_nil _, HK0.out⟩
    · have h2 : h.item < 0 := by omega
      have hd : decide (h.id < 1) = false := by simp; omega
      go_enter Try.func13, Try.ntmps13
      go_wp2
      go_ret2
      refine ⟨_, by rw [HE.out]; rfl, by rw [HL.out]; exact own_nil _, new_nil _, HK0.out⟩
  · have h1 : ¬ h.id < 1 := fun e => hbad (.inl e)
    have h2 : ¬ h.item < 0 := fun e => hbad (.inr e)
    have hE : putE L h = if L.any (fun x => decide (x.id = h.id)) then 22 else 0 := by simp [putE, hbad]
    have hP : putL L h = if L.any (fun x => decide (x.id = h.id)) then [] else ins h L := by simp [putL, hbad]
    have HE := hide hE
    have HL := hide hP
    have hd : decide (h.id < 1) = false := by simp; omega
    clear hE hP hbad
    obtain ⟨i0, hi, hz0, hz1, hz2⟩ := info_parts Try.info28b
    go_enter Try.func13, Try.ntmps13
    go_wp2
    simp only [hc] at HK0 HB0 HS0
    generalize w.alloc (.cells [Value.int .i64 h.id, .int .i64 h.patron, .int .i64 h.item, .int .i64 h.src, .int .i64 h.num, .int .i64 h.pickup, .int .i64 h.till, .int .i64 h.time, .int .i64 h.site, .int .i64 h.stamp].toArray 28) = w0 at HK0 HB0 HS0 ⊢
    go_loopw [6] (fun s6 wr => ∃ k q : Nat, k ≤ L.length ∧ s6 = .int .i64 k ∧ wr = w0.drewN q ∧ Hid ((L.take k).any (fun x => decide (x.id = h.id)) = false)) (fun s6 _ => L.length - (intOf s6).toNat)
    case atStart => exact ⟨0, 0, Nat.zero_le _, rfl, rfl, rfl⟩
    case round =>
      obtain ⟨k, q, hk, rfl, rfl, HN⟩ := hrel
      by_cases hlt : k < L.length
      · have hltz : (k : Int) < (L.length : Int) := by omega
        have hk0 : (0 : Int) ≤ (k : Int) := by omega
        obtain ⟨b, o, rfl, hcell⟩ := HS0.out.headN (by omega) (by omega)
        obtain ⟨c0, -⟩ := hold_cells hcell k hlt
        obtain ⟨e0, -⟩ := box_cells (h := h) HB0.out
        clear hcell
        by_cases he : L[k].id = h.id
        · have hany := any_hit hlt he
          rw [hany] at HE HL
          rw [he] at c0
          go_wp2
          go_quiet (fail)
          go_wp2
          go_ret2
          refine ⟨_, by rw [HE.out]; rfl, by rw [HL.out]; exact own_nil _, new_nil _, (HK0.out.drewN _).drewN _⟩
        · have hany := hide (any_none_succ HN.out hlt he)
          generalize L[k].id = x at c0 he
          go_wp2
          go_quiet (fail)
          have hx : (x == h.id) = false := by simp [he]
          go_wp2
          go_roundw
          case measure => simp [intOf]; omega
          case rel => exact ⟨k + 1, _, by omega, by go_num, rfl, hany⟩
      · have hltz : ¬ (k : Int) < (L.length : Int) := by omega
        obtain rfl : k = L.length := by omega
        rw [List.take_length] at HN
        rw [HN.out] at HE HL
        have HK1 := hide (HK0.out.drewN q)
        have HB1 := hide (show Bk (w0.drewN q) w.heap.size 28 (hc h).toArray from HB0.out)
        have HS1 := hide (Src.keep HS0.out ((Keeps.refl [] w0).drewN q) (by simp))
        clear HK0 HB0 HS0 HN
        go_wp2
        generalize w0.drewN q = w1 at *
        go_loopw [7, 8] (fun s7 _ wr => ∃ m : Nat, m ≤ L.length ∧ s7 = .int .i64 m ∧ Hid (Keeps [] w1 wr) ∧ Hid (afters h L m)) (fun s7 _ _ => L.length - (intOf s7).toNat)
        case atStart => exact ⟨0, Nat.zero_le _, rfl, hide (Keeps.refl _ _), hide (afters_zero _ _)⟩
        case round =>
          obtain ⟨m, hm, rfl, HKR, HA⟩ := hrel
          have HBW := hide (HB1.out.keep HKR.out (by simp))
          have HSW := hide (Src.keep HS1.out HKR.out (by simp))
          have HKW := hide (HK1.out.trans' HKR.out)
          by_cases hlt : m < L.length
          · have hltz : (m : Int) < (L.length : Int) := by omega
            have hk0 : (0 : Int) ≤ (m : Int) := by omega
            obtain ⟨b, o, rfl, hcell⟩ := (Src.keep HSW.out ((Keeps.refl [] wr).drew) (by simp)).headN (by omega) (by omega)
            have hbx : Bk wr.drew w.heap.size 28 (hc h).toArray := HBW.out
            go_wp2
            refine wp_region_still_tail 5 (by kernel_rfl) (by kernel_rfl) ?_
            simp only [List.take_succ_cons, List.take_zero, List.drop_succ_cons, List.drop_zero]
            change wpStill _ _ wr.drew _ _ _
            change wpStill _ _ _ (fun a' => wpList _ _ _ _ a' wr.drew) _ _
            have HKD := hide (HKR.out.drew)
            generalize wr.drew = wd at hcell hbx HKD ⊢
            obtain ⟨c0, c1, c2, c3, c4, c5, c6, c7, c8, c9⟩ := hold_cells hcell m hlt
            obtain ⟨d0, d1, d2, d3, d4, d5, d6, d7, d8, d9⟩ := box_cells (h := h) hbx
            have hcall := before_any h L[m] wd
            have HS' := hide (fun hb => afters_succ HA.out hlt hb)
            have HH' := hide (fun hb => afters_here HA.out hlt hb)
            clear hcell hbx
            generalize L[m] = y at c0 c1 c2 c3 c4 c5 c6 c7 c8 c9 hcall HS' HH'
            unfold hv hc at hcall
            repeat still_step
            refine wpStill_nil ?_
            clear c0 c1 c2 c3 c4 c5 c6 c7 c8 c9 d0 d1 d2 d3 d4 d5 d6 d7 d8 d9
            cases hq : beforeB h y with
            | true =>
              rw [hq] at hcall
              have HI := hide (HH'.out hq)
              have hcm : ¬ (c = m) := by omega
              have z2 : (m : Int) ≤ (c : Int) := by omega
              have z4 : (m : Int) ≤ (L.length : Int) := by omega
              have z3 : (L.length : Int) ≤ (c : Int) := by omega
              go_wp2_with (first | (go_at_call 18; refine hcall.mono ?_; rintro e wb ⟨rfl, hkb⟩; have HKE := hide (HK1.out.trans' (HKD.out.trans' hkb)); have HBE := hide (HB1.out.keep (HKD.out.trans' hkb) (by simp)); clear hkb) | (with_reducible refine Halt.append ?_))
              have HE1 := hide (show (.int .i64 (putE L h) : Value) = .int .i64 0 by rw [HE.out]; rfl)
              have HL1 := hide (show putL L h = L.take m ++ (h :: L.drop m) by rw [HL.out]; exact HI.out)
              have HF := hide ((by have := HS.front HSo.out m hm; unfold HS at this; rw [List.length_take, Nat.min_eq_left hm] at this; exact this : Src w 10 (.slice (some ⟨b, o, none⟩) m c) m (hcs (L.take m))))
              have HBK := hide ((by have := HS.back HSo.out m hm hc0; unfold HS at this; rw [if_neg hcm, List.length_drop, Addr.add_lit] at this; exact this : Src w 10 (.slice (some ⟨b, o + m * 10, none⟩) (L.length - m) (c - m)) (L.length - m) (hcs (L.drop m))))
              clear HE HL HI
              refine Halt.on ?_
              refine wpList_append_src _ rfl _ _ _ rfl 28 i0 _ 10 80 Try.und22 hi hz0 hz1 hz2 rfl (by omega) _ _ _ rfl (own_nil _) (.slice (some ⟨b, o, none⟩) m c) m (hcs (L.take m)) rfl (Src.keep HF.out HKE.out (by simp)) (hcs_one _) (by simp only [maxLen, List.length_nil]; omega) (by simp only [List.length_nil]; omega) ?_
              intro v1 wa1 hown1 hgrow1 hblk1
              have HST1 := hide (step_own HKE.out (new_nil _) hgrow1 hblk1)
              have HO1 := hide (show Own wa1 28 10 v1 (m) (hcs (L.take m)) by simpa [hcs] using hown1)
              have HB1' := hide (HBE.out.keep (Keeps.of_grown (F := []) hgrow1 (fun k hk => by change (none : Option Nat) = some k at hk; cases hk)) (by simp))
              clear hown1 hgrow1 hblk1
              obtain ⟨d0, d1, d2, d3, d4, d5, d6, d7, d8, d9⟩ := box_cells (h := h) HB1'.out
              go_wp2_with (with_reducible refine Halt.append ?_)
              refine Halt.on ?_
              clear d0 d1 d2 d3 d4 d5 d6 d7 d8 d9
              refine wpList_append_src _ rfl _ _ _ rfl 28 i0 _ 10 80 Try.und22 hi hz0 hz1 hz2 rfl (by omega) v1 _ _ rfl (Own.alloc HO1.out _) (.slice (some ⟨wa1.heap.size, 0, none⟩) 1 1) 1 (hc h) rfl (Src.built wa1 28 (hc h).toArray 10 1 rfl _ rfl) (fun u hu => hcs_one [h] u (by simpa [hcs] using hu)) (by unfold maxLen; omega) (by omega) ?_
              intro v2 wa2 hown2 hgrow2 hblk2
              have HST2 := hide (step_own (HST1.out.1.alloc _) HST1.out.2 hgrow2 hblk2)
              have HO2 := hide hown2
              clear hown2 hgrow2 hblk2
              go_wp2_with (with_reducible refine Halt.append ?_)
              refine Halt.on ?_
              refine wpList_append_src _ rfl _ _ _ rfl 28 i0 _ 10 80 Try.und22 hi hz0 hz1 hz2 rfl (by omega) v2 _ _ rfl HO2.out _ (L.length - m) (hcs (L.drop m)) rfl (Src.keep HBK.out HST2.out.1 (by simp)) (hcs_one _) (by unfold maxLen; omega) (by omega) ?_
              intro v3 wa3 hown3 hgrow3 hblk3
              have HST3 := hide (step_own HST2.out.1 HST2.out.2 hgrow3 hblk3)
              have HO3 := hide hown3
              clear hown3 hgrow3 hblk3
              go_wp2
              go_ret2
              refine ⟨_, by rw [HE1.out]; rfl, ?_, HST3.out.2, HST3.out.1⟩
              rw [HL1.out]
              have e1 : hcs (L.take m ++ (h :: L.drop m)) = hcs (L.take m) ++ hc h ++ hcs (L.drop m) := by simp [hcs]
              have e2 : (L.take m ++ (h :: L.drop m)).length = m + 1 + (L.length - m) := by simp; try omega
              unfold HO
              rw [e1, e2]
              exact HO3.out
            | false =>
              rw [hq] at hcall
              have HI := hide (HS'.out hq)
              go_wp2_with (go_at_call 18; refine hcall.mono ?_; rintro e wb ⟨rfl, hkb⟩)
              go_roundw
              case measure => simp [intOf]; omega
              case rel => exact ⟨m + 1, by omega, by go_num, hide (HKD.out.trans' hkb), HI⟩
          · have hltz : ¬ (m : Int) < (L.length : Int) := by omega
            obtain rfl : m = L.length := by omega
            have HI := hide (show ins h L = L ++ (h :: []) by have := afters_end HA.out; simpa using this)
            have HKE := HKW
            have HBE := HBW
            have z3 : (L.length : Int) ≤ (c : Int) := by omega
            cases A with
            | none =>
              obtain rfl := hA0 rfl
              obtain rfl : L = [] := List.eq_nil_of_length_eq_zero (by omega)
              have HE1 := hide (show (.int .i64 (putE [] h) : Value) = .int .i64 0 by rw [HE.out]; rfl)
              have HL1 := hide (show putL [] h = ([] : List Hold) ++ (h :: ([] : List Hold)) by rw [HL.out]; exact HI.out)
              have HF := hide ((src_zero w 10 none 0))
              have HBK := hide (src_zero w 10 none 0)
              clear HE HL HI
              go_wp2_with (with_reducible refine Halt.append ?_)
              refine Halt.on ?_
              refine wpList_append_src _ rfl _ _ _ rfl 28 i0 _ 10 80 Try.und22 hi hz0 hz1 hz2 rfl (by omega) _ _ _ rfl (own_nil _) (.slice none 0 0) 0 (hcs (([] : List Hold))) rfl (Src.keep HF.out HKE.out (by simp)) (hcs_one _) (by simp only [maxLen, List.length_nil]; omega) (by simp only [List.length_nil]; omega) ?_
              intro v1 wa1 hown1 hgrow1 hblk1
              have HST1 := hide (step_own HKE.out (new_nil _) hgrow1 hblk1)
              have HO1 := hide (show Own wa1 28 10 v1 (0) (hcs (([] : List Hold))) by simpa [hcs] using hown1)
              have HB1' := hide (HBE.out.keep (Keeps.of_grown (F := []) hgrow1 (fun k hk => by change (none : Option Nat) = some k at hk; cases hk)) (by simp))
              clear hown1 hgrow1 hblk1
              obtain ⟨d0, d1, d2, d3, d4, d5, d6, d7, d8, d9⟩ := box_cells (h := h) HB1'.out
              go_wp2_with (with_reducible refine Halt.append ?_)
              refine Halt.on ?_
              clear d0 d1 d2 d3 d4 d5 d6 d7 d8 d9
              refine wpList_append_src _ rfl _ _ _ rfl 28 i0 _ 10 80 Try.und22 hi hz0 hz1 hz2 rfl (by omega) v1 _ _ rfl (Own.alloc HO1.out _) (.slice (some ⟨wa1.heap.size, 0, none⟩) 1 1) 1 (hc h) rfl (Src.built wa1 28 (hc h).toArray 10 1 rfl _ rfl) (fun u hu => hcs_one [h] u (by simpa [hcs] using hu)) (by unfold maxLen; omega) (by omega) ?_
              intro v2 wa2 hown2 hgrow2 hblk2
              have HST2 := hide (step_own (HST1.out.1.alloc _) HST1.out.2 hgrow2 hblk2)
              have HO2 := hide hown2
              clear hown2 hgrow2 hblk2
              go_wp2_with (with_reducible refine Halt.append ?_)
              refine Halt.on ?_
              refine wpList_append_src _ rfl _ _ _ rfl 28 i0 _ 10 80 Try.und22 hi hz0 hz1 hz2 rfl (by omega) v2 _ _ rfl HO2.out _ 0 (hcs (([] : List Hold))) rfl (Src.keep HBK.out HST2.out.1 (by simp)) (hcs_one _) (by unfold maxLen; omega) (by omega) ?_
              intro v3 wa3 hown3 hgrow3 hblk3
              have HST3 := hide (step_own HST2.out.1 HST2.out.2 hgrow3 hblk3)
              have HO3 := hide hown3
              clear hown3 hgrow3 hblk3
              go_wp2
              go_ret2
              refine ⟨_, by rw [HE1.out]; rfl, ?_, HST3.out.2, HST3.out.1⟩
              rw [HL1.out]
              have e1 : hcs (([] : List Hold) ++ (h :: ([] : List Hold))) = hcs (([] : List Hold)) ++ hc h ++ hcs (([] : List Hold)) := by simp [hcs]
              have e2 : (([] : List Hold) ++ (h :: ([] : List Hold))).length = 0 + 1 + 0 := by simp; try omega
              unfold HO
              rw [e1, e2]
              exact HO3.out
            | some ad =>
              by_cases hcm : c = L.length
              · subst hcm
                have HE1 := hide (show (.int .i64 (putE L h) : Value) = .int .i64 0 by rw [HE.out]; rfl)
                have HL1 := hide (show putL L h = L ++ (h :: ([] : List Hold)) by rw [HL.out]; exact HI.out)
                have HF := hide (HSo.out)
                have HBK := hide (src_zero w 10 (some ad) 0)
                clear HE HL HI
                go_wp2_with (with_reducible refine Halt.append ?_)
                refine Halt.on ?_
                refine wpList_append_src _ rfl _ _ _ rfl 28 i0 _ 10 80 Try.und22 hi hz0 hz1 hz2 rfl (by omega) _ _ _ rfl (own_nil _) (.slice (some ad) L.length L.length) L.length (hcs (L)) rfl (Src.keep HF.out HKE.out (by simp)) (hcs_one _) (by simp only [maxLen, List.length_nil]; omega) (by simp only [List.length_nil]; omega) ?_
                intro v1 wa1 hown1 hgrow1 hblk1
                have HST1 := hide (step_own HKE.out (new_nil _) hgrow1 hblk1)
                have HO1 := hide (show Own wa1 28 10 v1 (L.length) (hcs (L)) by simpa [hcs] using hown1)
                have HB1' := hide (HBE.out.keep (Keeps.of_grown (F := []) hgrow1 (fun k hk => by change (none : Option Nat) = some k at hk; cases hk)) (by simp))
                clear hown1 hgrow1 hblk1
                obtain ⟨d0, d1, d2, d3, d4, d5, d6, d7, d8, d9⟩ := box_cells (h := h) HB1'.out
                go_wp2_with (with_reducible refine Halt.append ?_)
                refine Halt.on ?_
                clear d0 d1 d2 d3 d4 d5 d6 d7 d8 d9
                refine wpList_append_src _ rfl _ _ _ rfl 28 i0 _ 10 80 Try.und22 hi hz0 hz1 hz2 rfl (by omega) v1 _ _ rfl (Own.alloc HO1.out _) (.slice (some ⟨wa1.heap.size, 0, none⟩) 1 1) 1 (hc h) rfl (Src.built wa1 28 (hc h).toArray 10 1 rfl _ rfl) (fun u hu => hcs_one [h] u (by simpa [hcs] using hu)) (by unfold maxLen; omega) (by omega) ?_
                intro v2 wa2 hown2 hgrow2 hblk2
                have HST2 := hide (step_own (HST1.out.1.alloc _) HST1.out.2 hgrow2 hblk2)
                have HO2 := hide hown2
                clear hown2 hgrow2 hblk2
                go_wp2_with (with_reducible refine Halt.append ?_)
                refine Halt.on ?_
                refine wpList_append_src _ rfl _ _ _ rfl 28 i0 _ 10 80 Try.und22 hi hz0 hz1 hz2 rfl (by omega) v2 _ _ rfl HO2.out _ 0 (hcs (([] : List Hold))) rfl (Src.keep HBK.out HST2.out.1 (by simp)) (hcs_one _) (by unfold maxLen; omega) (by omega) ?_
                intro v3 wa3 hown3 hgrow3 hblk3
                have HST3 := hide (step_own HST2.out.1 HST2.out.2 hgrow3 hblk3)
                have HO3 := hide hown3
                clear hown3 hgrow3 hblk3
                go_wp2
                go_ret2
                refine ⟨_, by rw [HE1.out]; rfl, ?_, HST3.out.2, HST3.out.1⟩
                rw [HL1.out]
                have e1 : hcs (L ++ (h :: ([] : List Hold))) = hcs (L) ++ hc h ++ hcs (([] : List Hold)) := by simp [hcs]
                have e2 : (L ++ (h :: ([] : List Hold))).length = L.length + 1 + 0 := by simp; try omega
                unfold HO
                rw [e1, e2]
                exact HO3.out
              · skip
                have HE1 := hide (show (.int .i64 (putE L h) : Value) = .int .i64 0 by rw [HE.out]; rfl)
                have HL1 := hide (show putL L h = L ++ (h :: ([] : List Hold)) by rw [HL.out]; exact HI.out)
                have HF := hide (HSo.out)
                have HBK := hide (src_zero w 10 (some (ad.add (L.length * 10))) (c - L.length))
                clear HE HL HI
                go_wp2_with (with_reducible refine Halt.append ?_)
                refine Halt.on ?_
                refine wpList_append_src _ rfl _ _ _ rfl 28 i0 _ 10 80 Try.und22 hi hz0 hz1 hz2 rfl (by omega) _ _ _ rfl (own_nil _) (.slice (some ad) L.length c) L.length (hcs (L)) rfl (Src.keep HF.out HKE.out (by simp)) (hcs_one _) (by simp only [maxLen, List.length_nil]; omega) (by simp only [List.length_nil]; omega) ?_
                intro v1 wa1 hown1 hgrow1 hblk1
                have HST1 := hide (step_own HKE.out (new_nil _) hgrow1 hblk1)
                have HO1 := hide (show Own wa1 28 10 v1 (L.length) (hcs (L)) by simpa [hcs] using hown1)
                have HB1' := hide (HBE.out.keep (Keeps.of_grown (F := []) hgrow1 (fun k hk => by change (none : Option Nat) = some k at hk; cases hk)) (by simp))
                clear hown1 hgrow1 hblk1
                obtain ⟨d0, d1, d2, d3, d4, d5, d6, d7, d8, d9⟩ := box_cells (h := h) HB1'.out
                go_wp2_with (with_reducible refine Halt.append ?_)
                refine Halt.on ?_
                clear d0 d1 d2 d3 d4 d5 d6 d7 d8 d9
                refine wpList_append_src _ rfl _ _ _ rfl 28 i0 _ 10 80 Try.und22 hi hz0 hz1 hz2 rfl (by omega) v1 _ _ rfl (Own.alloc HO1.out _) (.slice (some ⟨wa1.heap.size, 0, none⟩) 1 1) 1 (hc h) rfl (Src.built wa1 28 (hc h).toArray 10 1 rfl _ rfl) (fun u hu => hcs_one [h] u (by simpa [hcs] using hu)) (by unfold maxLen; omega) (by omega) ?_
                intro v2 wa2 hown2 hgrow2 hblk2
                have HST2 := hide (step_own (HST1.out.1.alloc _) HST1.out.2 hgrow2 hblk2)
                have HO2 := hide hown2
                clear hown2 hgrow2 hblk2
                go_wp2_with (with_reducible refine Halt.append ?_)
                refine Halt.on ?_
                refine wpList_append_src _ rfl _ _ _ rfl 28 i0 _ 10 80 Try.und22 hi hz0 hz1 hz2 rfl (by omega) v2 _ _ rfl HO2.out _ 0 (hcs (([] : List Hold))) rfl (Src.keep HBK.out HST2.out.1 (by simp)) (hcs_one _) (by unfold maxLen; omega) (by omega) ?_
                intro v3 wa3 hown3 hgrow3 hblk3
                have HST3 := hide (step_own HST2.out.1 HST2.out.2 hgrow3 hblk3)
                have HO3 := hide hown3
                clear hown3 hgrow3 hblk3
                go_wp2
                go_ret2
                refine ⟨_, by rw [HE1.out]; rfl, ?_, HST3.out.2, HST3.out.1⟩
                rw [HL1.out]
                have e1 : hcs (L ++ (h :: ([] : List Hold))) = hcs (L) ++ hc h ++ hcs (([] : List Hold)) := by simp [hcs]
                have e2 : (L ++ (h :: ([] : List Hold))).length = L.length + 1 + 0 := by simp; try omega
                unfold HO
                rw [e1, e2]
                exact HO3.out
end Go.Proofs.Ytlpmalkjbagbgaa

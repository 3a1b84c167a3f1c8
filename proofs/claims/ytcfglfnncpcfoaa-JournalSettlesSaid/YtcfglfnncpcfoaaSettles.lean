/- The walk of JournalSettles. -/
import Derived.Test.YtcfglfnncpcfoaaSval
import Derived.Test.YtcfglfnncpcfoaaOpen
import Derived.Test.YtcfglfnncpcfoaaSame
namespace Go.Proofs.Ytcfglfnncpcfoaa
open Go.RowKit
set_option maxHeartbeats 16000000 in
set_option maxRecDepth 100000 in
theorem settles_walk (A : Option Addr) (c : Nat) (l : List Ev) (A' : Option Addr) (c' : Nat) (q : List Int) (w : World) (H : CameE w A c l) (H' : CameI w A' c' q) : Calls Try.prog 7 #[.slice A l.length c, .slice A' q.length c'] w fun r w' => r = .returned (.bool true) ∧ Keeps [] w w' := by
  have hs := H.s
  have HSI := hide H'.s
  have HOK := hide H.ok
  have HQZ := hide H'.sz
  have HSZ := hide (And.intro H.le H.cm)
  have HSQ := hide (And.intro H'.le H'.cm)
  clear H H'
  have HS := hide hs
  clear hs
  obtain ⟨i0, hi, hz0, hz1, hz2⟩ := info_parts Try.info27b
  have HI := hide (And.intro hi (And.intro hz0 (And.intro hz1 hz2)))
  clear hi hz0 hz1 hz2
  go_enter Try.func7, Try.ntmps7
  go_wp2_with fail
  refine (sanity_any w).mono ?_
  rintro r w1 ⟨rfl, k1⟩
  have HK := hide k1
  clear k1
  go_wp2_with fail
  refine (new_any w1).mono ?_
  rintro r w2 ⟨rfl, g1, k1⟩
  go_wp2_with fail
  refine (new_any w2).mono ?_
  rintro r w3 ⟨rfl, g2, k2⟩
  have HD := hide (And.intro (Du.news g1 k1 (Nat.le_refl _) g2 k2 (Nat.le_refl _)) (rfl : Lg.new.op = 0))
  clear g1 k1 g2 k2
  generalize w1.heap.size = g at HD ⊢
  generalize w2.heap.size = h at HD ⊢
  go_wp2
  go_loopw [8] (fun s8 wr => ∃ k : Nat, k ≤ 60 ∧ s8 = .int .i64 k ∧ Hid (∃ S, Du w1 wr g h S S [] ∧ S.op = 0)) (fun s8 _ => 60 - (intOf s8).toNat)
  case atStart => exact ⟨0, by omega, rfl, hide ⟨Lg.new, HD.out.1, rfl⟩⟩
  case round =>
    obtain ⟨k, hk, rfl, HX⟩ := hrel
    clear HD
    have hk0 : (0 : Int) ≤ (k : Int) := by omega
    obtain ⟨S, hS⟩ := HX.out
    have HD := hide hS
    clear hS HX
    by_cases hlt : k < l.length
    · have hltz : (k : Int) < (l.length : Int) := by omega
      by_cases h60 : k < 60
      · have h60z : (k : Int) < 60 := by omega
        have hcn := HSZ.out
        obtain ⟨b, o, rfl, hcell⟩ := (Src.keep HS.out (HK.out.trans' HD.out.1.keeps) (by simp)).headN (by omega) (by omega)
        have hev : EvAt wr b (o + k * 18) l[k] := fun a v hv => by
          have := hcell _ _ (ecs_at l k hlt a v hv)
          rwa [← Nat.add_assoc] at this
        have hxo := (HOK.out _ (List.getElem_mem hlt)).t
        generalize l[k] = x at hev hxo
        have HEV := hide hev
        obtain ⟨m, hm⟩ : ∃ m, x.t % 40 = m := ⟨_, rfl⟩
        have hm0 : 0 ≤ m ∧ m < 40 := by omega
        obtain ⟨e, he⟩ : ∃ e : Ev, e = { x with t := m } := ⟨_, rfl⟩
        have het : e.t = m := by rw [he]
        have HM := hide hm
        have HXO := hide hxo
        have HET := hide (show -9223372036854775808 ≤ e.t ∧ e.t ≤ 9223372036854775807 by omega)
        have HE := hide he
        clear hev hm hxo he het hcell hcn
        go_wp2_with (with_reducible refine Halt.load (t := 27) ?_)
        refine Halt.on ?_
        refine wpList_load_ev rfl _ rfl b (o + k * 18) x rfl HEV.out ?_
        clear HEV
        go_wp2_with (with_reducible refine Halt.store (t := 27) ?_)
        refine Halt.on ?_
        change wpList _ _ _ _ _ (wr.alloc (.cells (ec z0).toArray 27))
        refine wpList_store_ev rfl _ _ rfl wr.heap.size x rfl rfl 27 _ (Bk.new wr 27 _) rfl ?_
        simp only [Act.put]
        have HD4 := hide ((HD.out.1.box 27 (ec z0).toArray).put (fun b hb => by cases hb) ((Keeps.refl [wr.heap.size] _).setRow (g := wr.heap.size) (.inl (by simp)) (ec x).toArray) (row_bk (Bk.new wr 27 (ec z0).toArray) (ec x).toArray))
        have HOP := hide HD.out.2
        clear HD
        generalize (wr.alloc (.cells (ec z0).toArray 27)).setRow wr.heap.size (ec x).toArray = w4 at HD4 ⊢
        generalize wr.heap.size = bx at HD4 ⊢
        have HBX := hide (show Bk w4 bx 27 (ec x).toArray from HD4.out.bk (b := (bx, 27, (ec x).toArray)) (by simp))
        have c0 : w4.cell? ⟨bx, 0, none⟩ = some (.int .i64 x.t) := HBX.out.cell 0
        go_wp2_with fail
        refine (mod_any x.t 40 _ HXO.out.1 HXO.out.2 (by omega) (by omega)).mono ?_
        rintro r w' ⟨rfl, rfl⟩
        rw [HM.out]
        go_wp2_with (with_reducible refine Halt.store (t := 3) ?_)
        refine Halt.on ?_
        refine wpList_store_i64 rfl _ _ rfl bx 0 m _ rfl rfl c0 (HBX.out.free 0) ?_
        clear c0
        have HD6 := hide (HD4.out.put (fun b hb => by cases hb) (cs' := (ec e).toArray) ((Keeps.refl [bx] w4).setCell (p := ⟨bx, 0, none⟩) (.inl (by simp)) (.int .i64 m)) (by rw [HE.out]; exact HBX.out.set 0 _))
        clear HD4 HBX
        generalize w4.setCell ⟨bx, 0, none⟩ (.int .i64 m) = w5 at HD6 ⊢
        go_wp2_with (with_reducible refine Halt.load (t := 27) ?_)
        refine Halt.on ?_
        refine wpList_load_ev rfl _ rfl bx 0 e rfl (EvAt.box (HD6.out.bk (b := (bx, 27, (ec e).toArray)) (by simp))) ?_
        go_wp2_with fail
        refine (HD6.out.takeL e HET.out.1 HET.out.2).mono ?_
        rintro r w6 ⟨rfl, h6⟩
        have HD7 := hide h6
        clear h6 HD6
        go_wp2_with (with_reducible refine Halt.load (t := 27) ?_)
        refine Halt.on ?_
        refine wpList_load_ev rfl _ rfl bx 0 e rfl (EvAt.box (HD7.out.bk (b := (bx, 27, (ec e).toArray)) (by simp))) ?_
        go_wp2_with fail
        refine (HD7.out.takeR e HET.out.1 HET.out.2).mono ?_
        rintro r w7 ⟨rfl, h7⟩
        have HD8 := hide (And.intro (h7.less (C := []) (fun b hb => by cases hb)) ((take_len S e).1.trans HOP.out))
        clear h7 HD7
        go_wp2
        go_roundw
        case measure => simp [intOf]; omega
        case rel => exact ⟨k + 1, by omega, by go_num, hide ⟨_, HD8.out⟩⟩
      · have h60z : ¬ (k : Int) < 60 := by omega
        clear hlt h60
        have HV0 := hide (Sv.of HD.out.1).nil
        have HS0 := hide HD.out.2
        clear HD
        go_wp2
        go_loopw [10, 11, 12] (fun s10 s11 s12 wr => ∃ (i n c : Nat) (A : Option Addr) (last : Int), i ≤ 10 ∧ s12 = .int .i64 i ∧ s10 = .slice A n c ∧ s11 = .int .i64 last ∧ Hid (∃ S' Q, Q.length = n ∧ Sv w1 wr g h S' S [(.slice A n c, Q)] ∧ Q ++ S'.L = S.L ∧ (S'.op : Int) = last + 1 ∧ last ≤ 41)) (fun _ _ s12 _ => 10 - (intOf s12).toNat)
        case atStart => exact ⟨0, 0, 0, none, -1, by omega, rfl, rfl, rfl, hide ⟨S, [], rfl, HV0.out, rfl, by rw [HS0.out]; rfl, by omega⟩⟩
        case round =>
          obtain ⟨i, n, c2, A2, last, hi, rfl, rfl, rfl, HX⟩ := hrel
          obtain ⟨S', Q, rfl, hv, hq, hl, hb⟩ := HX.out
          have HV := hide hv
          have HQ := hide hq
          have HOP := hide (And.intro hl hb)
          clear hv hq hl hb HX HV0
          have hi0 : (0 : Int) ≤ (i : Int) := by omega
          by_cases hlt : i < q.length
          · have hltz : (i : Int) < (q.length : Int) := by omega
            by_cases h10 : i < 10
            · have h10z : (i : Int) < 10 := by omega
              have hqc := HSQ.out
              obtain ⟨b1, o1, rfl, hcell⟩ := (Src.keep HSI.out (HK.out.trans' HV.out.du.keeps) (by simp)).headN (by omega) (by omega)
              have cq : wr.cell? ⟨b1, o1 + i, none⟩ = some (.int .i64 q[i]) := hcell i _ (by simp [isv, hlt])
              have hq1 := HQZ.out _ (List.getElem_mem hlt)
              clear hcell
              generalize q[i] = x at cq hq1
              obtain ⟨m, hm⟩ : ∃ m, x % 45 = m := ⟨_, rfl⟩
              have hm0 : 0 ≤ m ∧ m < 45 := by omega
              have v1 : wrap64 (m - 3) = m - 3 := IntWalk.wrap64_in _ ⟨by omega, by omega⟩
              obtain ⟨T, hT⟩ : ∃ T, m - 3 = T := ⟨_, rfl⟩
              have HV1 := hide (v1.trans hT)
              clear v1
              have hT0 : -3 ≤ T ∧ T ≤ 41 := by omega
              obtain ⟨lm, hlm⟩ : ∃ lm, max last T = lm := ⟨_, rfl⟩
              have HT := hide hT0
              have HM := hide hm
              have HQ1 := hide hq1
              have hst := settle_step (x := T) HQ.out HOP.out.1
              have hlt2 : ∀ e, e ∈ settleR S' T → e.t ≤ T ∧ e.t < (settleS S' T).op := fun e he => settle_late HV.out.du.okL he
              rw [hlm] at hst
              have hlm2 : lm ≤ 41 := by have := HOP.out.2; omega
              have HLM := hide hlm2
              have HST := hide hst
              have HLT := hide hlt2
              clear hst hlt2 hm hq1 hm0 hT hT0 hlm2
              go_wp2_with fail
              refine (mod_any x 45 _ HQ1.out.1 HQ1.out.2 (by omega) (by omega)).mono ?_
              rintro r w' ⟨rfl, rfl⟩
              rw [HM.out]
              clear cq
              go_wp2_with fail
              rw [HV1.out]
              refine (HV.out.settleL T (by have := HT.out; omega) (by have := HT.out; omega)).mono ?_
              rintro r w5 ⟨v5, rfl, h5⟩
              obtain ⟨A3, c3, rfl⟩ := Own.slice (h5.eo (v := v5) (Q := settleR S' T) (by simp))
              have HU := hide h5
              clear h5 HV HQ HOP
              obtain ⟨R, hR⟩ : ∃ R, settleR S' T = R := ⟨_, rfl⟩
              obtain ⟨S2, hS2⟩ : ∃ S2, settleS S' T = S2 := ⟨_, rfl⟩
              rw [hR, hS2] at HST HLT HU
              rw [hR]
              clear hR hS2 HV1
              have hle : Q.length + R.length ≤ 20000 := by
                have h1 := HU.out.du.okR.len
                rw [← HST.out.1, List.length_append, List.length_append] at h1
                omega
              have hlow : ∀ e, e ∈ R → 0 ≤ e.t := fun e he => by
                have h1 : e ∈ S.L := by
                  rw [← HST.out.1]
                  simp [he]
                have := HU.out.du.okR.low e h1
                omega
              have HLE := hide hle
              have HLO := hide hlow
              clear hle hlow
              go_wp2
              go_loopw [15] (fun s15 wr => ∃ k : Nat, k ≤ R.length ∧ s15 = .int .i64 k ∧ Hid (Sv w1 wr g h S2 S [(.slice A3 R.length c3, R), (.slice A2 Q.length c2, Q)])) (fun s15 _ => R.length - (intOf s15).toNat)
              case atStart => exact ⟨0, by omega, rfl, HU⟩
              case round =>
                obtain ⟨k, hk, rfl, HR⟩ := hrel
                clear HU
                have hk0 : (0 : Int) ≤ (k : Int) := by omega
                by_cases hlk : k < R.length
                · have hlkz : (k : Int) < (R.length : Int) := by omega
                  have hke : k < 20000 := by have := HLE.out; omega
                  obtain ⟨b3, o3, rfl, hcell⟩ := (Own.src (HR.out.eo (v := .slice A3 R.length c3) (Q := R) (by simp))).headN (by omega) (by omega)
                  have hev : EvAt wr b3 (o3 + k * 18) R[k] := fun a v hv => by
                    have := hcell _ _ (ecs_at R k hlk a v hv)
                    rwa [← Nat.add_assoc] at this
                  have hla := HLT.out _ (List.getElem_mem hlk)
                  have hlo := HLO.out _ (List.getElem_mem hlk)
                  clear hcell
                  generalize R[k] = e at hev hla hlo
                  have hlate := take_late (S := S2) (e := e) hla.2
                  have c0 : wr.cell? ⟨b3, o3 + k * 18, none⟩ = some (.int .i64 e.t) := hev 0 _ rfl
                  have HEV := hide hev
                  have HLA := hide hlate
                  have HLO2 := hide (And.intro hlo hla.1)
                  have hgt : ¬ T < e.t := by omega
                  clear hlate hlo hla hev
                  have hgt2 : e.t ≤ T := by omega
                  obtain ⟨te, hte⟩ : ∃ te, e.t = te := ⟨_, rfl⟩
                  rw [hte] at hgt hgt2 c0
                  have HTE := hide hte
                  clear hte
                  go_wp2_with (with_reducible refine Halt.load (t := 27) ?_)
                  refine Halt.on ?_
                  refine wpList_load_evG (by rfl) _ rfl b3 (o3 + k * 18) e rfl HEV.out ?_
                  clear c0 hgt hgt2
                  go_wp2_with fail
                  refine (HR.out.takeL e (by have := HLO2.out; omega) (by have := HLO2.out; have := HT.out; omega)).mono ?_
                  rintro r w7 ⟨hr, h7⟩
                  rw [HLA.out.1] at hr
                  rw [HLA.out.2] at h7
                  subst hr
                  have H7 := hide h7
                  clear h7 HR HEV HLA
                  go_wp2
                  go_roundw
                  case measure => simp [intOf]; omega
                  case rel => exact ⟨k + 1, by omega, by go_num, H7⟩
                · have hlkz : ¬ (k : Int) < (R.length : Int) := by omega
                  clear hlk hk HLT HLO
                  go_wp2_with (with_reducible refine Halt.append ?_)
                  refine Halt.on ?_
                  refine wpList_append_srcG (by rfl) _ _ _ rfl 27 i0 _ 18 152 Try.underlying55 HI.out.1 HI.out.2.1 HI.out.2.2.1 HI.out.2.2.2 rfl (by omega) (.slice A2 Q.length c2) Q.length (ecs Q) rfl (HR.out.eo (by simp)) (.slice A3 R.length c3) R.length (ecs R) rfl (Own.src (HR.out.eo (by simp))) (ecs_one _) (by have := HLE.out; unfold maxLen; omega) (by have := HLE.out; omega) ?_
                  intro v' w9 hown hgrow hblk
                  have hown' : EO w9 v' (Q ++ R) := by
                    show Own w9 27 18 v' (Q ++ R).length (ecs (Q ++ R))
                    rw [List.length_append, ecs_append]
                    exact hown
                  obtain ⟨A4, c4, rfl⟩ := Own.slice hown'
                  have HG := hide (HR.out.grown (v := .slice A2 Q.length c2) (Q := Q) (by simp) hown' hgrow hblk)
                  rw [List.length_append] at HG
                  clear hown hown' hgrow hblk HR
                  have hse : (S2.op : Int) - 1 = lm := by have := HST.out.2; omega
                  have HSE := hide hse
                  clear hse
                  go_wp2_with fail
                  refine HG.out.settled.mono ?_
                  rintro r w'' ⟨rfl, rfl⟩
                  rw [HSE.out]
                  go_wp2
                  go_roundw
                  case measure => simp [intOf]; omega
                  case rel => exact ⟨i + 1, _, _, _, _, by omega, by go_num, rfl, rfl, hide ⟨S2, Q ++ R, List.length_append, HG.out, HST.out.1, HST.out.2, HLM.out⟩⟩
            · have h10z : ¬ (i : Int) < 10 := by omega
              clear hlt h10
              go_wp2_with fail
              refine HV.out.eventsL.mono ?_
              rintro r w8 ⟨v8, rfl, h8⟩
              obtain ⟨A8, c8, rfl⟩ := Own.slice (h8.eo (v := v8) (Q := S'.L) (by simp))
              have H8 := hide h8
              have hle : Q.length + S'.L.length ≤ 20000 := by
                have h1 := HV.out.du.okR.len
                rw [← HQ.out, List.length_append] at h1
                exact h1
              have HLE := hide hle
              have HLW := hide HV.out.du.okL.low
              clear h8 HV hle
              go_wp2
              go_loopw [17] (fun s17 wr => ∃ k : Nat, k ≤ S'.L.length ∧ s17 = .int .i64 k ∧ Hid (Sv w1 wr g h S' S [(.slice A8 S'.L.length c8, S'.L), (.slice A2 Q.length c2, Q)])) (fun s17 _ => S'.L.length - (intOf s17).toNat)
              case atStart => exact ⟨0, by omega, rfl, H8⟩
              case round =>
                obtain ⟨k, hk, rfl, HR⟩ := hrel
                clear H8
                have hk0 : (0 : Int) ≤ (k : Int) := by omega
                by_cases hlt : k < S'.L.length
                · have hltz : (k : Int) < (S'.L.length : Int) := by omega
                  have hke : k < 20000 := by have := HLE.out; omega
                  obtain ⟨b8, o8, rfl, hcell⟩ := (Own.src (HR.out.eo (v := .slice A8 S'.L.length c8) (Q := S'.L) (by simp))).headN (by omega) (by omega)
                  have c0 := hcell _ _ (ecs_at S'.L k hlt 0 _ rfl)
                  rw [Nat.add_zero] at c0
                  have hlow := HLW.out _ (List.getElem_mem hlt)
                  clear hcell
                  generalize S'.L[k].t = te at c0 hlow
                  have hte : ¬ te ≤ last := by have := HOP.out.1; omega
                  have hte2 : last < te := by omega
                  clear hlow
                  go_wp2
                  go_roundw
                  case measure => simp [intOf]; omega
                  case rel => exact ⟨k + 1, by omega, by go_num, HR⟩
                · have hltz : ¬ (k : Int) < (S'.L.length : Int) := by omega
                  clear hlt hk HLW HOP
                  go_wp2_with (with_reducible refine Halt.append ?_)
                  refine Halt.on ?_
                  refine wpList_append_srcG (by rfl) _ _ _ rfl 27 i0 _ 18 152 Try.underlying55 HI.out.1 HI.out.2.1 HI.out.2.2.1 HI.out.2.2.2 rfl (by omega) (.slice A2 Q.length c2) Q.length (ecs Q) rfl (HR.out.eo (by simp)) (.slice A8 S'.L.length c8) S'.L.length (ecs S'.L) rfl (Own.src (HR.out.eo (by simp))) (ecs_one _) (by have := HLE.out; unfold maxLen; omega) (by have := HLE.out; omega) ?_
                  intro v' w9 hown hgrow hblk
                  have hown' : EO w9 v' (Q ++ S'.L) := by
                    show Own w9 27 18 v' (Q ++ S'.L).length (ecs (Q ++ S'.L))
                    rw [List.length_append, ecs_append]
                    exact hown
                  obtain ⟨A9, c9, rfl⟩ := Own.slice hown'
                  have HG := hide (HR.out.grown (v := .slice A2 Q.length c2) (Q := Q) (by simp) hown' hgrow hblk)
                  rw [List.length_append] at HG
                  clear hown hown' hgrow hblk HR
                  go_wp2_with fail
                  refine HG.out.eventsR.mono ?_
                  rintro r w10 ⟨v10, rfl, h10⟩
                  obtain ⟨A10, c10, rfl⟩ := Own.slice (h10.eo (v := v10) (Q := S.L) (by simp))
                  have H10 := hide h10
                  clear h10 HG
                  have HSM := hide (show ES w10 (.slice A9 (Q ++ S'.L).length c9) (Q ++ S'.L) by rw [List.length_append]; exact Own.src (H10.out.eo (by simp)))
                  rw [List.length_append] at HSM
                  go_wp2_with fail
                  rw [← List.length_append]
                  refine (same_any A9 A10 c9 c10 (Q ++ S'.L) S.L _ (by rw [List.length_append]; have := HLE.out; omega) (by have := H10.out.du.okR.len; omega) (by rw [List.length_append]; exact HSM.out) (Own.src (H10.out.eo (by simp)))).mono ?_
                  rintro r w11 ⟨hr, k11⟩
                  rw [decide_eq_true HQ.out] at hr
                  subst hr
                  have HF := hide (HK.out.trans' (H10.out.keep k11).du.keeps)
                  clear H10 k11 HSM HQ HLE
                  go_wp2
                  go_ret
                  exact ⟨rfl, HF.out⟩
          · have hltz : ¬ (i : Int) < (q.length : Int) := by omega
            clear hlt
            go_wp2_with fail
            refine HV.out.eventsL.mono ?_
            rintro r w8 ⟨v8, rfl, h8⟩
            obtain ⟨A8, c8, rfl⟩ := Own.slice (h8.eo (v := v8) (Q := S'.L) (by simp))
            have H8 := hide h8
            have hle : Q.length + S'.L.length ≤ 20000 := by
              have h1 := HV.out.du.okR.len
              rw [← HQ.out, List.length_append] at h1
              exact h1
            have HLE := hide hle
            have HLW := hide HV.out.du.okL.low
            clear h8 HV hle
            go_wp2
            go_loopw [17] (fun s17 wr => ∃ k : Nat, k ≤ S'.L.length ∧ s17 = .int .i64 k ∧ Hid (Sv w1 wr g h S' S [(.slice A8 S'.L.length c8, S'.L), (.slice A2 Q.length c2, Q)])) (fun s17 _ => S'.L.length - (intOf s17).toNat)
            case atStart => exact ⟨0, by omega, rfl, H8⟩
            case round =>
              obtain ⟨k, hk, rfl, HR⟩ := hrel
              clear H8
              have hk0 : (0 : Int) ≤ (k : Int) := by omega
              by_cases hlt : k < S'.L.length
              · have hltz : (k : Int) < (S'.L.length : Int) := by omega
                have hke : k < 20000 := by have := HLE.out; omega
                obtain ⟨b8, o8, rfl, hcell⟩ := (Own.src (HR.out.eo (v := .slice A8 S'.L.length c8) (Q := S'.L) (by simp))).headN (by omega) (by omega)
                have c0 := hcell _ _ (ecs_at S'.L k hlt 0 _ rfl)
                rw [Nat.add_zero] at c0
                have hlow := HLW.out _ (List.getElem_mem hlt)
                clear hcell
                generalize S'.L[k].t = te at c0 hlow
                have hte : ¬ te ≤ last := by have := HOP.out.1; omega
                have hte2 : last < te := by omega
                clear hlow
                go_wp2
                go_roundw
                case measure => simp [intOf]; omega
                case rel => exact ⟨k + 1, by omega, by go_num, HR⟩
              · have hltz : ¬ (k : Int) < (S'.L.length : Int) := by omega
                clear hlt hk HLW HOP
                go_wp2_with (with_reducible refine Halt.append ?_)
                refine Halt.on ?_
                refine wpList_append_srcG (by rfl) _ _ _ rfl 27 i0 _ 18 152 Try.underlying55 HI.out.1 HI.out.2.1 HI.out.2.2.1 HI.out.2.2.2 rfl (by omega) (.slice A2 Q.length c2) Q.length (ecs Q) rfl (HR.out.eo (by simp)) (.slice A8 S'.L.length c8) S'.L.length (ecs S'.L) rfl (Own.src (HR.out.eo (by simp))) (ecs_one _) (by have := HLE.out; unfold maxLen; omega) (by have := HLE.out; omega) ?_
                intro v' w9 hown hgrow hblk
                have hown' : EO w9 v' (Q ++ S'.L) := by
                  show Own w9 27 18 v' (Q ++ S'.L).length (ecs (Q ++ S'.L))
                  rw [List.length_append, ecs_append]
                  exact hown
                obtain ⟨A9, c9, rfl⟩ := Own.slice hown'
                have HG := hide (HR.out.grown (v := .slice A2 Q.length c2) (Q := Q) (by simp) hown' hgrow hblk)
                rw [List.length_append] at HG
                clear hown hown' hgrow hblk HR
                go_wp2_with fail
                refine HG.out.eventsR.mono ?_
                rintro r w10 ⟨v10, rfl, h10⟩
                obtain ⟨A10, c10, rfl⟩ := Own.slice (h10.eo (v := v10) (Q := S.L) (by simp))
                have H10 := hide h10
                clear h10 HG
                have HSM := hide (show ES w10 (.slice A9 (Q ++ S'.L).length c9) (Q ++ S'.L) by rw [List.length_append]; exact Own.src (H10.out.eo (by simp)))
                rw [List.length_append] at HSM
                go_wp2_with fail
                rw [← List.length_append]
                refine (same_any A9 A10 c9 c10 (Q ++ S'.L) S.L _ (by rw [List.length_append]; have := HLE.out; omega) (by have := H10.out.du.okR.len; omega) (by rw [List.length_append]; exact HSM.out) (Own.src (H10.out.eo (by simp)))).mono ?_
                rintro r w11 ⟨hr, k11⟩
                rw [decide_eq_true HQ.out] at hr
                subst hr
                have HF := hide (HK.out.trans' (H10.out.keep k11).du.keeps)
                clear H10 k11 HSM HQ HLE
                go_wp2
                go_ret
                exact ⟨rfl, HF.out⟩
    · have hltz : ¬ (k : Int) < (l.length : Int) := by omega
      clear hlt
      have HV0 := hide (Sv.of HD.out.1).nil
      have HS0 := hide HD.out.2
      clear HD
      go_wp2
      go_loopw [10, 11, 12] (fun s10 s11 s12 wr => ∃ (i n c : Nat) (A : Option Addr) (last : Int), i ≤ 10 ∧ s12 = .int .i64 i ∧ s10 = .slice A n c ∧ s11 = .int .i64 last ∧ Hid (∃ S' Q, Q.length = n ∧ Sv w1 wr g h S' S [(.slice A n c, Q)] ∧ Q ++ S'.L = S.L ∧ (S'.op : Int) = last + 1 ∧ last ≤ 41)) (fun _ _ s12 _ => 10 - (intOf s12).toNat)
      case atStart => exact ⟨0, 0, 0, none, -1, by omega, rfl, rfl, rfl, hide ⟨S, [], rfl, HV0.out, rfl, by rw [HS0.out]; rfl, by omega⟩⟩
      case round =>
        obtain ⟨i, n, c2, A2, last, hi, rfl, rfl, rfl, HX⟩ := hrel
        obtain ⟨S', Q, rfl, hv, hq, hl, hb⟩ := HX.out
        have HV := hide hv
        have HQ := hide hq
        have HOP := hide (And.intro hl hb)
        clear hv hq hl hb HX HV0
        have hi0 : (0 : Int) ≤ (i : Int) := by omega
        by_cases hlt : i < q.length
        · have hltz : (i : Int) < (q.length : Int) := by omega
          by_cases h10 : i < 10
          · have h10z : (i : Int) < 10 := by omega
            have hqc := HSQ.out
            obtain ⟨b1, o1, rfl, hcell⟩ := (Src.keep HSI.out (HK.out.trans' HV.out.du.keeps) (by simp)).headN (by omega) (by omega)
            have cq : wr.cell? ⟨b1, o1 + i, none⟩ = some (.int .i64 q[i]) := hcell i _ (by simp [isv, hlt])
            have hq1 := HQZ.out _ (List.getElem_mem hlt)
            clear hcell
            generalize q[i] = x at cq hq1
            obtain ⟨m, hm⟩ : ∃ m, x % 45 = m := ⟨_, rfl⟩
            have hm0 : 0 ≤ m ∧ m < 45 := by omega
            have v1 : wrap64 (m - 3) = m - 3 := IntWalk.wrap64_in _ ⟨by omega, by omega⟩
            obtain ⟨T, hT⟩ : ∃ T, m - 3 = T := ⟨_, rfl⟩
            have HV1 := hide (v1.trans hT)
            clear v1
            have hT0 : -3 ≤ T ∧ T ≤ 41 := by omega
            obtain ⟨lm, hlm⟩ : ∃ lm, max last T = lm := ⟨_, rfl⟩
            have HT := hide hT0
            have HM := hide hm
            have HQ1 := hide hq1
            have hst := settle_step (x := T) HQ.out HOP.out.1
            have hlt2 : ∀ e, e ∈ settleR S' T → e.t ≤ T ∧ e.t < (settleS S' T).op := fun e he => settle_late HV.out.du.okL he
            rw [hlm] at hst
            have hlm2 : lm ≤ 41 := by have := HOP.out.2; omega
            have HLM := hide hlm2
            have HST := hide hst
            have HLT := hide hlt2
            clear hst hlt2 hm hq1 hm0 hT hT0 hlm2
            go_wp2_with fail
            refine (mod_any x 45 _ HQ1.out.1 HQ1.out.2 (by omega) (by omega)).mono ?_
            rintro r w' ⟨rfl, rfl⟩
            rw [HM.out]
            clear cq
            go_wp2_with fail
            rw [HV1.out]
            refine (HV.out.settleL T (by have := HT.out; omega) (by have := HT.out; omega)).mono ?_
            rintro r w5 ⟨v5, rfl, h5⟩
            obtain ⟨A3, c3, rfl⟩ := Own.slice (h5.eo (v := v5) (Q := settleR S' T) (by simp))
            have HU := hide h5
            clear h5 HV HQ HOP
            obtain ⟨R, hR⟩ : ∃ R, settleR S' T = R := ⟨_, rfl⟩
            obtain ⟨S2, hS2⟩ : ∃ S2, settleS S' T = S2 := ⟨_, rfl⟩
            rw [hR, hS2] at HST HLT HU
            rw [hR]
            clear hR hS2 HV1
            have hle : Q.length + R.length ≤ 20000 := by
              have h1 := HU.out.du.okR.len
              rw [← HST.out.1, List.length_append, List.length_append] at h1
              omega
            have hlow : ∀ e, e ∈ R → 0 ≤ e.t := fun e he => by
              have h1 : e ∈ S.L := by
                rw [← HST.out.1]
                simp [he]
              have := HU.out.du.okR.low e h1
              omega
            have HLE := hide hle
            have HLO := hide hlow
            clear hle hlow
            go_wp2
            go_loopw [15] (fun s15 wr => ∃ k : Nat, k ≤ R.length ∧ s15 = .int .i64 k ∧ Hid (Sv w1 wr g h S2 S [(.slice A3 R.length c3, R), (.slice A2 Q.length c2, Q)])) (fun s15 _ => R.length - (intOf s15).toNat)
            case atStart => exact ⟨0, by omega, rfl, HU⟩
            case round =>
              obtain ⟨k, hk, rfl, HR⟩ := hrel
              clear HU
              have hk0 : (0 : Int) ≤ (k : Int) := by omega
              by_cases hlk : k < R.length
              · have hlkz : (k : Int) < (R.length : Int) := by omega
                have hke : k < 20000 := by have := HLE.out; omega
                obtain ⟨b3, o3, rfl, hcell⟩ := (Own.src (HR.out.eo (v := .slice A3 R.length c3) (Q := R) (by simp))).headN (by omega) (by omega)
                have hev : EvAt wr b3 (o3 + k * 18) R[k] := fun a v hv => by
                  have := hcell _ _ (ecs_at R k hlk a v hv)
                  rwa [← Nat.add_assoc] at this
                have hla := HLT.out _ (List.getElem_mem hlk)
                have hlo := HLO.out _ (List.getElem_mem hlk)
                clear hcell
                generalize R[k] = e at hev hla hlo
                have hlate := take_late (S := S2) (e := e) hla.2
                have c0 : wr.cell? ⟨b3, o3 + k * 18, none⟩ = some (.int .i64 e.t) := hev 0 _ rfl
                have HEV := hide hev
                have HLA := hide hlate
                have HLO2 := hide (And.intro hlo hla.1)
                have hgt : ¬ T < e.t := by omega
                clear hlate hlo hla hev
                have hgt2 : e.t ≤ T := by omega
                obtain ⟨te, hte⟩ : ∃ te, e.t = te := ⟨_, rfl⟩
                rw [hte] at hgt hgt2 c0
                have HTE := hide hte
                clear hte
                go_wp2_with (with_reducible refine Halt.load (t := 27) ?_)
                refine Halt.on ?_
                refine wpList_load_evG (by rfl) _ rfl b3 (o3 + k * 18) e rfl HEV.out ?_
                clear c0 hgt hgt2
                go_wp2_with fail
                refine (HR.out.takeL e (by have := HLO2.out; omega) (by have := HLO2.out; have := HT.out; omega)).mono ?_
                rintro r w7 ⟨hr, h7⟩
                rw [HLA.out.1] at hr
                rw [HLA.out.2] at h7
                subst hr
                have H7 := hide h7
                clear h7 HR HEV HLA
                go_wp2
                go_roundw
                case measure => simp [intOf]; omega
                case rel => exact ⟨k + 1, by omega, by go_num, H7⟩
              · have hlkz : ¬ (k : Int) < (R.length : Int) := by omega
                clear hlk hk HLT HLO
                go_wp2_with (with_reducible refine Halt.append ?_)
                refine Halt.on ?_
                refine wpList_append_srcG (by rfl) _ _ _ rfl 27 i0 _ 18 152 Try.underlying55 HI.out.1 HI.out.2.1 HI.out.2.2.1 HI.out.2.2.2 rfl (by omega) (.slice A2 Q.length c2) Q.length (ecs Q) rfl (HR.out.eo (by simp)) (.slice A3 R.length c3) R.length (ecs R) rfl (Own.src (HR.out.eo (by simp))) (ecs_one _) (by have := HLE.out; unfold maxLen; omega) (by have := HLE.out; omega) ?_
                intro v' w9 hown hgrow hblk
                have hown' : EO w9 v' (Q ++ R) := by
                  show Own w9 27 18 v' (Q ++ R).length (ecs (Q ++ R))
                  rw [List.length_append, ecs_append]
                  exact hown
                obtain ⟨A4, c4, rfl⟩ := Own.slice hown'
                have HG := hide (HR.out.grown (v := .slice A2 Q.length c2) (Q := Q) (by simp) hown' hgrow hblk)
                rw [List.length_append] at HG
                clear hown hown' hgrow hblk HR
                have hse : (S2.op : Int) - 1 = lm := by have := HST.out.2; omega
                have HSE := hide hse
                clear hse
                go_wp2_with fail
                refine HG.out.settled.mono ?_
                rintro r w'' ⟨rfl, rfl⟩
                rw [HSE.out]
                go_wp2
                go_roundw
                case measure => simp [intOf]; omega
                case rel => exact ⟨i + 1, _, _, _, _, by omega, by go_num, rfl, rfl, hide ⟨S2, Q ++ R, List.length_append, HG.out, HST.out.1, HST.out.2, HLM.out⟩⟩
          · have h10z : ¬ (i : Int) < 10 := by omega
            clear hlt h10
            go_wp2_with fail
            refine HV.out.eventsL.mono ?_
            rintro r w8 ⟨v8, rfl, h8⟩
            obtain ⟨A8, c8, rfl⟩ := Own.slice (h8.eo (v := v8) (Q := S'.L) (by simp))
            have H8 := hide h8
            have hle : Q.length + S'.L.length ≤ 20000 := by
              have h1 := HV.out.du.okR.len
              rw [← HQ.out, List.length_append] at h1
              exact h1
            have HLE := hide hle
            have HLW := hide HV.out.du.okL.low
            clear h8 HV hle
            go_wp2
            go_loopw [17] (fun s17 wr => ∃ k : Nat, k ≤ S'.L.length ∧ s17 = .int .i64 k ∧ Hid (Sv w1 wr g h S' S [(.slice A8 S'.L.length c8, S'.L), (.slice A2 Q.length c2, Q)])) (fun s17 _ => S'.L.length - (intOf s17).toNat)
            case atStart => exact ⟨0, by omega, rfl, H8⟩
            case round =>
              obtain ⟨k, hk, rfl, HR⟩ := hrel
              clear H8
              have hk0 : (0 : Int) ≤ (k : Int) := by omega
              by_cases hlt : k < S'.L.length
              · have hltz : (k : Int) < (S'.L.length : Int) := by omega
                have hke : k < 20000 := by have := HLE.out; omega
                obtain ⟨b8, o8, rfl, hcell⟩ := (Own.src (HR.out.eo (v := .slice A8 S'.L.length c8) (Q := S'.L) (by simp))).headN (by omega) (by omega)
                have c0 := hcell _ _ (ecs_at S'.L k hlt 0 _ rfl)
                rw [Nat.add_zero] at c0
                have hlow := HLW.out _ (List.getElem_mem hlt)
                clear hcell
                generalize S'.L[k].t = te at c0 hlow
                have hte : ¬ te ≤ last := by have := HOP.out.1; omega
                have hte2 : last < te := by omega
                clear hlow
                go_wp2
                go_roundw
                case measure => simp [intOf]; omega
                case rel => exact ⟨k + 1, by omega, by go_num, HR⟩
              · have hltz : ¬ (k : Int) < (S'.L.length : Int) := by omega
                clear hlt hk HLW HOP
                go_wp2_with (with_reducible refine Halt.append ?_)
                refine Halt.on ?_
                refine wpList_append_srcG (by rfl) _ _ _ rfl 27 i0 _ 18 152 Try.underlying55 HI.out.1 HI.out.2.1 HI.out.2.2.1 HI.out.2.2.2 rfl (by omega) (.slice A2 Q.length c2) Q.length (ecs Q) rfl (HR.out.eo (by simp)) (.slice A8 S'.L.length c8) S'.L.length (ecs S'.L) rfl (Own.src (HR.out.eo (by simp))) (ecs_one _) (by have := HLE.out; unfold maxLen; omega) (by have := HLE.out; omega) ?_
                intro v' w9 hown hgrow hblk
                have hown' : EO w9 v' (Q ++ S'.L) := by
                  show Own w9 27 18 v' (Q ++ S'.L).length (ecs (Q ++ S'.L))
                  rw [List.length_append, ecs_append]
                  exact hown
                obtain ⟨A9, c9, rfl⟩ := Own.slice hown'
                have HG := hide (HR.out.grown (v := .slice A2 Q.length c2) (Q := Q) (by simp) hown' hgrow hblk)
                rw [List.length_append] at HG
                clear hown hown' hgrow hblk HR
                go_wp2_with fail
                refine HG.out.eventsR.mono ?_
                rintro r w10 ⟨v10, rfl, h10⟩
                obtain ⟨A10, c10, rfl⟩ := Own.slice (h10.eo (v := v10) (Q := S.L) (by simp))
                have H10 := hide h10
                clear h10 HG
                have HSM := hide (show ES w10 (.slice A9 (Q ++ S'.L).length c9) (Q ++ S'.L) by rw [List.length_append]; exact Own.src (H10.out.eo (by simp)))
                rw [List.length_append] at HSM
                go_wp2_with fail
                rw [← List.length_append]
                refine (same_any A9 A10 c9 c10 (Q ++ S'.L) S.L _ (by rw [List.length_append]; have := HLE.out; omega) (by have := H10.out.du.okR.len; omega) (by rw [List.length_append]; exact HSM.out) (Own.src (H10.out.eo (by simp)))).mono ?_
                rintro r w11 ⟨hr, k11⟩
                rw [decide_eq_true HQ.out] at hr
                subst hr
                have HF := hide (HK.out.trans' (H10.out.keep k11).du.keeps)
                clear H10 k11 HSM HQ HLE
                go_wp2
                go_ret
                exact ⟨rfl, HF.out⟩
        · have hltz : ¬ (i : Int) < (q.length : Int) := by omega
          clear hlt
          go_wp2_with fail
          refine HV.out.eventsL.mono ?_
          rintro r w8 ⟨v8, rfl, h8⟩
          obtain ⟨A8, c8, rfl⟩ := Own.slice (h8.eo (v := v8) (Q := S'.L) (by simp))
          have H8 := hide h8
          have hle : Q.length + S'.L.length ≤ 20000 := by
            have h1 := HV.out.du.okR.len
            rw [← HQ.out, List.length_append] at h1
            exact h1
          have HLE := hide hle
          have HLW := hide HV.out.du.okL.low
          clear h8 HV hle
          go_wp2
          go_loopw [17] (fun s17 wr => ∃ k : Nat, k ≤ S'.L.length ∧ s17 = .int .i64 k ∧ Hid (Sv w1 wr g h S' S [(.slice A8 S'.L.length c8, S'.L), (.slice A2 Q.length c2, Q)])) (fun s17 _ => S'.L.length - (intOf s17).toNat)
          case atStart => exact ⟨0, by omega, rfl, H8⟩
          case round =>
            obtain ⟨k, hk, rfl, HR⟩ := hrel
            clear H8
            have hk0 : (0 : Int) ≤ (k : Int) := by omega
            by_cases hlt : k < S'.L.length
            · have hltz : (k : Int) < (S'.L.length : Int) := by omega
              have hke : k < 20000 := by have := HLE.out; omega
              obtain ⟨b8, o8, rfl, hcell⟩ := (Own.src (HR.out.eo (v := .slice A8 S'.L.length c8) (Q := S'.L) (by simp))).headN (by omega) (by omega)
              have c0 := hcell _ _ (ecs_at S'.L k hlt 0 _ rfl)
              rw [Nat.add_zero] at c0
              have hlow := HLW.out _ (List.getElem_mem hlt)
              clear hcell
              generalize S'.L[k].t = te at c0 hlow
              have hte : ¬ te ≤ last := by have := HOP.out.1; omega
              have hte2 : last < te := by omega
              clear hlow
              go_wp2
              go_roundw
              case measure => simp [intOf]; omega
              case rel => exact ⟨k + 1, by omega, by go_num, HR⟩
            · have hltz : ¬ (k : Int) < (S'.L.length : Int) := by omega
              clear hlt hk HLW HOP
              go_wp2_with (with_reducible refine Halt.append ?_)
              refine Halt.on ?_
              refine wpList_append_srcG (by rfl) _ _ _ rfl 27 i0 _ 18 152 Try.underlying55 HI.out.1 HI.out.2.1 HI.out.2.2.1 HI.out.2.2.2 rfl (by omega) (.slice A2 Q.length c2) Q.length (ecs Q) rfl (HR.out.eo (by simp)) (.slice A8 S'.L.length c8) S'.L.length (ecs S'.L) rfl (Own.src (HR.out.eo (by simp))) (ecs_one _) (by have := HLE.out; unfold maxLen; omega) (by have := HLE.out; omega) ?_
              intro v' w9 hown hgrow hblk
              have hown' : EO w9 v' (Q ++ S'.L) := by
                show Own w9 27 18 v' (Q ++ S'.L).length (ecs (Q ++ S'.L))
                rw [List.length_append, ecs_append]
                exact hown
              obtain ⟨A9, c9, rfl⟩ := Own.slice hown'
              have HG := hide (HR.out.grown (v := .slice A2 Q.length c2) (Q := Q) (by simp) hown' hgrow hblk)
              rw [List.length_append] at HG
              clear hown hown' hgrow hblk HR
              go_wp2_with fail
              refine HG.out.eventsR.mono ?_
              rintro r w10 ⟨v10, rfl, h10⟩
              obtain ⟨A10, c10, rfl⟩ := Own.slice (h10.eo (v := v10) (Q := S.L) (by simp))
              have H10 := hide h10
              clear h10 HG
              have HSM := hide (show ES w10 (.slice A9 (Q ++ S'.L).length c9) (Q ++ S'.L) by rw [List.length_append]; exact Own.src (H10.out.eo (by simp)))
              rw [List.length_append] at HSM
              go_wp2_with fail
              rw [← List.length_append]
              refine (same_any A9 A10 c9 c10 (Q ++ S'.L) S.L _ (by rw [List.length_append]; have := HLE.out; omega) (by have := H10.out.du.okR.len; omega) (by rw [List.length_append]; exact HSM.out) (Own.src (H10.out.eo (by simp)))).mono ?_
              rintro r w11 ⟨hr, k11⟩
              rw [decide_eq_true HQ.out] at hr
              subst hr
              have HF := hide (HK.out.trans' (H10.out.keep k11).du.keeps)
              clear H10 k11 HSM HQ HLE
              go_wp2
              go_ret
              exact ⟨rfl, HF.out⟩
end Go.Proofs.Ytcfglfnncpcfoaa

/- The walk of NetAlone. -/
import Derived.Test.YtefjoiinoaofcaaAlone
namespace Go.Proofs.Ytefjoiinoaofcaa
open Go.RowKit

set_option maxRecDepth 100000 in
set_option maxHeartbeats 3200000 in
theorem alone_walk (A : Option Addr) (c : Nat) (l : List Tr) (A1 : Option Addr) (c1 : Nat) (ts : List Int) (now : Int) (w : World) (hl : Src w 3 (.slice A l.length c) l.length (trs l)) (hlen : l.length ≤ 9223372036854775807)
    (ht : Src w 1 (.slice A1 ts.length c1) ts.length (uv ts)) (hts : ∀ x ∈ ts, 0 ≤ x ∧ x ≤ 65535) (htl : ts.length ≤ 9223372036854775807) (hcap : ts.length ≤ c1) (hn0 : 0 ≤ now) (hn1 : now ≤ 65535) :
    Calls Try.prog 5 #[.slice A l.length c, .slice A1 ts.length c1, .int .u16 now] w fun e w' => e = .returned (.bool true) ∧ Keeps [] w w' := by
  have hts' : ∀ k, 0 ≤ ts.getD k 0 ∧ ts.getD k 0 ≤ 65535 := fun k => by
    by_cases hk : k < ts.length
    · have := hts _ (List.getElem_mem hk)
      simpa [hk] using this
    · simp [List.getElem?_eq_none (Nat.not_lt.1 hk)]
  obtain ⟨n, hn⟩ : ∃ n : Nat, (if (30 : Int) < (ts.length : Int) then (30 : Int) else (ts.length : Int)) = (n : Int) := ⟨min ts.length 30, by split <;> omega⟩
  have hnl : n ≤ ts.length := by split at hn <;> omega
  have hn30 : n ≤ 30 := by split at hn <;> omega
  have hnc : n ≤ c1 := by omega
  have HL := hide hl
  have HT := hide (ht.cut n hnl)
  have HTS := hide hts'
  clear hl ht hts hts'
  go_enter Try.func5, Try.ntmps5
  go_wp2_with fail
  refine (sanity_any _).mono ?_
  rintro e w1 ⟨rfl, hk1⟩
  have HK1 := hide hk1
  clear hk1
  go_wp2_with fail
  refine (script_any A c l w1 (HL.out.keep HK1.out (by simp)) hlen).mono ?_
  rintro e w2 ⟨v, rfl, hv, hk2, hnew⟩
  obtain ⟨m, hm⟩ : ∃ m, (scrL l).length = m := ⟨_, rfl⟩
  have hm12 : m ≤ 12 := by rw [← hm]; exact scrL_length l
  obtain ⟨A2, c2, hvs⟩ := hv.slice
  rw [hm] at hvs
  subst hvs
  have HV := hide hv.src
  have HN := hide hm
  have HK2 := hide (HK1.out.trans' hk2)
  clear hv hnew hk2 hm
  go_wp2_with fail
  have hnn := new_any 2 A2 c2 (scrL l) w2 (by rw [HN.out]; have := HV.out; rw [HN.out] at this; exact this) (by rw [HN.out]; omega)
  rw [HN.out] at hnn
  refine hnn.mono ?_
  rintro e w3 ⟨g, rfl, hm3⟩
  have HM3 := hide hm3
  clear hm3 hnn HL
  go_wp2_with fail
  have hnn := new_any 2 A2 c2 (scrL l) w3 (by rw [HN.out]; have := HV.out.keep HM3.out.keeps (by simp); rw [HN.out] at this; exact this) (by rw [HN.out]; omega)
  rw [HN.out] at hnn
  refine hnn.mono ?_
  rintro e w4 ⟨h, rfl, hm4⟩
  have H2 := hide (HM3.out.two hm4)
  clear hm4 hnn HV HN HM3
  go_wp2_with fail
  clear hn
  go_loopw [11] (fun kv wr => ∃ (k : Nat) (N M : NS), kv = .int .i64 k ∧ k ≤ n ∧ Hid (Two w2 wr g N h M ∧ AlInv (scrL l) k N M)) (fun kv _ => n - (intOf kv).toNat)
  case atStart => exact ⟨0, _, _, rfl, Nat.zero_le _, hide ⟨H2.out, AlInv.start _⟩⟩
  case round =>
    obtain ⟨k, N, M, rfl, hk, HR⟩ := hrel
    by_cases hlt : k < n
    · have kw := HK2.out.trans' HR.out.1.keeps
      obtain ⟨b, o, hA, hcells⟩ := (HT.out.keep kw (by simp)).headN (by omega) (by omega)
      subst hA
      have q0 := hcells k (.int .u16 (ts.getD k 0)) (by rw [List.getElem?_take, if_pos (by omega)]; exact uv_at ts k (by omega))
      have hb0 := (HTS.out k).1
      have hb1 := (HTS.out k).2
      have hs := HR.out.1.send (ts.getD k 0) 0 1 k bo (by rw [HR.out.2.sent]; omega) (fun _ => ⟨by omega, by omega, scr_delay _ l HR.out.2.scr⟩)
      have hst := HR.out.2.step (ts.getD k 0) k
      unfold msgV bo at hs
      have HS := hide hs
      have HST := hide hst
      have b1 : (0 : Int) ≤ (k : Int) := by omega
      have b2 : (k : Int) < (n : Int) := by omega
      clear hs hst hcells kw
      generalize ts.getD k 0 = tk at *
      go_wp2_with fail
      refine HS.out.mono ?_
      rintro e w5 ⟨rfl, h5⟩
      have hs2 := h5.symm.send 0 0 5 0 ⟨#[]⟩ (by rw [HR.out.2.sentM]; omega) (fun _ => ⟨by omega, by omega, scr_delay _ l HR.out.2.scrM⟩)
      unfold msgV at hs2
      have HS2 := hide hs2
      clear hs2 h5 HS q0
      go_wp2_with fail
      refine HS2.out.mono ?_
      rintro e w6 ⟨rfl, h6⟩
      have H6 := hide h6.symm
      clear h6 HS2
      go_wp2_with fail
      go_roundw
      case rel => exact ⟨k + 1, _, _, by go_num, by omega, hide ⟨H6.out, HST.out⟩⟩
      case measure => simp [intOf]; omega
    · have hd0 : decide (k < n) = false := by simpa using hlt
      have hkn : k = n := by omega
      subst hkn
      have hbx := HR.out.1.start.box 31 #[.int .i64 0, .int .i64 0, .int .i64 7, .string bt]
      have HBX := hide hbx
      clear hbx H2
      unfold bt at HBX
      go_wp2_with fail
      have hs := HBX.out.send now 0 0 7 bt (by rw [HR.out.2.sent]; omega) (fun _ => ⟨by omega, by omega, scr_delay _ l HR.out.2.scr⟩)
      unfold msgV bt at hs
      refine hs.mono ?_
      rintro e w5 ⟨rfl, h5⟩
      have hb5 := h5.blk (x := (wr.heap.size, 31, #[.int .i64 0, .int .i64 0, .int .i64 7, .string ⟨#[116, 104, 105, 115]⟩])) (by simp)
      have q0 := hb5.cell 0
      have q1 := hb5.cell 1
      have q2 := hb5.cell 2
      have q3 := hb5.cell 3
      simp at q0 q1 q2 q3
      have hs2 := h5.symm.send now 0 0 7 bt (by rw [HR.out.2.sentM]; omega) (fun _ => ⟨by omega, by omega, scr_delay _ l HR.out.2.scrM⟩)
      unfold msgV bt at hs2
      have HS2 := hide hs2
      clear hs hs2 h5 hb5 HBX
      go_wp2_with fail
      refine HS2.out.mono ?_
      rintro e w6 ⟨rfl, h6⟩
      have hlast := HR.out.2.last hn30 HR.out.1.ok now
      have HQ : Hid (∃ N M, TwoT w2 w6 g N h M [(wr.heap.size, 31, #[.int .i64 0, .int .i64 0, .int .i64 7, .string ⟨#[116, 104, 105, 115]⟩])] ∧ TkA 0 N M) := hide ⟨_, _, h6.symm, hlast⟩
      clear h6 hlast HS2 HR q0 q1 q2 q3
      go_wp2_with fail
      generalize wr.heap.size = bx at HQ ⊢
      go_loopw [13] (fun kv wr => ∃ j : Nat, kv = .int .i64 j ∧ j ≤ 248 ∧ Hid (∃ N M, TwoT w2 wr g N h M [(bx, 31, #[.int .i64 0, .int .i64 0, .int .i64 7, .string ⟨#[116, 104, 105, 115]⟩])] ∧ TkA j N M)) (fun kv _ => 300 - (intOf kv).toNat)
      case atStart => exact ⟨0, rfl, by omega, HQ⟩
      case round =>
        obtain ⟨j, rfl, hj, HR⟩ := hrel
        obtain ⟨N, M, hT, hK⟩ := HR.out
        have hj300 : (j : Int) < 300 := by omega
        cases hS : N.S with
        | nil =>
          have hM : M.S = [] := by rw [← hK.fil, hS]; rfl
          have hs := hT.empty hS
          unfold msgV at hs
          have HS := hide hs
          have HE := hide (And.intro hS hM)
          clear hs hT hK hS hM HR
          go_wp2_with fail
          refine HS.out.mono ?_
          rintro e w7 ⟨rfl, h7⟩
          have h7' := h7.keep ((Keeps.refl [] _).alloc (.cells #[.int .i64 0, .int .i64 0, .int .i64 0, .string ⟨#[]⟩] 31))
          have HW1 := hide (h7'.symm.waiting 0 (by rw [HE.out.2]; rfl))
          have HW2 := hide (h7'.waiting 0 (by rw [HE.out.1]; rfl))
          have HK7 := hide h7'.keeps
          clear h7 h7' HS
          go_wp2_with fail
          refine HW1.out.mono ?_
          rintro e w8 ⟨rfl, rfl⟩
          go_wp2_with fail
          refine HW2.out.mono ?_
          rintro e w8 ⟨rfl, rfl⟩
          go_wp2_with fail
          go_ret
          exact ⟨rfl, HK2.out.trans' HK7.out⟩
        | cons q S =>
          have hs := hT.next q S hS
          have hm := hK.many
          rw [hS] at hm
          simp at hm
          by_cases hq : q.to = 0
          · have hfil : M.S = q :: S.filter isX := by rw [← hK.fil, hS, List.filter_cons, if_pos (by simp [isX, hq])]
            obtain ⟨a1, a2, a3, a4⟩ := hK.all q (by rw [hfil]; simp)
            have hK' : TkA (j + 1) { N with S := S } { M with S := S.filter isX } := ⟨rfl, fun p hp => hK.all p (by rw [hfil]; exact List.mem_cons_of_mem _ hp), by simp; omega⟩
            rw [a1, a2, a3, a4] at hs
            unfold msgV bt at hs
            have HS := hide hs
            have HF := hide hfil
            have HA := hide (And.intro a1 (And.intro a2 (And.intro a3 a4)))
            have HK' := hide hK'
            clear hs hfil hK hK' hT hS HR a1 a2 a3 a4 hm hq
            go_wp2_with fail
            refine HS.out.mono ?_
            rintro e w7 ⟨rfl, h7⟩
            have h7' := h7.box 31 #[.int .i64 0, .int .i64 0, .int .i64 7, .string ⟨#[116, 104, 105, 115]⟩]
            have hs2 := h7'.symm.next q (S.filter isX) HF.out
            rw [HA.out.1, HA.out.2.1, HA.out.2.2.1, HA.out.2.2.2] at hs2
            unfold msgV bt at hs2
            have HS2 := hide hs2
            clear hs2 h7 h7' HS
            go_wp2_with fail
            refine HS2.out.mono ?_
            rintro e w8 ⟨rfl, h8⟩
            have hb8 := h8.blk (x := (bx, 31, #[.int .i64 0, .int .i64 0, .int .i64 7, .string ⟨#[116, 104, 105, 115]⟩])) (by simp)
            have hc8 := h8.blk (x := (w7.heap.size, 31, #[.int .i64 0, .int .i64 0, .int .i64 7, .string ⟨#[116, 104, 105, 115]⟩])) (by simp)
            have q0 := hb8.cell 0
            have q1 := hb8.cell 1
            have q2 := hb8.cell 2
            have q3 := hb8.cell 3
            have r0 := hc8.cell 0
            have r1 := hc8.cell 1
            have r2 := hc8.cell 2
            have r3 := hc8.cell 3
            have l1 := hb8.lt
            have l2 := hc8.lt
            simp at q0 q1 q2 q3 r0 r1 r2 r3
            have H8 : Hid (∃ N M, TwoT w2 (w8.alloc (.cells #[.int .i64 0, .int .i64 0, .int .i64 7, .string ⟨#[116, 104, 105, 115]⟩] 31)) g N h M [(bx, 31, #[.int .i64 0, .int .i64 0, .int .i64 7, .string ⟨#[116, 104, 105, 115]⟩])] ∧ TkA (j + 1) N M) :=
              hide ⟨_, _, (h8.symm.less).keep ((Keeps.refl [] _).alloc _), HK'.out⟩
            clear h8 hb8 hc8 HS2
            go_wp2_with fail
            go_roundw
            case rel => exact ⟨j + 1, by go_num, by obtain ⟨_, _, _, hk⟩ := H8.out; have := hk.many; omega, H8⟩
            case measure => simp [intOf]; omega
          · have hK' : TkA (j + 1) { N with S := S } M := ⟨by rw [← hK.fil, hS, List.filter_cons, if_neg (by simp [isX, hq])], hK.all, by simp; omega⟩
            unfold msgV at hs
            have HS := hide hs
            have HK' := hide hK'
            have e1 : (q.to != 0) = true := by simp [hq]
            clear hs hK hK' hT hS HR hm hq
            go_wp2_with fail
            refine HS.out.mono ?_
            rintro e w7 ⟨rfl, h7⟩
            have H7 : Hid (∃ N M, TwoT w2 (w7.alloc (.cells #[.int .i64 q.fr, .int .i64 q.to, .int .i64 q.num, .string q.tx] 31)) g N h M [(bx, 31, #[.int .i64 0, .int .i64 0, .int .i64 7, .string ⟨#[116, 104, 105, 115]⟩])] ∧ TkA (j + 1) N M) :=
              hide ⟨_, _, h7.keep ((Keeps.refl [] _).alloc _), HK'.out⟩
            clear h7 HS
            go_wp2_with fail
            go_roundw
            case rel => exact ⟨j + 1, by go_num, by obtain ⟨_, _, _, hk⟩ := H7.out; have := hk.many; omega, H7⟩
            case measure => simp [intOf]; omega
end Go.Proofs.Ytefjoiinoaofcaa

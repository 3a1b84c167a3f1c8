/- heap.down over parcels, from the root. -/
import Derived.Test.YtefjoiinoaofcaaUp
namespace Go.Proofs.Ytefjoiinoaofcaa
open Go.RowKit

theorem wt_at {w w' : World} {n : Nat} (e : w' = w.drewN n) {p : Addr} {v : Value} {L : List Par} (h : Wt w p v L) : Wt w' p v L := by rw [e]; exact h.drewN n
theorem keeps_at {a w w' : World} {n : Nat} (e : w' = w.drewN n) {F : List Nat} (h : Keeps F a w) : Keeps F a w' := by rw [e]; exact h.drewN n
set_option maxHeartbeats 1600000 in
theorem down_any (p : Addr) (v : Value) (L : List Par) (n : Nat) (w : World) (h : Wt w p v L) (hn : n < L.length) (hlen : L.length ≤ 1000000) (hu : DownInv L n 0) :
    Calls Try.prog 26 #[.iface 75 (.pointer (some p)), .int .i64 0, .int .i64 n] w fun e w' => ∃ b, e = .returned (.bool b) ∧ ∃ L', Wt w' p v L' ∧ L'.Perm L ∧ Heap L' n ∧ at_ L' n = at_ L n ∧ Keeps v.ownBlock.toList w w' := by
  have HU := hide hu
  have HW := hide h
  clear hu h
  go_enter Try.func26, Try.ntmps26
  go_wp2
  go_loopw [7] (fun jv wr => ∃ (k : Nat) (Lc : List Par), jv = .int .i64 k ∧ k ≤ n ∧ Lc.length = L.length ∧ Hid (Wt wr p v Lc ∧ Lc.Perm L ∧ DownInv Lc n k ∧ at_ Lc n = at_ L n ∧ Keeps v.ownBlock.toList w wr)) (fun jv _ => n - (intOf jv).toNat)
  case atStart => exact ⟨0, L, rfl, Nat.zero_le _, rfl, hide ⟨HW.out, List.Perm.refl _, HU.out, rfl, Keeps.refl _ _⟩⟩
  case round =>
    obtain ⟨k, Lc, rfl, hk, hlc, HR⟩ := hrel
    obtain ⟨m, hm⟩ : ∃ m, L.length = m := ⟨_, rfl⟩
    rw [hm] at hn hlen hlc
    have HM := hide hm
    clear hm
    obtain ⟨A, c, hv⟩ := HR.out.1.slice
    have HV := hide hv
    clear hv
    obtain ⟨j1, hj1⟩ : ∃ j1 : Nat, 2 * (k : Int) + 1 = (j1 : Int) := ⟨2 * k + 1, by omega⟩
    obtain ⟨j2, hj2⟩ : ∃ j2 : Nat, (j1 : Int) + 1 = (j2 : Int) := ⟨j1 + 1, by omega⟩
    have hlc' : Lc.length ≤ m := by omega
    have hlc2 : m ≤ Lc.length := by omega
    have HLC := hide hlc
    clear hlc
    by_cases h1 : n ≤ j1
    · have hd : decide (n ≤ j1) = true := by simpa using h1
      go_wp2_with fail
      go_ret
      refine ⟨_, rfl, Lc, HR.out.1, HR.out.2.1, ?_, HR.out.2.2.2.1, HR.out.2.2.2.2⟩
      exact down_done HR.out.2.2.1 (fun ch c0 cn cp => by omega)
    · have hd : decide (n ≤ j1) = false := by simpa using h1
      have hd2 : decide ((j1 : Int) < 0) = false := by simp
      by_cases h2 : j2 < n
      · have hd3 : decide (j2 < n) = true := by simpa using h2
        have hml := m_less p A Lc.length c wr (by rw [← HV.out]; exact HR.out.1.cell)
        have hless := less_any v Lc j2 j1 wr HR.out.1.own (by omega) (by omega)
        rw [HV.out] at hless
        have HL := hide hless
        clear hless
        go_wp2_with fail
        refine HL.out.mono ?_
        rintro e w1 ⟨rfl, n1, hw1⟩
        have HR1 := hide (wt_at hw1 HR.out.1)
        have HK1 := hide (keeps_at hw1 HR.out.2.2.2.2)
        clear hw1
        cases hb : lessB (at_ Lc j2) (at_ Lc j1) with
        | false =>
          have HB := hide hb
          clear hb HL
          have hms2 := m_less p A Lc.length c (w1) (by rw [← HV.out]; exact (HR1.out).cell)
          have hless := less_any v Lc j1 k (w1) (HR1.out).own (by omega) (by omega)
          rw [HV.out] at hless
          have HL2 := hide hless
          clear hless
          go_wp2_with fail
          refine HL2.out.mono ?_
          rintro e w2 ⟨rfl, n2, hw2⟩
          have HR2 := hide (wt_at hw2 HR1.out)
          have HK2 := hide (keeps_at hw2 HK1.out)
          clear hw2
          cases hb2 : lessB (at_ Lc j1) (at_ Lc k) with
          | false =>
            have HB2 := hide hb2
            clear hb2 HL2
            go_wp2_with fail
            go_ret
            refine ⟨_, rfl, Lc, HR2.out, HR.out.2.1, ?_, HR.out.2.2.2.1, HK2.out⟩
            refine down_done HR.out.2.2.1 (fun ch c0 cn cp => ?_)
            have hmin : ¬ (at_ Lc ch).lt (at_ Lc j1) := (by
                  have hcc : ch = j1 ∨ ch = j2 := by omega
                  have hnn := (lessB_not _ _).1 HB.out
                  rcases hcc with rfl | rfl
                  · unfold Par.lt; omega
                  · exact hnn)
            have hnl := (lessB_not _ _).1 HB2.out
            unfold Par.lt at *; omega
          | true =>
            have hmw := m_swap p A Lc.length c w2 (by rw [← HV.out]; exact (HR2.out).cell)
            have hswap := swap_any v Lc k j1 w2 (HR2.out).own (by omega) (by omega)
            rw [HV.out] at hswap
            have HS := hide hswap
            have HB2 := hide hb2
            clear hb2 hswap HL2
            go_wp2_with fail
            refine HS.out.mono ?_
            rintro e w3 ⟨rfl, ho3, hk3⟩
            rw [← HV.out] at ho3 hk3
            have HO3 := hide ho3
            have HK3 := hide hk3
            clear ho3 hk3
            go_wp2_with fail
            go_roundw
            case rel =>
              refine ⟨j1, sw Lc k j1, rfl, by omega, by rw [sw_length]; exact HLC.out.trans HM.out.symm, hide ⟨?_, ?_, ?_, ?_, ?_⟩⟩
              · exact (HR2.out).swap (by rw [sw_length]; exact HO3.out) HK3.out
              · exact (sw_perm Lc k j1 (by omega) (by omega)).trans HR.out.2.1
              · exact down_step (by omega) (by omega) (by omega) (by omega) HR.out.2.2.1 ((lessB_iff _ _).1 HB2.out) (fun ch c0 cn cp => (by
                  have hcc : ch = j1 ∨ ch = j2 := by omega
                  have hnn := (lessB_not _ _).1 HB.out
                  rcases hcc with rfl | rfl
                  · unfold Par.lt; omega
                  · exact hnn))
              · rw [at_sw Lc k j1 n (by omega) (by omega), if_neg (by omega), if_neg (by omega)]; exact HR.out.2.2.2.1
              · exact (HK2.out).trans' HK3.out
            case measure =>
              simp [intOf]
              omega
        | true =>
          have HB := hide hb
          clear hb HL
          have hms2 := m_less p A Lc.length c (w1) (by rw [← HV.out]; exact (HR1.out).cell)
          have hless := less_any v Lc j2 k (w1) (HR1.out).own (by omega) (by omega)
          rw [HV.out] at hless
          have HL2 := hide hless
          clear hless
          go_wp2_with fail
          refine HL2.out.mono ?_
          rintro e w2 ⟨rfl, n2, hw2⟩
          have HR2 := hide (wt_at hw2 HR1.out)
          have HK2 := hide (keeps_at hw2 HK1.out)
          clear hw2
          cases hb2 : lessB (at_ Lc j2) (at_ Lc k) with
          | false =>
            have HB2 := hide hb2
            clear hb2 HL2
            go_wp2_with fail
            go_ret
            refine ⟨_, rfl, Lc, HR2.out, HR.out.2.1, ?_, HR.out.2.2.2.1, HK2.out⟩
            refine down_done HR.out.2.2.1 (fun ch c0 cn cp => ?_)
            have hmin : ¬ (at_ Lc ch).lt (at_ Lc j2) := (by
                  have hcc : ch = j1 ∨ ch = j2 := by omega
                  have hnn := (lessB_iff _ _).1 HB.out
                  rcases hcc with rfl | rfl
                  · unfold Par.lt at *; omega
                  · unfold Par.lt; omega)
            have hnl := (lessB_not _ _).1 HB2.out
            unfold Par.lt at *; omega
          | true =>
            have hmw := m_swap p A Lc.length c w2 (by rw [← HV.out]; exact (HR2.out).cell)
            have hswap := swap_any v Lc k j2 w2 (HR2.out).own (by omega) (by omega)
            rw [HV.out] at hswap
            have HS := hide hswap
            have HB2 := hide hb2
            clear hb2 hswap HL2
            go_wp2_with fail
            refine HS.out.mono ?_
            rintro e w3 ⟨rfl, ho3, hk3⟩
            rw [← HV.out] at ho3 hk3
            have HO3 := hide ho3
            have HK3 := hide hk3
            clear ho3 hk3
            go_wp2_with fail
            go_roundw
            case rel =>
              refine ⟨j2, sw Lc k j2, rfl, by omega, by rw [sw_length]; exact HLC.out.trans HM.out.symm, hide ⟨?_, ?_, ?_, ?_, ?_⟩⟩
              · exact (HR2.out).swap (by rw [sw_length]; exact HO3.out) HK3.out
              · exact (sw_perm Lc k j2 (by omega) (by omega)).trans HR.out.2.1
              · exact down_step (by omega) (by omega) (by omega) (by omega) HR.out.2.2.1 ((lessB_iff _ _).1 HB2.out) (fun ch c0 cn cp => (by
                  have hcc : ch = j1 ∨ ch = j2 := by omega
                  have hnn := (lessB_iff _ _).1 HB.out
                  rcases hcc with rfl | rfl
                  · unfold Par.lt at *; omega
                  · unfold Par.lt; omega))
              · rw [at_sw Lc k j2 n (by omega) (by omega), if_neg (by omega), if_neg (by omega)]; exact HR.out.2.2.2.1
              · exact (HK2.out).trans' HK3.out
            case measure =>
              simp [intOf]
              omega
      · have hd3 : decide (j2 < n) = false := by simpa using h2
        have hms2 := m_less p A Lc.length c (wr) (by rw [← HV.out]; exact (HR.out.1).cell)
        have hless := less_any v Lc j1 k (wr) (HR.out.1).own (by omega) (by omega)
        rw [HV.out] at hless
        have HL2 := hide hless
        clear hless
        go_wp2_with fail
        refine HL2.out.mono ?_
        rintro e w2 ⟨rfl, n2, hw2⟩
        have HR2 := hide (wt_at hw2 HR.out.1)
        have HK2 := hide (keeps_at hw2 HR.out.2.2.2.2)
        clear hw2
        cases hb2 : lessB (at_ Lc j1) (at_ Lc k) with
        | false =>
          have HB2 := hide hb2
          clear hb2 HL2
          go_wp2_with fail
          go_ret
          refine ⟨_, rfl, Lc, HR2.out, HR.out.2.1, ?_, HR.out.2.2.2.1, HK2.out⟩
          refine down_done HR.out.2.2.1 (fun ch c0 cn cp => ?_)
          have hmin : ¬ (at_ Lc ch).lt (at_ Lc j1) := (by
                have hcc : ch = j1 := by omega
                subst hcc
                unfold Par.lt; omega)
          have hnl := (lessB_not _ _).1 HB2.out
          unfold Par.lt at *; omega
        | true =>
          have hmw := m_swap p A Lc.length c w2 (by rw [← HV.out]; exact (HR2.out).cell)
          have hswap := swap_any v Lc k j1 w2 (HR2.out).own (by omega) (by omega)
          rw [HV.out] at hswap
          have HS := hide hswap
          have HB2 := hide hb2
          clear hb2 hswap HL2
          go_wp2_with fail
          refine HS.out.mono ?_
          rintro e w3 ⟨rfl, ho3, hk3⟩
          rw [← HV.out] at ho3 hk3
          have HO3 := hide ho3
          have HK3 := hide hk3
          clear ho3 hk3
          go_wp2_with fail
          go_roundw
          case rel =>
            refine ⟨j1, sw Lc k j1, rfl, by omega, by rw [sw_length]; exact HLC.out.trans HM.out.symm, hide ⟨?_, ?_, ?_, ?_, ?_⟩⟩
            · exact (HR2.out).swap (by rw [sw_length]; exact HO3.out) HK3.out
            · exact (sw_perm Lc k j1 (by omega) (by omega)).trans HR.out.2.1
            · exact down_step (by omega) (by omega) (by omega) (by omega) HR.out.2.2.1 ((lessB_iff _ _).1 HB2.out) (fun ch c0 cn cp => (by
                have hcc : ch = j1 := by omega
                subst hcc
                unfold Par.lt; omega))
            · rw [at_sw Lc k j1 n (by omega) (by omega), if_neg (by omega), if_neg (by omega)]; exact HR.out.2.2.2.1
            · exact (HK2.out).trans' HK3.out
          case measure =>
            simp [intOf]
            omega
end Go.Proofs.Ytefjoiinoaofcaa

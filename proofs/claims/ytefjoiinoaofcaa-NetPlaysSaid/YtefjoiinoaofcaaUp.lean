/- heap.up over parcels. -/
import Derived.Test.YtefjoiinoaofcaaLess
namespace Go.Proofs.Ytefjoiinoaofcaa
open Go.RowKit

/-- The slice behind p holds the parcels L. -/
structure Wt (w : World) (p : Addr) (v : Value) (L : List Par) : Prop where
  cell : w.cell? p = some v
  own : Own w 67 6 v L.length (pcs L)
  far : ∀ b, v.ownBlock = some b → b ≠ p.block
theorem Wt.swap {w w' : World} {p : Addr} {v : Value} {L L' : List Par} (h : Wt w p v L) (ho : Own w' 67 6 v L'.length (pcs L')) (k : Keeps v.ownBlock.toList w w') : Wt w' p v L' := by
  refine ⟨?_, ho, h.far⟩
  rw [← h.cell]
  exact World.cell?_of_block (k.block _ (World.block_lt_of_cell? w _ h.cell) (fun hm => by
    have := h.far p.block (by simpa using hm)
    exact this rfl))
theorem Wt.drewN {w : World} {p : Addr} {v : Value} {L : List Par} (h : Wt w p v L) (n : Nat) : Wt (w.drewN n) p v L := ⟨h.cell, h.own, h.far⟩
theorem Wt.slice {w : World} {p : Addr} {v : Value} {L : List Par} (h : Wt w p v L) : ∃ A c, v = .slice A L.length c := h.own.slice

set_option maxHeartbeats 800000 in
theorem up_any (p : Addr) (v : Value) (L : List Par) (j : Nat) (w : World) (h : Wt w p v L) (hj : j < L.length) (hlen : L.length ≤ 1000000) (hu : UpInv L L.length j) :
    Calls Try.prog 25 #[.iface 75 (.pointer (some p)), .int .i64 j] w fun e w' => e = .returned (.tuple #[]) ∧ ∃ L', Wt w' p v L' ∧ L'.Perm L ∧ Heap L' L'.length ∧ Keeps v.ownBlock.toList w w' := by
  have HU := hide hu
  have HW := hide h
  clear hu h
  go_enter Try.func25, Try.ntmps25
  go_wp2
  go_loopw [1] (fun jv wr => ∃ (k : Nat) (Lc : List Par), jv = .int .i64 k ∧ k < Lc.length ∧ Lc.length ≤ 1000000 ∧ Hid (Wt wr p v Lc ∧ Lc.Perm L ∧ UpInv Lc Lc.length k ∧ Keeps v.ownBlock.toList w wr)) (fun jv _ => (intOf jv).toNat)
  case atStart => exact ⟨j, L, rfl, hj, hlen, hide ⟨HW.out, List.Perm.refl _, HU.out, Keeps.refl _ _⟩⟩
  case round =>
    obtain ⟨k, Lc, rfl, hk, hlc, HR⟩ := hrel
    by_cases h0 : k = 0
    · subst h0
      go_wp2_with fail
      go_end0
      exact ⟨rfl, Lc, HR.out.1, HR.out.2.1, up_done HR.out.2.2.1 (.inl rfl), HR.out.2.2.2⟩
    · obtain ⟨i, hi⟩ : ∃ i : Nat, i = (k - 1) / 2 := ⟨_, rfl⟩
      have hq : ((k : Int) - 1) / 2 = (i : Int) := by omega
      have hq1 : 0 ≤ (k : Int) - 1 := by omega
      have hik : ((i : Int) == (k : Int)) = false := by simp; omega
      obtain ⟨A, c, hv⟩ := HR.out.1.slice
      have hiL : i < Lc.length := by omega
      have hml := m_less p A Lc.length c wr (by rw [← hv]; exact HR.out.1.cell)
      have hless := less_any v Lc k i wr HR.out.1.own hk hiL
      rw [hv] at hless
      have HL := hide hless
      have HI := hide hi
      have HV := hide hv
      clear hless hi hv
      go_wp2_with fail
      refine HL.out.mono ?_
      rintro e w1 ⟨rfl, n1, rfl⟩
      cases hb : lessB (at_ Lc k) (at_ Lc i) with
      | false =>
        have HB := hide hb
        clear hb
        go_wp2_with fail
        go_end0
        exact ⟨rfl, Lc, HR.out.1.drewN n1, HR.out.2.1, up_done HR.out.2.2.1 (.inr (by rw [← HI.out]; exact (lessB_not _ _).1 HB.out)), HR.out.2.2.2.drewN n1⟩
      | true =>
        have hms := m_swap p A Lc.length c (wr.drewN n1) (by rw [← HV.out]; exact (HR.out.1.drewN n1).cell)
        have hswap := swap_any v Lc i k (wr.drewN n1) (HR.out.1.drewN n1).own hiL hk
        rw [HV.out] at hswap
        have HS := hide hswap
        have HB := hide hb
        clear hb hswap HL
        go_wp2_with fail
        refine HS.out.mono ?_
        rintro e w2 ⟨rfl, ho2, hk2⟩
        rw [← HV.out] at ho2 hk2
        have HO2 := hide ho2
        have HK2 := hide hk2
        clear ho2 hk2
        go_wp2_with fail
        go_roundw
        case rel =>
          refine ⟨i, sw Lc i k, rfl, by rw [sw_length]; exact hiL, by rw [sw_length]; exact hlc, hide ⟨?_, ?_, ?_, ?_⟩⟩
          · exact (HR.out.1.drewN n1).swap (by rw [sw_length]; exact HO2.out) HK2.out
          · exact (sw_perm Lc i k hiL hk).trans HR.out.2.1
          · rw [sw_length]
            exact up_step HI.out (by omega) hk (Nat.le_refl _) HR.out.2.2.1 ((lessB_iff _ _).1 HB.out)
          · exact (HR.out.2.2.2.drewN n1).trans' HK2.out
        case measure =>
          simp [intOf]
          omega
end Go.Proofs.Ytefjoiinoaofcaa

/- The reference's ReadNumber. -/
import Derived.Test.YtcfglfnncpcfoaaPlain
import Derived.Test.YtcfglfnncpcfoaaUnp
namespace Go.Proofs.Ytcfglfnncpcfoaa
open Go.RowKit Go.Shelf
/-- What the reference finds at the last byte of a number. -/
theorem at_getD (s : ByteArray) (k : Nat) (h : k < s.size) : s[k] = s.data.toList.getD k 0 := by
  have hl : k < s.data.toList.length := by rw [Array.length_toList]; exact h
  rw [List.getD, List.getElem?_eq_getElem hl]
  rfl
theorem rread_last {l : List UInt8} {k acc v : Nat} (hr : readN l = rd k acc (l.drop k)) (hk : k < l.length) (h9 : k ≤ 9) (hb : ¬ 128 ≤ (l.getD k 0).toNat) (hv : v = (acc + (l.getD k 0).toNat % 128 * 128 ^ k) % 18446744073709551616) :
    readN l = if numL v = l.take (k + 1) then (v, k + 1, 0) else (0, 0, 11) := by
  have h := hr.trans (rd_last hk (by omega) hb)
  have hvl : v < 18446744073709551616 := by rw [hv]; exact Nat.mod_lt _ (by omega)
  by_cases hc : (0 < k ∧ (l.getD k 0).toNat = 0) ∨ (k = 9 ∧ 1 < (l.getD k 0).toNat)
  · rw [if_pos hc] at h
    rw [if_neg ?_]
    · exact h
    · intro he
      have h2 := readN_numL v hvl (l.drop (k + 1))
      rw [he, List.take_append_drop, h] at h2
      simp at h2
  · rw [if_neg hc] at h
    have hlt : acc + (l.getD k 0).toNat % 128 * 128 ^ k < 18446744073709551616 := by
      have := readN_lt l
      rw [h] at this
      exact this
    rw [Nat.mod_eq_of_lt hlt] at hv
    rw [← hv] at h
    rw [if_pos (readN_inv h)]
    exact h
theorem mul_val (acc b k : Nat) : IntKind.u64.wrap ((acc : Int) + IntKind.u64.wrap ((b : Int) % 128 * (128 ^ k : Nat))) = (((acc + b % 128 * 128 ^ k) % 18446744073709551616 : Nat) : Int) := by
  have e : ((b : Int) % 128 * (128 ^ k : Nat)) = ((b % 128 * 128 ^ k : Nat) : Int) := by push_cast; rfl
  rw [e, IntKind.wrap_u64, IntKind.wrap_u64]
  generalize b % 128 * 128 ^ k = q
  omega
set_option maxHeartbeats 4000000 in
set_option maxRecDepth 100000 in
theorem rread_any (s : ByteArray) (w : World) (hs : s.size ≤ 140737488355328) : Calls Try.prog 68 #[.string s] w fun e w' => e = .returned (.tuple #[.int .u64 ((readN s.data.toList).1 : Int), .int .i64 ((readN s.data.toList).2.1 : Int), .int .i64 (readN s.data.toList).2.2]) ∧ Keeps [] w w' := by
  have hll : s.data.toList.length = s.size := Array.length_toList
  obtain ⟨l, hl⟩ : ∃ l, l = s.data.toList := ⟨_, rfl⟩
  rw [← hl] at hll
  have HL := hide hl
  clear hl
  go_enter Try.func68, Try.ntmps68
  go_wp2
  go_loopw [5, 6, 7, 8] (fun s5 s6 s7 _ wr => ∃ (k acc : Nat) (z f : Int), k ≤ s.size ∧ k ≤ 10 ∧ s7 = .int .i64 k ∧ s5 = .int .u64 z ∧ s6 = .int .u64 f ∧ Hid (k ≤ 9 → z = acc ∧ acc < 128 ^ k ∧ f = ((128 ^ k : Nat) : Int)) ∧ Hid (readN l = rd k acc (l.drop k)) ∧ Hid (Keeps [] w wr)) (fun _ _ s7 _ _ => 10 - (intOf s7).toNat)
  case atStart => exact ⟨0, 0, 0, 1, Nat.zero_le _, by omega, rfl, rfl, rfl, hide (fun _ => ⟨rfl, by simp, rfl⟩), rfl, hide (Keeps.refl _ _)⟩
  case round =>
    obtain ⟨k, acc, z, f, hk, hk10, rfl, rfl, rfl, HZ, HR, HK⟩ := hrel
    by_cases hlt : k < s.size ∧ k < 10
    · obtain ⟨hlt, hk9⟩ := hlt
      have hltz : (k : Int) < (s.size : Int) := by omega
      have hk0 : (0 : Int) ≤ (k : Int) := by omega
      have hkz : (k : Int) < 10 := by omega
      have hd1 : decide (k < s.size) = true := by simp [hlt]
      have hd2 : decide ((k : Int) < 10) = true := by simp [hkz]
      obtain ⟨hz, hacc, hf⟩ := HZ.out (by omega)
      subst hz hf
      have HA := hide hacc
      have hat : s[k] = l.getD k 0 := by rw [HL.out]; exact at_getD s k hlt
      have hb256 : s[k].toNat < 256 := s[k].toNat_lt
      have HM := hide (fun h => rd_more (l := l) (i := k) (acc := acc) (by omega) (by omega) h)
      have HE := hide (fun v h hv => rread_last (v := v) HR.out (by omega) (by omega) h hv)
      have hmv := mul_val acc s[k].toNat k
      rw [← hat] at HM HE
      clear hat hacc
      obtain ⟨v, hv⟩ : ∃ v, v = (acc + s[k].toNat % 128 * 128 ^ k) % 18446744073709551616 := ⟨_, rfl⟩
      rw [← hv] at hmv
      have HV := hide (show v < 18446744073709551616 by rw [hv]; exact Nat.mod_lt _ (by omega))
      have HVE := hide hv
      clear hv
      have hfz : (0 : Int) ≤ ((128 ^ k : Nat) : Int) := Int.natCast_nonneg _
      obtain ⟨fc, hfc⟩ : ∃ fc : Nat, fc = 128 ^ k := ⟨_, rfl⟩
      rw [← hfc] at hmv hfz ⊢
      have HFC := hide hfc
      clear hfc
      by_cases hb : 128 ≤ s[k].toNat
      · have hb1 : ¬ (s[k].toNat : Int) < 128 := by omega
        have HN := hide (HR.out.trans (HM.out hb))
        have HVV := hide (show k + 1 ≤ 9 → (v : Int) = ((acc + s[k].toNat % 128 * 128 ^ k : Nat) : Int) ∧ acc + s[k].toNat % 128 * 128 ^ k < 128 ^ (k + 1) from fun h => by
          have h1 := acc_lt (b := s[k].toNat) HA.out
          have h2 : (128 : Nat) ^ (k + 1) ≤ 128 ^ 9 := Nat.pow_le_pow_right (by omega) h
          refine ⟨?_, h1⟩
          rw [HVE.out, Nat.mod_eq_of_lt (by omega)])
        clear hb HE HM
        go_wp2
        go_roundw
        case measure => simp [intOf]; omega
        case rel => exact ⟨k + 1, acc + s[k].toNat % 128 * 128 ^ k, v, _, by omega, by omega, by go_num, rfl, rfl, hide (fun h => ⟨(HVV.out h).1, (HVV.out h).2, by
          have h2 : (128 : Nat) ^ (k + 1) ≤ 128 ^ 9 := Nat.pow_le_pow_right (by omega) h
          have h3 : fc * 128 = 128 ^ (k + 1) := by rw [HFC.out, Nat.pow_succ]
          rw [← h3] at h2 ⊢
          rw [IntKind.wrap_u64]
          omega⟩), HN.out, HK⟩
      · have hb1 : (s[k].toNat : Int) < 128 := by omega
        have HN := hide (HE.out v hb HVE.out)
        have hv1 := HV.out
        have htk := ext_take s (k + 1)
        have HTK := hide htk
        clear hb HE HM htk
        go_wp2_with fail
        refine (rnumber_any (v + 1) v wr (by omega) hv1).mono ?_
        rintro e w2 ⟨rfl, k2⟩
        have HK2 := hide (HK.out.trans' k2)
        clear k2
        have hkk1 : ((k : Int) + 1).toNat = k + 1 := by omega
        have hks : (k : Int) + 1 ≤ (s.size : Int) := by omega
        have heq : (bs (numL v)).toList = numL v := bs_empty _
        have heq2 : (s.extract 0 (k + 1)).toList = l.take (k + 1) := by rw [Lib.toList_data, HTK.out, HL.out]
        by_cases hsame : numL v = l.take (k + 1)
        · have HF := hide (show readN l = (v, k + 1, 0) by rw [HN.out, if_pos hsame])
          have hbq : ((bs (numL v)).toList == (s.extract 0 (k + 1)).toList) = true := by rw [heq, heq2]; simp [hsame]
          clear hsame heq heq2 HN
          go_wp2
          go_ret3
          exact ⟨ret_read (by rw [← HL.out, HF.out]) (by rw [← HL.out, HF.out]; show _ = ((k + 1 : Nat) : Int); omega) (by rw [← HL.out, HF.out]), HK2.out⟩
        · have HF := hide (show readN l = (0, 0, 11) by rw [HN.out, if_neg hsame])
          have hbq : ((bs (numL v)).toList == (s.extract 0 (k + 1)).toList) = false := by rw [heq, heq2]; simp [hsame]
          clear hsame heq heq2 HN
          go_wp2
          go_ret3
          exact ⟨by rw [← HL.out, HF.out]; rfl, HK2.out⟩
    · have HF := hide (show readN l = if s.size < 10 then (0, 0, 10) else (0, 0, 11) by
        rw [HR.out]
        by_cases h10 : s.size < 10
        · rw [if_pos h10, List.drop_eq_nil_of_le (by omega)]
          unfold rd
          rw [if_pos (by omega)]
        · rw [if_neg h10]
          have hk10 : k = 10 := by omega
          subst hk10
          cases hd : l.drop 10 with
          | nil => unfold rd; rw [if_neg (by omega)]
          | cons b t => unfold rd; rw [if_pos rfl])
      by_cases h10 : s.size < 10
      · have h1 : (s.size : Int) < 10 := by omega
        have h2 : ¬ (k : Int) < (s.size : Int) := by omega
        have hd1 : decide (k < s.size) = false := by simp; omega
        rw [if_pos h10] at HF
        clear hlt
        go_wp2
        go_ret3
        exact ⟨by rw [← HL.out, HF.out]; rfl, HK.out⟩
      · have h1 : ¬ (s.size : Int) < 10 := by omega
        have hk10' : (k : Int) = 10 := by omega
        rw [if_neg h10] at HF
        have hd2 : decide ((k : Int) < 10) = false := by simp; omega
        clear hlt hk10'
        go_wp2
        all_goals
          go_ret3
          exact ⟨by rw [← HL.out, HF.out]; rfl, HK.out⟩
end Go.Proofs.Ytcfglfnncpcfoaa

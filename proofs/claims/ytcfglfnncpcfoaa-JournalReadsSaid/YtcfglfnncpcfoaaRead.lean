/- Reading a number, as plain data; the contract of codec.ReadNumber. -/
import Derived.Test.YtcfglfnncpcfoaaNumber
import Derived.Laws.Bits64
namespace Go.Proofs.Ytcfglfnncpcfoaa
open Go.RowKit

/-- Reading a number: from byte i on, acc being what the bytes before gave. -/
def rd (i acc : Nat) : List UInt8 → Nat × Nat × Int
  | [] => if i < 10 then (0, 0, 10) else (0, 0, 11)
  | b :: t =>
    if i = 10 then (0, 0, 11)
    else if 128 ≤ b.toNat then rd (i + 1) (acc + b.toNat % 128 * 128 ^ i) t
    else if (0 < i ∧ b.toNat = 0) ∨ (i = 9 ∧ 1 < b.toNat) then (0, 0, 11)
    else (acc + b.toNat % 128 * 128 ^ i, i + 1, 0)
def readN (l : List UInt8) : Nat × Nat × Int := rd 0 0 l

theorem bw_keeps (w : World) (s : ByteArray) : Keeps [] w (Lib.bytesWorld w 5 s) := by
  refine ⟨?_, ?_, ?_, by rw [Lib.bytesWorld_size]; omega, fun k hk _ => Lib.bytesWorld_at_old w 5 s k hk⟩
  all_goals (unfold Lib.bytesWorld World.freeze; split <;> rfl)
theorem bw_cell (w : World) (s : ByteArray) (j : Nat) (h : j < s.size) : (Lib.bytesWorld w 5 s).cell? ⟨w.heap.size, j, none⟩ = some (.int .u8 ((s.data.toList.getD j 0).toNat : Int)) := by
  have := Lib.bytesWorld_cell w 5 s j h
  exact this
theorem ext_take (s : ByteArray) (n : Nat) : (s.extract 0 n).data.toList = s.data.toList.take n := by
  rw [Lib.extract_data]
  simp
/-- One round more. -/
theorem rd_more {l : List UInt8} {i acc : Nat} (hi : i < l.length) (h10 : i < 10) (hb : 128 ≤ (l.getD i 0).toNat) : rd i acc (l.drop i) = rd (i + 1) (acc + (l.getD i 0).toNat % 128 * 128 ^ i) (l.drop (i + 1)) := by
  rw [List.drop_eq_getElem_cons hi]
  have e : l.getD i 0 = l[i] := by simp [List.getD, hi]
  rw [e] at hb ⊢
  conv => lhs; unfold rd
  rw [if_neg (by omega), if_pos hb]
theorem rd_last {l : List UInt8} {i acc : Nat} (hi : i < l.length) (h10 : i < 10) (hb : ¬ 128 ≤ (l.getD i 0).toNat) :
    rd i acc (l.drop i) = if (0 < i ∧ (l.getD i 0).toNat = 0) ∨ (i = 9 ∧ 1 < (l.getD i 0).toNat) then (0, 0, 11) else (acc + (l.getD i 0).toNat % 128 * 128 ^ i, i + 1, 0) := by
  rw [List.drop_eq_getElem_cons hi]
  have e : l.getD i 0 = l[i] := by simp [List.getD, hi]
  rw [e] at hb ⊢
  conv => lhs; unfold rd
  rw [if_neg (by omega), if_neg hb]
theorem ret_read {a a' b b' c c' : Int} (h1 : a = a') (h2 : b = b') (h3 : c = c') : Ending.returned (.tuple #[.int .u64 a, .int .i64 b, .int .i64 c]) = Ending.returned (.tuple #[.int .u64 a', .int .i64 b', .int .i64 c']) := by rw [h1, h2, h3]
theorem pow_128 (k : Nat) : (2 : Nat) ^ (7 * k) = 128 ^ k := by rw [Nat.pow_mul]
theorem or_val (acc b k : Nat) (hk : k ≤ 9) (hacc : acc < 128 ^ k) (hb : k = 9 → b % 128 ≤ 1) : bits .or .u64 (acc : Int) (IntKind.u64.wrap ((b : Int) % 128 * 2 ^ (7 * k))) = ((acc + b % 128 * 128 ^ k : Nat) : Int) := by
  have hp : (128 : Nat) ^ k ≤ 128 ^ 9 := Nat.pow_le_pow_right (by omega) hk
  have h64 : b % 128 * 128 ^ k < 18446744073709551616 := by
    by_cases h9 : k = 9
    · subst h9
      have := hb rfl
      have := Nat.mul_le_mul_right (128 ^ 9) this
      omega
    · have h8 : (128 : Nat) ^ k ≤ 128 ^ 8 := Nat.pow_le_pow_right (by omega) (by omega)
      have h1 : b % 128 ≤ 127 := by omega
      have := Nat.mul_le_mul h1 h8
      omega
  have hw : IntKind.u64.wrap ((b : Int) % 128 * 2 ^ (7 * k)) = ((b % 128 * 128 ^ k : Nat) : Int) := by
    have e : ((b : Int) % 128 * 2 ^ (7 * k)) = ((b % 128 * 128 ^ k : Nat) : Int) := by
      rw [← pow_128]; push_cast; rfl
    rw [e, IntKind.wrap_u64]
    clear e
    generalize b % 128 * 128 ^ k = q at h64 ⊢
    omega
  rw [hw, u64_or_nat acc _ (by omega) h64, Nat.or_comm, nat_join (7 * k) _ _ (by rw [pow_128]; exact Nat.mul_mod_left _ _) (by rw [pow_128]; exact hacc), Nat.add_comm]
theorem acc_lt {acc b k : Nat} (hacc : acc < 128 ^ k) : acc + b % 128 * 128 ^ k < 128 ^ (k + 1) := by
  have h1 : b % 128 ≤ 127 := by omega
  have := Nat.mul_le_mul_right (128 ^ k) h1
  rw [Nat.pow_succ]
  omega
set_option maxHeartbeats 4000000 in
set_option maxRecDepth 100000 in
theorem read_any (s : ByteArray) (w : World) (hs : s.size ≤ 140737488355328) : Calls Try.prog 67 #[.string s] w fun e w' => e = .returned (.tuple #[.int .u64 ((readN s.data.toList).1 : Int), .int .i64 ((readN s.data.toList).2.1 : Int), .int .i64 (readN s.data.toList).2.2]) ∧ Keeps [] w w' := by
  obtain ⟨n, hnc⟩ : ∃ n : Nat, n = min s.size 10 := ⟨_, rfl⟩
  have hn : min (s.size : Int) 10 = (n : Int) := by omega
  have hnl : n ≤ s.size := by omega
  have hn10 : n ≤ 10 := by omega
  have hns : min n s.size = n := by omega
  have z1 : (0 : Int) ≤ (n : Int) := by omega
  have z2 : (n : Int) ≤ (s.size : Int) := by omega
  have HNC := hide hnc
  have kc := fun (W : World) (t : ByteArray) => Lib.run_convert_string_bytes (P := Try.prog) W 9 36 5 t Try.underlying9 Try.underlying36 Try.underlying5
  clear hnc
  have hll : s.data.toList.length = s.size := Array.length_toList
  go_enter Try.func67, Try.ntmps67
  go_wp2_with fail
  have HK := hide (bw_keeps w (s.extract 0 n))
  have hxs : (s.extract 0 n).size = n := by simp; omega
  have hcell : ∀ j, j < n → (Lib.bytesWorld w 5 (s.extract 0 n)).cell? ⟨w.heap.size, j, none⟩ = some (.int .u8 ((s.data.toList.getD j 0).toNat : Int)) := fun j hj => by
    rw [bw_cell w _ j (by rw [hxs]; exact hj)]
    rw [ext_take]
    simp [List.getD, hj]
  generalize Lib.bytesWorld w 5 (s.extract 0 n) = w1 at HK hcell ⊢
  obtain ⟨l, hl⟩ : ∃ l, l = s.data.toList := ⟨_, rfl⟩
  rw [← hl] at hll hcell
  have HL := hide hl
  clear hl kc hn hns z1 z2 hxs
  go_loop [5, 6, 7, 15] (fun s5 _ _ s15 => ∃ (k acc : Nat) (z : Int), k ≤ n ∧ s15 = .int .i64 k ∧ s5 = .int .u64 z ∧ Hid (k ≤ 9 → z = acc ∧ acc < 128 ^ k) ∧ Hid (readN l = rd k acc (l.drop k))) (fun _ _ _ s15 => n - (intOf s15).toNat)
  case atStart => exact ⟨0, 0, 0, Nat.zero_le _, rfl, rfl, hide (fun _ => ⟨rfl, by simp⟩), rfl⟩
  case round =>
    obtain ⟨k, acc, z, hk, rfl, rfl, HZ, HR⟩ := hrel
    by_cases hlt : k < n
    · have hltz : (k : Int) < (n : Int) := by omega
      have hk0 : (0 : Int) ≤ (k : Int) := by omega
      obtain ⟨hz, hacc⟩ := HZ.out (by omega)
      have hc := hcell k hlt
      have hb256 : (l.getD k 0).toNat < 256 := (l.getD k 0).toNat_lt
      have HM := hide (fun h => rd_more (l := l) (i := k) (acc := acc) (by omega) (by omega) h)
      have HE := hide (fun h => rd_last (l := l) (i := k) (acc := acc) (by omega) (by omega) h)
      generalize (l.getD k 0).toNat = b at hc hb256 HM HE
      have hb0 : (0 : Int) ≤ (b : Int) := by omega
      have hb1 : (b : Int) < 256 := by omega
      have hk9 : (k : Int) ≤ 9 := by omega
      clear hcell
      have HA := hide hacc
      subst hz
      have HOR := hide (fun h => or_val acc b k (by omega) HA.out h)
      clear hacc
      by_cases hbz : b = 0
      · subst hbz
        have hq : ((0 : Int) == 0) = true := rfl
        go_wp2
        · have h := HR.out.trans (HE.out (by omega))
          rw [if_pos (Or.inl ⟨by omega, trivial⟩)] at h
          go_ret3
          exact ⟨by rw [← HL.out, h]; rfl, HK.out⟩
        · have h := HR.out.trans (HE.out (by omega))
          rw [if_neg (by omega)] at h
          have hv := HOR.out (by omega)
          go_ret3
          exact ⟨ret_read (by rw [← HL.out, h, ← hv]; simp [IntKind.wrap_u64]) (by rw [← HL.out, h]; show _ = ((k + 1 : Nat) : Int); omega) (by rw [← HL.out, h]), HK.out⟩
      · have hq : ((b : Int) == 0) = false := by rw [beq_eq_false_iff_ne]; omega
        have hqn : ¬ (b : Int) = 0 := by omega
        go_wp2
        · exact ⟨⟨k + 1, acc + b % 128 * 128 ^ k, _, by omega, by go_num, rfl, hide (fun h => ⟨HOR.out (by omega), acc_lt HA.out⟩), HR.out.trans (HM.out (by omega))⟩, by simp [intOf]; omega⟩
        · have h := HR.out.trans (HE.out (by omega))
          rw [if_pos (Or.inr ⟨by omega, by omega⟩)] at h
          go_ret3
          exact ⟨by rw [← HL.out, h]; rfl, HK.out⟩
        · have h := HR.out.trans (HE.out (by omega))
          rw [if_neg (by omega)] at h
          have hv := HOR.out (by omega)
          go_ret3
          exact ⟨ret_read (by rw [← HL.out, h, ← hv]) (by rw [← HL.out, h]; show _ = ((k + 1 : Nat) : Int); omega) (by rw [← HL.out, h]), HK.out⟩
        · have h := HR.out.trans (HE.out (by omega))
          rw [if_neg (by omega)] at h
          have hv := HOR.out (by omega)
          go_ret3
          exact ⟨ret_read (by rw [← HL.out, h, ← hv]) (by rw [← HL.out, h]; show _ = ((k + 1 : Nat) : Int); omega) (by rw [← HL.out, h]), HK.out⟩
        · have h := HR.out.trans (HE.out (by omega))
          rw [if_neg (by omega)] at h
          have hv := HOR.out (by omega)
          go_ret3
          exact ⟨ret_read (by rw [← HL.out, h, ← hv]) (by rw [← HL.out, h]; show _ = ((k + 1 : Nat) : Int); omega) (by rw [← HL.out, h]), HK.out⟩
    · obtain rfl : k = n := by omega
      have hnn := HNC.out
      have HF := hide (show readN l = if s.size < 10 then (0, 0, 10) else (0, 0, 11) by
        rw [HR.out]
        by_cases h10 : s.size < 10
        · rw [if_pos h10, List.drop_eq_nil_of_le (by omega)]
          unfold rd
          rw [if_pos (by omega)]
        · rw [if_neg h10]
          have hk10 : k = 10 := by omega
          subst hk10
          cases hd : l.drop 10 with
          | nil => unfold rd; rw [if_neg (by omega)]
          | cons b t => unfold rd; rw [if_pos rfl])
      clear hnn
      by_cases h10 : s.size < 10
      · have h1 : (s.size : Int) < 10 := by omega
        rw [if_pos h10] at HF
        go_wp2
        go_ret3
        exact ⟨by rw [← HL.out, HF.out]; rfl, HK.out⟩
      · have h1 : ¬ (s.size : Int) < 10 := by omega
        rw [if_neg h10] at HF
        go_wp2
        go_ret3
        exact ⟨by rw [← HL.out, HF.out]; rfl, HK.out⟩
end Go.Proofs.Ytcfglfnncpcfoaa

/- The checksum: codec.Sum, the reference's Sum. -/
import Derived.Test.YtbfghecemppoeaaSmall
namespace Go.Proofs.Ytbfghecemppoeaa
open Go.RowKit
/-- One bit. -/
def crcB (r : Nat) : Nat := if r % 2 = 1 then (r / 2) ^^^ 3988292384 else r / 2
def it : Nat → Nat → Nat
  | 0, r => r
  | j + 1, r => crcB (it j r)
/-- One byte. -/
def crc8 (r b : Nat) : Nat := it 8 (r ^^^ b)
def crcS (r : Nat) (l : List UInt8) : Nat := l.foldl (fun r b => crc8 r b.toNat) r
def sumN (l : List UInt8) : Nat := 4294967295 - crcS 4294967295 l
theorem crcB_lt {r : Nat} (h : r < 4294967296) : crcB r < 4294967296 := by
  unfold crcB
  split
  · exact Nat.xor_lt_two_pow (n := 32) (by omega) (by omega)
  · omega
theorem it_lt {r : Nat} (h : r < 4294967296) : ∀ j, it j r < 4294967296
  | 0 => h
  | j + 1 => crcB_lt (it_lt h j)
theorem crc8_lt {r b : Nat} (h : r < 4294967296) (hb : b < 256) : crc8 r b < 4294967296 := it_lt (Nat.xor_lt_two_pow (n := 32) (by omega) (by omega)) 8
theorem crcS_lt : ∀ (l : List UInt8) {r : Nat}, r < 4294967296 → crcS r l < 4294967296
  | [], _, h => h
  | b :: t, _, h => crcS_lt t (crc8_lt h b.toNat_lt)
theorem crcS_succ {l : List UInt8} {k : Nat} (hk : k < l.length) (r : Nat) : crcS r (l.take (k + 1)) = crc8 (crcS r (l.take k)) (l.getD k 0).toNat := by
  have e : l.getD k 0 = l[k] := by simp [List.getD, hk]
  rw [e, List.take_succ_eq_append_getElem hk, crcS, crcS, List.foldl_append]
  rfl
theorem crc_and (r : Nat) (h : r < 4294967296) : bits .and .u32 (r : Int) 1 = ((r % 2 : Nat) : Int) := by
  have := u32_and_nat r 1 h (by omega)
  rw [nat_mask1] at this
  exact this
theorem crc_xor (r : Nat) (h : r < 4294967296) : bits .xor .u32 (r : Int) 3988292384 = ((r ^^^ 3988292384 : Nat) : Int) := u32_xor_nat r 3988292384 h (by omega)
theorem xor_b (r b : Nat) (h : r < 4294967296) (hb : b < 256) : bits .xor .u32 (r : Int) (b : Int) = ((r ^^^ b : Nat) : Int) := u32_xor_nat r b h (by omega)
theorem ones32 (a : Nat) (h : a < 4294967296) : 4294967295 ^^^ a = 4294967295 - a := by
  have h1 : (4294967295 : Nat) = 2 ^ 32 - 1 := by decide
  have h2 : (4294967295 : Nat) - a = 2 ^ 32 - (a + 1) := by omega
  rw [h2, h1]
  apply Nat.eq_of_testBit_eq
  intro i
  rw [Nat.testBit_xor, Nat.testBit_two_pow_sub_one, Nat.testBit_two_pow_sub_succ (by omega)]
  by_cases hi : i < 32
  · simp [hi]
  · have : a.testBit i = false := Nat.testBit_lt_two_pow (Nat.lt_of_lt_of_le (show a < 2 ^ 32 by omega) (Nat.pow_le_pow_right (by omega) (by omega)))
    simp [hi, this]
theorem ret_u32 {a b : Int} (h : a = b) : Ending.returned (.int .u32 a) = .returned (.int .u32 b) := by rw [h]
set_option maxHeartbeats 2000000 in
set_option maxRecDepth 100000 in
theorem sum_any (s : ByteArray) (w : World) (hs : s.size ≤ 140737488355328) : Calls Try.prog 16 #[.string s] w fun e w' => e = .returned (.int .u32 ((sumN s.data.toList : Nat) : Int)) ∧ Keeps [] w w' := by
  have kc := fun (W : World) (t : ByteArray) => Lib.run_convert_string_bytes (P := Try.prog) W 9 27 5 t Try.underlying9 Try.underlying27 Try.underlying5
  go_enter Try.func16, Try.ntmps16
  go_wp2_with fail
  have HK := hide (bw_keeps w s)
  have hcell : ∀ j, j < s.size → (Lib.bytesWorld w 5 s).cell? ⟨w.heap.size, j, none⟩ = some (.int .u8 ((s.data.toList.getD j 0).toNat : Int)) := fun j hj => bw_cell w _ j hj
  have hll : s.data.toList.length = s.size := Array.length_toList
  generalize Lib.bytesWorld w 5 s = w1 at HK hcell ⊢
  obtain ⟨l, hl⟩ : ∃ l, l = s.data.toList := ⟨_, rfl⟩
  rw [← hl] at hll hcell
  have HL := hide hl
  clear hl kc
  go_loop [3, 5, 6, 10, 18] (fun s3 _ _ s10 _ => ∃ k r : Nat, k ≤ s.size ∧ s10 = .int .i64 k ∧ s3 = .int .u32 (r : Int) ∧ Hid (r < 4294967296 ∧ r = crcS 4294967295 (l.take k))) (fun _ _ _ s10 _ => s.size - (intOf s10).toNat)
  case atStart => exact ⟨0, 4294967295, Nat.zero_le _, rfl, rfl, hide ⟨by omega, rfl⟩⟩
  case round =>
    obtain ⟨k, r, hk, rfl, rfl, HR⟩ := hrel
    by_cases hlt : k < s.size
    · have hltz : (k : Int) < (s.size : Int) := by omega
      have hk0 : (0 : Int) ≤ (k : Int) := by omega
      have hc := hcell k hlt
      have hb256 : (l.getD k 0).toNat < 256 := (l.getD k 0).toNat_lt
      have HS := hide (crcS_succ (l := l) (k := k) (by omega) 4294967295)
      have hxb := xor_b r (l.getD k 0).toNat HR.out.1 hb256
      generalize (l.getD k 0).toNat = b at hc hb256 HS hxb
      have HX := hide (Nat.xor_lt_two_pow (n := 32) (show r < 2 ^ 32 from HR.out.1) (show b < 2 ^ 32 by omega))
      obtain ⟨x, hx⟩ : ∃ x, x = r ^^^ b := ⟨_, rfl⟩
      rw [← hx] at hxb HX
      have HXE := hide hx
      clear hcell hx
      go_wp2
      clear hxb hc
      go_loop [3, 6, 18] (fun s3 _ s18 => ∃ j q : Nat, j ≤ 8 ∧ s18 = .int .i64 j ∧ s3 = .int .u32 (q : Int) ∧ Hid (q < 4294967296 ∧ q = it j x)) (fun _ _ s18 => 8 - (intOf s18).toNat)
      case atStart => exact ⟨0, x, by omega, rfl, rfl, hide ⟨HX.out, rfl⟩⟩
      case round =>
        obtain ⟨j, q, hj, rfl, rfl, HQ⟩ := hrel
        by_cases hj8 : j < 8
        · have hjz : (j : Int) < 8 := by omega
          have hj0 : (0 : Int) ≤ (j : Int) := by omega
          have ha := crc_and q HQ.out.1
          have HB := hide (crcB_lt HQ.out.1)
          by_cases hbit : q % 2 = 1
          · have hxx := crc_xor (q / 2) (by have := HQ.out.1; omega)
            rw [hbit] at ha
            have hq : crcB q = (q / 2) ^^^ 3988292384 := by rw [crcB, if_pos hbit]
            rw [← hq] at hxx
            have HQQ := hide (show crcB q = it (j + 1) x by rw [it, ← HQ.out.2])
            have hn : ((1 : Int) != 0) = true := rfl
            simp only [Int.natCast_ediv, Int.cast_ofNat_Int] at hxx
            clear hbit hq
            go_wp2
            go_round
            case measure => simp [intOf]; omega
            case rel => exact ⟨j + 1, crcB q, by omega, by go_num, rfl, hide ⟨HB.out, HQQ.out⟩⟩
          · have hq0 : q % 2 = 0 := by omega
            rw [hq0] at ha
            have HQ2 := hide (show crcB q = q / 2 by rw [crcB, if_neg hbit])
            have HQQ := hide (show crcB q = it (j + 1) x by rw [it, ← HQ.out.2])
            have hn : ((0 : Int) != 0) = false := rfl
            clear hbit hq0
            go_wp2
            go_round
            case measure => simp [intOf]; omega
            case rel => exact ⟨j + 1, crcB q, by omega, by go_num, by rw [HQ2.out]; rfl, hide ⟨HB.out, HQQ.out⟩⟩
        · obtain rfl : j = 8 := by omega
          go_wp2
          go_round
          case measure => simp [intOf]; omega
          case rel => exact ⟨k + 1, q, by omega, by go_num, rfl, hide ⟨HQ.out.1, by rw [HQ.out.2, HXE.out, HS.out, ← HR.out.2]; rfl⟩⟩
    · obtain rfl : k = s.size := by omega
      have hltz : ¬ (s.size : Int) < (s.size : Int) := by omega
      have HF := hide (show 4294967295 - r = sumN l by rw [HR.out.2, ← hll, List.take_length]; rfl)
      go_wp2
      go_ret
      refine ⟨ret_u32 ?_, HK.out⟩
      rw [← HL.out, ← HF.out, ← ones32 r HR.out.1]
      exact u32_xor_nat 4294967295 r (by omega) HR.out.1
theorem at_getD (s : ByteArray) (k : Nat) (h : k < s.size) : s[k] = s.data.toList.getD k 0 := by
  have hl : k < s.data.toList.length := by rw [Array.length_toList]; exact h
  rw [List.getD, List.getElem?_eq_getElem hl]
  rfl
set_option maxHeartbeats 2000000 in
set_option maxRecDepth 100000 in
theorem rsum_any (s : ByteArray) (w : World) (hs : s.size ≤ 140737488355328) : Calls Try.prog 17 #[.string s] w fun e w' => e = .returned (.int .u32 ((sumN s.data.toList : Nat) : Int)) ∧ w = w' := by
  have hll : s.data.toList.length = s.size := Array.length_toList
  obtain ⟨l, hl⟩ : ∃ l, l = s.data.toList := ⟨_, rfl⟩
  rw [← hl] at hll
  have HL := hide hl
  clear hl
  go_enter Try.func17, Try.ntmps17
  go_wp2
  go_loop [3, 4, 5, 6] (fun s3 s4 _ _ => ∃ k r : Nat, k ≤ s.size ∧ s4 = .int .i64 k ∧ s3 = .int .u32 (r : Int) ∧ Hid (r < 4294967296 ∧ r = crcS 4294967295 (l.take k))) (fun _ s4 _ _ => s.size - (intOf s4).toNat)
  case atStart => exact ⟨0, 4294967295, Nat.zero_le _, rfl, rfl, hide ⟨by omega, rfl⟩⟩
  case round =>
    obtain ⟨k, r, hk, rfl, rfl, HR⟩ := hrel
    by_cases hlt : k < s.size
    · have hltz : (k : Int) < (s.size : Int) := by omega
      have hk0 : (0 : Int) ≤ (k : Int) := by omega
      have hb256 : (l.getD k 0).toNat < 256 := (l.getD k 0).toNat_lt
      have HS := hide (crcS_succ (l := l) (k := k) (by omega) 4294967295)
      have hxb := xor_b r (l.getD k 0).toNat HR.out.1 hb256
      have hat : s[k] = l.getD k 0 := by rw [HL.out]; exact at_getD s k hlt
      rw [← hat] at hxb hb256 HS
      clear hat
      have HX := hide (Nat.xor_lt_two_pow (n := 32) (show r < 2 ^ 32 from HR.out.1) (show s[k].toNat < 2 ^ 32 by omega))
      obtain ⟨x, hx⟩ : ∃ x, x = r ^^^ s[k].toNat := ⟨_, rfl⟩
      rw [← hx] at hxb HX
      have HXE := hide hx
      clear hx
      go_wp2
      clear hxb
      go_loop [3, 5, 6] (fun s3 s5 _ => ∃ j q : Nat, j ≤ 8 ∧ s5 = .int .i64 j ∧ s3 = .int .u32 (q : Int) ∧ Hid (q < 4294967296 ∧ q = it j x)) (fun _ s5 _ => 8 - (intOf s5).toNat)
      case atStart => exact ⟨0, x, by omega, rfl, rfl, hide ⟨HX.out, rfl⟩⟩
      case round =>
        obtain ⟨j, q, hj, rfl, rfl, HQ⟩ := hrel
        by_cases hj8 : j < 8
        · have hjz : (j : Int) < 8 := by omega
          have hj0 : (0 : Int) ≤ (j : Int) := by omega
          have hq0 : (0 : Int) ≤ (q : Int) := by omega
          have hqd : (q : Int) / 2 % 4294967296 = (q : Int) / 2 := by have := HQ.out.1; omega
          have HB := hide (crcB_lt HQ.out.1)
          by_cases hbit : q % 2 = 1
          · have hxx := crc_xor (q / 2) (by have := HQ.out.1; omega)
            have hqb : (q : Int) % 2 = 1 := by omega
            have hq : crcB q = (q / 2) ^^^ 3988292384 := by rw [crcB, if_pos hbit]
            rw [← hq] at hxx
            have HQQ := hide (show crcB q = it (j + 1) x by rw [it, ← HQ.out.2])
            simp only [Int.natCast_ediv, Int.cast_ofNat_Int] at hxx
            clear hbit hq
            go_wp2
            go_round
            case measure => simp [intOf]; omega
            case rel => exact ⟨j + 1, crcB q, by omega, by go_num, rfl, hide ⟨HB.out, HQQ.out⟩⟩
          · have hqb : (q : Int) % 2 = 0 := by omega
            have HQ2 := hide (show crcB q = q / 2 by rw [crcB, if_neg hbit])
            have HQQ := hide (show crcB q = it (j + 1) x by rw [it, ← HQ.out.2])
            have hn : ((0 : Int) == 1) = false := rfl
            clear hbit
            go_wp2
            go_round
            case measure => simp [intOf]; omega
            case rel => exact ⟨j + 1, crcB q, by omega, by go_num, by rw [HQ2.out]; rfl, hide ⟨HB.out, HQQ.out⟩⟩
        · obtain rfl : j = 8 := by omega
          go_wp2
          go_round
          case measure => simp [intOf]; omega
          case rel => exact ⟨k + 1, q, by omega, by go_num, rfl, hide ⟨HQ.out.1, by rw [HQ.out.2, HXE.out, HS.out, ← HR.out.2]; rfl⟩⟩
    · obtain rfl : k = s.size := by omega
      have hltz : ¬ (s.size : Int) < (s.size : Int) := by omega
      have HF := hide (show 4294967295 - r = sumN l by rw [HR.out.2, ← hll, List.take_length]; rfl)
      have hr := HR.out.1
      have hr0 : (0 : Int) ≤ (r : Int) := by omega
      have hr1 : (r : Int) ≤ 4294967295 := by omega
      go_wp2
      go_ret
      refine ⟨ret_u32 ?_, rfl⟩
      rw [← HL.out, ← HF.out]
      omega
end Go.Proofs.Ytbfghecemppoeaa

/- Signed, Unsigned, Mod, near, and the reference's. -/
import Derived.Test.YtbfghecemppoeaaRead
import Derived.Laws.DeepNot64
import Derived.Lib.Hide
namespace Go.Proofs.Ytbfghecemppoeaa
open Go.RowKit
/-- The number of an integer; the integer of a number. -/
def sgn (n : Int) : Int := if 0 ≤ n then 2 * n else -2 * n - 1
def uns (m : Int) : Int := if m % 2 = 0 then m / 2 else -1 - m / 2
theorem ret_u64 {a b : Int} (h : a = b) : Ending.returned (.int .u64 a) = .returned (.int .u64 b) := by rw [h]
theorem ret_i64 {a b : Int} (h : a = b) : Ending.returned (.int .i64 a) = .returned (.int .i64 b) := by rw [h]
theorem xor_ones (a : Nat) (h : a < 18446744073709551616) : a ^^^ 18446744073709551615 = 18446744073709551615 - a := by
  have h1 : (18446744073709551615 : Nat) = 2 ^ 64 - 1 := by decide
  have h2 : (18446744073709551615 : Nat) - a = 2 ^ 64 - (a + 1) := by omega
  rw [h2, h1]
  apply Nat.eq_of_testBit_eq
  intro i
  rw [Nat.testBit_xor, Nat.testBit_two_pow_sub_one, Nat.testBit_two_pow_sub_succ (by omega)]
  by_cases hi : i < 64
  · simp [hi]
  · have : a.testBit i = false := Nat.testBit_lt_two_pow (Nat.lt_of_lt_of_le (show a < 2 ^ 64 by omega) (Nat.pow_le_pow_right (by omega) (by omega)))
    simp [hi, this]
theorem sgn_bits (n : Int) (h1 : -9223372036854775808 ≤ n) (h2 : n ≤ 9223372036854775807) : bits .xor .u64 (IntKind.u64.wrap (IntKind.u64.wrap n * 2)) (IntKind.u64.wrap (n / 9223372036854775808)) = sgn n := by
  unfold sgn
  by_cases h0 : 0 ≤ n
  · have e1 : IntKind.u64.wrap (IntKind.u64.wrap n * 2) = ((2 * n).toNat : Int) := by rw [IntKind.wrap_u64, IntKind.wrap_u64]; omega
    have e2 : IntKind.u64.wrap (n / 9223372036854775808) = ((0 : Nat) : Int) := by rw [IntKind.wrap_u64]; omega
    rw [e1, e2, u64_xor_nat _ _ (by omega) (by omega), Nat.xor_zero, if_pos h0]
    omega
  · have e1 : IntKind.u64.wrap (IntKind.u64.wrap n * 2) = ((2 * n + 18446744073709551616).toNat : Int) := by rw [IntKind.wrap_u64, IntKind.wrap_u64]; omega
    have e2 : IntKind.u64.wrap (n / 9223372036854775808) = ((18446744073709551615 : Nat) : Int) := by rw [IntKind.wrap_u64]; omega
    rw [e1, e2, u64_xor_nat _ _ (by omega) (by omega), xor_ones _ (by omega), if_neg h0]
    omega
theorem uns_bits (m : Int) (h1 : 0 ≤ m) (h2 : m < 18446744073709551616) : bits .xor .i64 (m / 2) (wrap64 (-wrap64 (bits .and .u64 m 1))) = uns m := by
  have ha : bits .and .u64 m 1 = m % 2 := by
    have := u64_and m 1 h1 h2 (by omega) (by omega)
    rw [this]
    have e : m.toNat &&& (1 : Int).toNat = m.toNat % 2 := nat_mask1 m.toNat
    rw [e]
    omega
  rw [ha]
  unfold uns
  by_cases h0 : m % 2 = 0
  · rw [h0, if_pos rfl]
    have e : wrap64 (-wrap64 0) = 0 := by unfold wrap64; omega
    rw [e]
    obtain ⟨k, hk⟩ := Int.eq_ofNat_of_zero_le (show 0 ≤ m / 2 by omega)
    rw [hk]
    show IntKind.i64.wrap ((BitVec.ofInt 64 (k : Int) ^^^ BitVec.ofInt 64 0).toNat : Int) = _
    have z : (BitVec.ofInt 64 0 : BitVec 64) = BitVec.ofNat 64 0 := by decide
    rw [z, BitVec.xor_zero, ofInt_u64 k (by omega), IntKind.wrap_i64]
    omega
  · have h1 : m % 2 = 1 := by omega
    rw [h1, if_neg (by omega)]
    have e : wrap64 (-wrap64 1) = -1 := by unfold wrap64; omega
    rw [e]
    obtain ⟨k, hk⟩ := Int.eq_ofNat_of_zero_le (show 0 ≤ m / 2 by omega)
    rw [hk]
    have hc : bits .xor .i64 (k : Int) (-1) = bits .xor .i64 (-1) (k : Int) := by simp only [bits, BitVec.xor_comm]
    rw [hc, i64_not k (by omega)]
theorem signed_any (n : Int) (w : World) (h1 : -9223372036854775808 ≤ n) (h2 : n ≤ 9223372036854775807) : Calls Try.prog 24 #[.int .i64 n] w fun e w' => e = .returned (.int .u64 (sgn n)) ∧ w = w' := by
  go_enter Try.func24, Try.ntmps24
  go_wp2
  go_ret
  exact ⟨ret_u64 (sgn_bits n h1 h2), rfl⟩
theorem rsigned_any (n : Int) (w : World) (h1 : -9223372036854775808 ≤ n) (h2 : n ≤ 9223372036854775807) : Calls Try.prog 25 #[.int .i64 n] w fun e w' => e = .returned (.int .u64 (sgn n)) ∧ w = w' := by
  by_cases h0 : 0 ≤ n
  · have HE := Lib.hid (show sgn n = 2 * n by rw [sgn, if_pos h0])
    go_enter Try.func25, Try.ntmps25
    go_wp2
    go_ret
    exact ⟨ret_u64 HE.out.symm, rfl⟩
  · have HE := Lib.hid (show sgn n = 2 * (-1 - n) + 1 by rw [sgn, if_neg h0]; omega)
    go_enter Try.func25, Try.ntmps25
    go_wp2
    go_ret
    exact ⟨ret_u64 HE.out.symm, rfl⟩
theorem unsigned_any (m : Int) (w : World) (h1 : 0 ≤ m) (h2 : m < 18446744073709551616) : Calls Try.prog 26 #[.int .u64 m] w fun e w' => e = .returned (.int .i64 (uns m)) ∧ w = w' := by
  go_enter Try.func26, Try.ntmps26
  go_wp2
  go_ret
  exact ⟨ret_i64 (uns_bits m h1 h2), rfl⟩
theorem runsigned_any (m : Int) (w : World) (h1 : 0 ≤ m) (h2 : m < 18446744073709551616) : Calls Try.prog 27 #[.int .u64 m] w fun e w' => e = .returned (.int .i64 (uns m)) ∧ w = w' := by
  by_cases h0 : m % 2 = 0
  · have HE := Lib.hid (show uns m = m / 2 by rw [uns, if_pos h0])
    have hb : (m % 2 == 0) = true := by simp [h0]
    go_enter Try.func27, Try.ntmps27
    go_wp2
    go_ret
    exact ⟨ret_i64 HE.out.symm, rfl⟩
  · have HE := Lib.hid (show uns m = -1 - m / 2 by rw [uns, if_neg h0])
    have hb : (m % 2 == 0) = false := by simp; omega
    go_enter Try.func27, Try.ntmps27
    go_wp2
    go_ret
    exact ⟨ret_i64 HE.out.symm, rfl⟩
theorem mod_val (n m : Int) (h3 : 1 ≤ m) (h4 : m ≤ 1000000) : (wrap64 (n.tmod m + m)).tmod m = n % m := by
  have b1 : n.tmod m < m := Int.tmod_lt_of_pos n (by omega)
  have b2 : -m < n.tmod m := Int.lt_tmod_of_pos n (by omega)
  rw [IntWalk.wrap64_in _ ⟨by omega, by omega⟩, Int.tmod_eq_emod_of_nonneg (by omega), Int.add_emod_right]
  rcases Int.le_total 0 n with h | h
  · rw [Int.tmod_eq_emod_of_nonneg h, Int.emod_emod]
  · obtain ⟨k, hk⟩ : ∃ k, n = n.tmod m + m * k := ⟨n.tdiv m, (Int.tmod_add_mul_tdiv n m).symm⟩
    conv => rhs; rw [hk]
    rw [Int.add_mul_emod_self_left]
theorem mod_any (n m : Int) (w : World) (_h1 : -9223372036854775808 ≤ n) (_h2 : n ≤ 9223372036854775807) (h3 : 1 ≤ m) (h4 : m ≤ 1000000) : Calls Try.prog 18 #[.int .i64 n, .int .i64 m] w fun e w' => e = .returned (.int .i64 (n % m)) ∧ w = w' := by
  have hm0 : ¬ m = 0 := by omega
  have HV := Lib.hid (mod_val n m h3 h4)
  go_enter Try.func18, Try.ntmps18
  go_wp2
  go_ret
  exact ⟨ret_i64 HV.out, rfl⟩
end Go.Proofs.Ytbfghecemppoeaa

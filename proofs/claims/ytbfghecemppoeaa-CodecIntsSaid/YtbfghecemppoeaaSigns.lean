/- near; the laws CodecSums and CodecSigns. -/
import Derived.Test.YtbfghecemppoeaaSane
namespace Go.Proofs.Ytbfghecemppoeaa
open Go.RowKit Go.Shelf
theorem near_any (n off : Int) (w : World) (h1 : -9223372036854775808 ≤ n) (h2 : n ≤ 9223372036854775807) : Calls Try.prog 19 #[.int .i64 n, .int .i64 off] w fun e w' => (∃ x : Nat, x < 18446744073709551616 ∧ e = .returned (.int .u64 (x : Int))) ∧ w = w' := by
  obtain ⟨j, hj⟩ : ∃ j : Nat, n % 64 = (j : Int) := ⟨(n % 64).toNat, by omega⟩
  have hj64 : (j : Int) < 64 := by omega
  have hj0 : (0 : Int) ≤ (j : Int) := by omega
  go_enter Try.func19, Try.ntmps19
  go_wp2_with (go_at_call 18; refine (mod_any n 64 _ h1 h2 (by omega) (by omega)).mono ?_; rintro e w' ⟨rfl, rfl⟩; rw [hj])
  go_ret
  refine ⟨⟨(IntKind.u64.wrap (IntKind.u64.wrap (1 * 2 ^ j) + IntKind.u64.wrap (off.tmod 5))).toNat, ?_, ?_⟩, rfl⟩
  · rw [IntKind.wrap_u64 (IntKind.u64.wrap (1 * 2 ^ j) + IntKind.u64.wrap (off.tmod 5))]; omega
  · refine ret_u64 ?_
    rw [Int.toNat_of_nonneg (by rw [IntKind.wrap_u64 (IntKind.u64.wrap (1 * 2 ^ j) + IntKind.u64.wrap (off.tmod 5))]; omega)]
    rw [Int.one_mul]
theorem sums_walk (s : ByteArray) (w : World) (hs : s.size ≤ 140737488351232) : Calls Try.prog 3 #[.string s] w fun e w' => e = .returned (.bool true) ∧ Keeps [] w w' := by
  obtain ⟨n, hnc⟩ : ∃ n : Nat, n = min s.size 400 := ⟨_, rfl⟩
  have hn : min (s.size : Int) 400 = (n : Int) := by omega
  have hnl : n ≤ s.size := by omega
  have hns : min n s.size = n := by omega
  have z1 : (0 : Int) ≤ (n : Int) := by omega
  have z2 : (n : Int) ≤ (s.size : Int) := by omega
  have HX := hide (show (s.extract 0 n).size ≤ 140737488355328 by rw [ByteArray.size_extract]; omega)
  clear hnc
  go_enter Try.func3, Try.ntmps3
  go_wp2_with fail
  refine (sanity_any w).mono ?_
  rintro e w1 ⟨rfl, k1⟩
  go_wp2_with fail
  refine (sum_any _ w1 HX.out).mono ?_
  rintro e w2 ⟨rfl, k2⟩
  go_wp2_with fail
  refine (rsum_any _ w2 HX.out).mono ?_
  rintro e w' ⟨rfl, rfl⟩
  go_wp2
  go_ret
  exact ⟨by simp, k1.trans' k2⟩
theorem uns_sgn (n : Int) : uns (sgn n) = n := by unfold uns sgn; split <;> split <;> omega
theorem sgn_uns (m : Int) (h : 0 ≤ m) : sgn (uns m) = m := by unfold uns sgn; split <;> split <;> omega
theorem sgn_b (n : Int) (h1 : -9223372036854775808 ≤ n) (h2 : n ≤ 9223372036854775807) : 0 ≤ sgn n ∧ sgn n < 18446744073709551616 := by unfold sgn; split <;> omega
theorem uns_b (m : Int) (h1 : 0 ≤ m) (h2 : m < 18446744073709551616) : -9223372036854775808 ≤ uns m ∧ uns m ≤ 9223372036854775807 := by unfold uns; split <;> omega
theorem wrap64_b (n : Int) : -9223372036854775808 ≤ wrap64 n ∧ wrap64 n ≤ 9223372036854775807 := by unfold wrap64; omega
set_option maxHeartbeats 4000000 in
set_option maxRecDepth 100000 in
theorem signs_walk (n m q1 q2 : Int) (w : World) (h1 : -9223372036854775808 ≤ n) (h2 : n ≤ 9223372036854775807) (h3 : 0 ≤ m) (h4 : m < 18446744073709551616) (h5 : -9223372036854775808 ≤ q1) (h6 : q1 ≤ 9223372036854775807) :
    Calls Try.prog 8 #[.int .i64 n, .int .u64 m, .agg #[.int .i64 q1, .int .i64 q2]] w fun e w' => e = .returned (.bool true) ∧ Keeps [] w w' := by
  have HB := hide (Bk.new w 30 #[.int .i64 q1, .int .i64 q2])
  have HK := hide ((Keeps.refl [] w).alloc (.cells #[.int .i64 q1, .int .i64 q2] 30))
  have hus := uns_sgn n
  have hsu := sgn_uns m h3
  obtain ⟨s1, s2⟩ := sgn_b n h1 h2
  obtain ⟨u1, u2⟩ := uns_b m h3 h4
  go_enter Try.func8, Try.ntmps8
  go_wp2_with fail
  generalize w.alloc (.cells #[.int .i64 q1, .int .i64 q2] 30) = w0 at HB HK ⊢
  refine (sanity_any w0).mono ?_
  rintro e w1 ⟨rfl, k1⟩
  replace HB := hide (HB.out.keep k1 (by simp))
  replace HK := hide (HK.out.trans' k1)
  clear k1
  have c0 : w1.cell? ⟨w.heap.size, 0, none⟩ = some (.int .i64 q1) := HB.out.cell 0
  have c1 : w1.cell? ⟨w.heap.size, 1, none⟩ = some (.int .i64 q2) := HB.out.cell 1
  go_wp2_with fail
  refine (near_any q1 q2 w1 h5 h6).mono ?_
  rintro e w' ⟨⟨x, hx, rfl⟩, rfl⟩
  clear c0 c1 HB
  have hx0 : (0 : Int) ≤ (x : Int) := by omega
  have hx1 : (x : Int) < 18446744073709551616 := by omega
  obtain ⟨k, hk⟩ : ∃ k, wrap64 (x : Int) = k := ⟨_, rfl⟩
  obtain ⟨k1, k2⟩ := wrap64_b (x : Int)
  rw [hk] at k1 k2
  obtain ⟨kn, hkn⟩ : ∃ kn, wrap64 (-k) = kn := ⟨_, rfl⟩
  obtain ⟨n1, n2⟩ := wrap64_b (-k)
  rw [hkn] at n1 n2
  have hukn := uns_sgn kn
  obtain ⟨v1, v2⟩ := sgn_b kn n1 n2
  go_wp2_with (first
    | (go_at_call 24; refine (signed_any _ _ (by omega) (by omega)).mono ?_; rintro e w' ⟨rfl, rfl⟩)
    | (go_at_call 25; refine (rsigned_any _ _ (by omega) (by omega)).mono ?_; rintro e w' ⟨rfl, rfl⟩)
    | (go_at_call 26; refine (unsigned_any _ _ (by omega) (by omega)).mono ?_; rintro e w' ⟨rfl, rfl⟩)
    | (go_at_call 27; refine (runsigned_any _ _ (by omega) (by omega)).mono ?_; rintro e w' ⟨rfl, rfl⟩)
    | fail)
  go_ret
  exact ⟨by simp, HK.out⟩
end Go.Proofs.Ytbfghecemppoeaa

/- The law CodecNumbers. -/
import Derived.Test.YtbfghecemppoeaaPlain
import Derived.Test.YtbfghecemppoeaaSigns
namespace Go.Proofs.Ytbfghecemppoeaa
open Go.RowKit Go.Shelf
/-- Two numbers in a block. -/
def TwoN (w : World) (g : Nat) : Prop := ∀ k, k < 2 → ∃ m : Nat, m < 18446744073709551616 ∧ w.cell? ⟨g, k, none⟩ = some (.int .u64 (m : Int))
theorem TwoN.keep {w w' : World} {g : Nat} (h : TwoN w g) (k : Keeps [] w w') : TwoN w' g := fun i hi => by
  obtain ⟨m, h1, h2⟩ := h i hi
  exact ⟨m, h1, k.cell h2⟩
theorem TwoN.of {w : World} {g a b : Nat} {t : TypeId} (h : Bk w g t #[.int .u64 (a : Int), .int .u64 (b : Int)]) (ha : a < 18446744073709551616) (hb : b < 18446744073709551616) : TwoN w g := fun k hk => by
  match k, hk with
  | 0, _ => exact ⟨a, ha, h.cell 0⟩
  | 1, _ => exact ⟨b, hb, h.cell 1⟩
theorem read_as (s : ByteArray) (a b c : Int) (w : World) (hs : s.size ≤ 140737488355328) (h : ((readN s.data.toList).1 : Int) = a ∧ ((readN s.data.toList).2.1 : Int) = b ∧ (readN s.data.toList).2.2 = c) : Calls Try.prog 21 #[.string s] w fun e w' => e = .returned (.tuple #[.int .u64 a, .int .i64 b, .int .i64 c]) ∧ Keeps [] w w' := by
  obtain ⟨rfl, rfl, rfl⟩ := h
  exact read_any s w hs
set_option maxHeartbeats 4000000 in
set_option maxRecDepth 100000 in
theorem numbers_walk (n : Nat) (q1 q2 : Int) (s : ByteArray) (w : World) (h0 : n < 18446744073709551616) (h5 : -9223372036854775808 ≤ q1) (h6 : q1 ≤ 9223372036854775807) (hs : s.size ≤ 140737488351232) :
    Calls Try.prog 5 #[.int .u64 (n : Int), .agg #[.int .i64 q1, .int .i64 q2], .string s] w fun e w' => e = .returned (.bool true) ∧ Keeps [] w w' := by
  have HB := hide (Bk.new w 30 #[.int .i64 q1, .int .i64 q2])
  have HK := hide ((Keeps.refl [] w).alloc (.cells #[.int .i64 q1, .int .i64 q2] 30))
  go_enter Try.func5, Try.ntmps5
  go_wp2_with fail
  generalize w.alloc (.cells #[.int .i64 q1, .int .i64 q2] 30) = w0 at HB HK ⊢
  refine (sanity_any w0).mono ?_
  rintro e w1 ⟨rfl, k1⟩
  replace HB := hide (HB.out.keep k1 (by simp))
  replace HK := hide (HK.out.trans' k1)
  clear k1
  have c0 : w1.cell? ⟨w.heap.size, 0, none⟩ = some (.int .i64 q1) := HB.out.cell 0
  have c1 : w1.cell? ⟨w.heap.size, 1, none⟩ = some (.int .i64 q2) := HB.out.cell 1
  go_wp2_with fail
  refine (near_any q1 q2 w1 h5 h6).mono ?_
  rintro e w' ⟨⟨x, hx, rfl⟩, rfl⟩
  clear c0 c1 HB
  have HT := hide (TwoN.of (Bk.new w1 32 #[.int .u64 (n : Int), .int .u64 (x : Int)]) h0 hx)
  replace HK := hide (HK.out.alloc (.cells #[.int .u64 (n : Int), .int .u64 (x : Int)] 32))
  obtain ⟨nt, hnt⟩ : ∃ nt : Nat, nt = min s.size 20 := ⟨_, rfl⟩
  have hn : min (s.size : Int) 20 = (nt : Int) := by omega
  have hns : min nt s.size = nt := by omega
  have z1 : (0 : Int) ≤ (nt : Int) := by omega
  have z2 : (nt : Int) ≤ (s.size : Int) := by omega
  have HX := hide (show (s.extract 0 nt).size ≤ 20 by rw [ByteArray.size_extract]; omega)
  clear hnt
  go_wp2
  generalize w1.alloc (.cells #[.int .u64 (n : Int), .int .u64 (x : Int)] 32) = w2 at HT HK ⊢
  generalize w1.heap.size = g at HT ⊢
  go_loopw [9, 10, 11, 12, 13] (fun s9 _ _ _ _ wr => ∃ k : Nat, k ≤ 2 ∧ s9 = .int .i64 k ∧ Hid (Keeps [] w2 wr)) (fun s9 _ _ _ _ _ => 2 - (intOf s9).toNat)
  case atStart => exact ⟨0, by omega, rfl, hide (Keeps.refl _ _)⟩
  case round =>
    obtain ⟨k, hk, rfl, HR⟩ := hrel
    by_cases hlt : k < 2
    · have hltz : (k : Int) < 2 := by omega
      have hk0 : (0 : Int) ≤ (k : Int) := by omega
      obtain ⟨m, hm, hc⟩ := HT.out.keep HR.out k hlt
      have hml := numL_length m hm
      have HC := hide hc
      go_wp2_with fail
      refine (number_any m wr hm).mono ?_
      rintro e w4 ⟨rfl, b4⟩
      have k4 := keeps_of_below b4 (Nat.le_refl _)
      replace HC := hide (k4.cell HC.out)
      have HR4 := hide (HR.out.trans' k4)
      clear b4 k4 hc
      have hadd := fun W => run_string_add_sum (P := Try.prog) (w := W) (bs (numL m)) (s.extract 0 nt) (by have := HX.out; rw [bs_size]; omega)
      have HRD := hide (readN_numL m hm (s.extract 0 nt).data.toList)
      go_wp2_with fail
      refine (read_as (bs (numL m) ++ s.extract 0 nt) (m : Int) ((numL m).length : Int) 0 w4 (by have := HX.out; rw [ByteArray.size_append, bs_size]; omega) (by rw [bs_add, HRD.out]; exact ⟨rfl, rfl, rfl⟩)).mono ?_
      rintro e w5 ⟨rfl, k5⟩
      replace HC := hide (k5.cell HC.out)
      have HR5 := hide (HR4.out.trans' k5)
      clear k5 HR4 hadd
      have hc := HC.out
      go_wp2_with fail
      refine (rnumber_any (m + 1) m w5 (by omega) hm).mono ?_
      rintro e w6 ⟨rfl, k6⟩
      have hc := k6.cell HC.out
      have HR6 := hide (HR5.out.trans' k6)
      have hbz := bs_size (numL m)
      clear k6 HR5 HC
      go_wp2
      go_roundw
      case measure => simp [intOf]; omega
      case rel => exact ⟨k + 1, by omega, by go_num, HR6⟩
    · obtain rfl : k = 2 := by omega
      go_wp2
      go_ret
      exact ⟨rfl, HK.out.trans' HR.out⟩
end Go.Proofs.Ytbfghecemppoeaa

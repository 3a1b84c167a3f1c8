/- The law CodecReads. -/
import Derived.Test.YtbfghecemppoeaaRread
import Derived.Test.YtbfghecemppoeaaNumbers
namespace Go.Proofs.Ytbfghecemppoeaa
open Go.RowKit Go.Shelf
theorem reads_any (s : ByteArray) (w : World) (hs : s.size ≤ 140737488355328) : Calls Try.prog 23 #[.string s] w fun e w' => e = .returned (.bool true) ∧ Keeps [] w w' := by
  have hr := fun W => rread_any s W hs
  have hq := fun W => read_any s W hs
  obtain ⟨⟨n, sz, er⟩, hh⟩ : ∃ r, r = readN s.data.toList := ⟨_, rfl⟩
  rw [← hh] at hr hq
  simp only at hr hq
  clear hh
  go_enter Try.func23, Try.ntmps23
  go_wp2_with fail
  refine (hq w).mono ?_
  rintro e w1 ⟨rfl, k1⟩
  go_wp2_with fail
  refine (hr w1).mono ?_
  rintro e w2 ⟨rfl, k2⟩
  have HK := hide (k1.trans' k2)
  clear k1 k2 hq hr
  go_wp2
  go_ret
  exact ⟨by simp, HK.out⟩
def hi (n : Nat) : ByteArray := bs (List.replicate n 128)
theorem hi_size (n : Nat) : (hi n).size = n := by rw [hi, bs_size, List.length_replicate]
theorem hi_succ (n : Nat) : hi n ++ ⟨#[128]⟩ = hi (n + 1) := bs_ext (by rw [hi, bs_add, hi, bs_list, List.replicate_succ'])
set_option maxHeartbeats 4000000 in
set_option maxRecDepth 100000 in
theorem reads_walk (s : ByteArray) (many b : Int) (w : World) (hs : s.size ≤ 140737488351232) (h1 : -9223372036854775808 ≤ many) (h2 : many ≤ 9223372036854775807) (lo : 0 ≤ b) (hb : b ≤ 255) :
    Calls Try.prog 6 #[.string s, .int .i64 many, .int .u8 b] w fun e w' => e = .returned (.bool true) ∧ Keeps [] w w' := by
  obtain ⟨r, rfl⟩ := Int.eq_ofNat_of_zero_le lo
  obtain ⟨nt, hnt⟩ : ∃ nt : Nat, nt = min s.size 14 := ⟨_, rfl⟩
  have hn : min (s.size : Int) 14 = (nt : Int) := by omega
  have hns : min nt s.size = nt := by omega
  have z1 : (0 : Int) ≤ (nt : Int) := by omega
  have z2 : (nt : Int) ≤ (s.size : Int) := by omega
  have HX := hide (show (s.extract 0 nt).size ≤ 14 by rw [ByteArray.size_extract]; omega)
  obtain ⟨M, hM⟩ : ∃ M : Nat, many % 12 = (M : Int) := ⟨(many % 12).toNat, by omega⟩
  have hM12 : (M : Int) < 12 := by omega
  clear hnt
  go_enter Try.func6, Try.ntmps6
  go_wp2_with fail
  refine (sanity_any w).mono ?_
  rintro e w1 ⟨rfl, k1⟩
  have HK := hide k1
  clear k1
  go_wp2
  generalize s.extract 0 nt = x at HX ⊢
  clear hn hns z1 z2
  go_loop [9, 10] (fun s9 s10 => ∃ k : Nat, k ≤ M ∧ s9 = .string (hi k) ∧ s10 = .int .i64 k) (fun _ s10 => M - (intOf s10).toNat)
  case atStart => exact ⟨0, Nat.zero_le _, rfl, rfl⟩
  case round =>
    obtain ⟨k, hk, rfl, rfl⟩ := hrel
    by_cases hlt : k < M
    · have hltz : (k : Int) < (M : Int) := by omega
      have hadd := fun W => run_string_add_sum (P := Try.prog) (w := W) (hi k) ⟨#[128]⟩ (by rw [hi_size]; simp [ByteArray.size]; omega)
      rw [hi_succ] at hadd
      go_wp2_with (go_at_call 18; refine (mod_any many 12 _ h1 h2 (by omega) (by omega)).mono ?_; rintro e w' ⟨rfl, rfl⟩; rw [hM])
      go_round
      case measure => simp [intOf]; omega
      case rel => exact ⟨k + 1, by omega, rfl, by go_num⟩
    · obtain rfl : k = M := by omega
      have hltz : ¬ (k : Int) < (k : Int) := by omega
      have hsz := hi_size k
      have hx := HX.out
      have hz1 : (⟨#[UInt8.ofNat r]⟩ : ByteArray).size = 1 := rfl
      have HZ := hide (show (hi k ++ ⟨#[UInt8.ofNat r]⟩).size ≤ 12 by rw [ByteArray.size_append, hz1]; omega)
      have HZX := hide (show (hi k ++ ⟨#[UInt8.ofNat r]⟩ ++ x).size ≤ 26 by rw [ByteArray.size_append]; have := HZ.out; omega)
      have HZF := hide (show ((⟨#[255, 255, 255, 255, 255, 255, 255, 255, 255]⟩ : ByteArray) ++ ⟨#[UInt8.ofNat r]⟩).size ≤ 12 by rw [ByteArray.size_append]; exact (by decide : (9 : Nat) + 1 ≤ 12))
      have ha1 := fun W => run_string_add_sum (P := Try.prog) (w := W) (hi k) ⟨#[UInt8.ofNat r]⟩ (by rw [hz1]; omega)
      have ha2 := fun W => run_string_add_sum (P := Try.prog) (w := W) (hi k ++ ⟨#[UInt8.ofNat r]⟩) x (by have := HZ.out; omega)
      have ha3 := fun W => run_string_add_sum (P := Try.prog) (w := W) ⟨#[255, 255, 255, 255, 255, 255, 255, 255, 255]⟩ ⟨#[UInt8.ofNat r]⟩ (by rw [hz1]; exact (by decide : (9 : Nat) + 1 ≤ 9223372036854775807))
      generalize (⟨#[255, 255, 255, 255, 255, 255, 255, 255, 255]⟩ : ByteArray) ++ ⟨#[UInt8.ofNat r]⟩ = y3 at ha3 HZF
      generalize hi k ++ ⟨#[UInt8.ofNat r]⟩ ++ x = y2 at ha2 HZX
      generalize hi k ++ ⟨#[UInt8.ofNat r]⟩ = y1 at ha1 ha2 HZ
      have hcv := fun (W : World) => conv_one (W.alloc (.cells #[.int .u8 (r : Int)] 5)) W.heap.size r (by omega) (Bk.cell (Bk.new W 5 #[.int .u8 (r : Int)]) 0)
      have hk11 : (hi k).size ≤ 140737488355328 := by omega
      go_wp2_with (go_at_call 18; refine (mod_any many 12 _ h1 h2 (by omega) (by omega)).mono ?_; rintro e w' ⟨rfl, rfl⟩; rw [hM])
      refine (reads_any x w1 (by omega)).mono ?_
      rintro e w2 ⟨rfl, k2⟩
      replace HK := hide (HK.out.trans' k2)
      clear k2
      go_wp2_with fail
      refine (reads_any (hi k) w2 hk11).mono ?_
      rintro e w3 ⟨rfl, k3⟩
      replace HK := hide (HK.out.trans' k3)
      clear k3
      go_wp2_with fail
      refine (reads_any y1 _ (Nat.le_trans HZ.out (by decide))).mono ?_
      rintro e w4 ⟨rfl, k4⟩
      replace HK := hide ((HK.out.alloc _).trans' k4)
      clear k4
      go_wp2_with fail
      refine (reads_any y2 _ (Nat.le_trans HZX.out (by decide))).mono ?_
      rintro e w5 ⟨rfl, k5⟩
      replace HK := hide ((HK.out.alloc _).trans' k5)
      clear k5
      go_wp2_with fail
      refine (reads_any y3 _ (Nat.le_trans HZF.out (by decide))).mono ?_
      rintro e w6 ⟨rfl, k6⟩
      replace HK := hide ((HK.out.alloc _).trans' k6)
      clear k6
      go_wp2
      go_ret
      exact ⟨rfl, HK.out⟩
end Go.Proofs.Ytbfghecemppoeaa

/- The examples of the chapter: sanity returns true. -/
import Derived.Test.YtbfghecemppoeaaRin
namespace Go.Proofs.Ytbfghecemppoeaa
open Go.RowKit Go.Shelf
theorem read_is (l : List UInt8) (a b c : Int) (w : World) (hs : l.length ≤ 1000) (h : ((readN l).1 : Int) = a ∧ ((readN l).2.1 : Int) = b ∧ (readN l).2.2 = c) : Calls Try.prog 21 #[.string ⟨l.toArray⟩] w fun e w' => e = .returned (.tuple #[.int .u64 a, .int .i64 b, .int .i64 c]) ∧ Keeps [] w w' := by
  obtain ⟨rfl, rfl, rfl⟩ := h
  exact read_bs l w (by omega)
theorem unpack_is (l : List UInt8) (o : List ByteArray) (c : Int) (w : World) (hs : l.length ≤ 1000) (h : unpB l = (o, c)) : Calls Try.prog 30 #[.string ⟨l.toArray⟩] w fun e w' => ∃ A k, e = .returned (.tuple #[.slice A o.length k, .int .i64 c]) ∧ Keeps [] w w' := by
  refine (unpack_any l w (by omega)).mono ?_
  rintro e w' ⟨v, rfl, ho, _, hk⟩
  rw [h] at ho ⊢
  obtain ⟨A, k, rfl⟩ := Own.slice ho
  exact ⟨A, k, rfl, hk⟩
theorem sum_is (l : List UInt8) (a : Int) (w : World) (hs : l.length ≤ 1000) (h : (sumN l : Int) = a) : Calls Try.prog 16 #[.string ⟨l.toArray⟩] w fun e w' => e = .returned (.int .u32 a) ∧ Keeps [] w w' := by
  subst h
  have := sum_any (bs l) w (by rw [bs_size]; omega)
  rw [bs_list] at this
  exact this
theorem number_is (m : Nat) (a : Int) (l : List UInt8) (w : World) (hm : m < 18446744073709551616) (ha : (m : Int) = a) (h : numL m = l) : Calls Try.prog 20 #[.int .u64 a] w fun e w' => e = .returned (.string ⟨l.toArray⟩) ∧ Keeps [] w w' := by
  subst h ha
  refine (number_any m w hm).mono ?_
  rintro e w' ⟨rfl, hb⟩
  exact ⟨rfl, keeps_of_below hb (Nat.le_refl _)⟩
theorem signed_is (n a : Int) (w : World) (h1 : -1000 ≤ n) (h2 : n ≤ 1000) (h : sgn n = a) : Calls Try.prog 24 #[.int .i64 n] w fun e w' => e = .returned (.int .u64 a) ∧ w = w' := by
  subst h
  exact signed_any n w (by omega) (by omega)
theorem unsigned_is (m a : Int) (w : World) (h1 : 0 ≤ m) (h2 : m ≤ 1000) (h : uns m = a) : Calls Try.prog 26 #[.int .u64 m] w fun e w' => e = .returned (.int .i64 a) ∧ w = w' := by
  subst h
  exact unsigned_any m w (by omega) (by omega)
theorem pack_is (l : List ByteArray) (r : List UInt8) (n : Nat) (cs : Array Value) (w : World) (hn : l.length = n) (hcs : cs.toList = ssv l) (hp : packB l = r) (hr : r.length ≤ 1000) (hl : n ≤ 1000) (hz : ∀ s ∈ l, s.size ≤ 1000) :
    Calls Try.prog 29 #[.slice (some ⟨w.heap.size, 0, none⟩) n n] (w.alloc (.cells cs 9)) fun e w' => e = .returned (.string ⟨r.toArray⟩) ∧ Keeps [] w w' := by
  subst hn hp
  have hs := Src.built w 9 cs 1 l.length (by rw [← Array.length_toList, hcs]; simp [ssv]) w.heap.size rfl
  rw [hcs] at hs
  refine (pack_any _ _ l _ hs (by omega) (by omega) (fun s h => by have := hz s h; omega)).mono ?_
  rintro e w' ⟨rfl, hk⟩
  exact ⟨rfl, ((Keeps.refl [] w).alloc _).trans' hk⟩
theorem ints_is (l : List Int) (r : List UInt8) (n : Nat) (cs : Array Value) (w : World) (hn : l.length = n) (hcs : cs.toList = isv l) (hp : intsB l = r) (hr : r.length ≤ 1000) (hl : n ≤ 1000) (hz : ∀ s ∈ l, -1000 ≤ s ∧ s ≤ 1000) :
    Calls Try.prog 34 #[.slice (some ⟨w.heap.size, 0, none⟩) n n] (w.alloc (.cells cs 3)) fun e w' => e = .returned (.string ⟨r.toArray⟩) ∧ Keeps [] w w' := by
  subst hn hp
  have hs := Src.built w 3 cs 1 l.length (by rw [← Array.length_toList, hcs]; simp [isv]) w.heap.size rfl
  rw [hcs] at hs
  refine (ints_any _ _ l _ hs (by omega) (by omega) (fun s h => by have := hz s h; omega)).mono ?_
  rintro e w' ⟨rfl, hk⟩
  exact ⟨rfl, ((Keeps.refl [] w).alloc _).trans' hk⟩
set_option maxHeartbeats 4000000 in
set_option maxRecDepth 100000 in
theorem sanity_any (w : World) : Calls Try.prog 15 #[] w fun e w' => e = .returned (.bool true) ∧ Keeps [] w w' := by
  go_enter Try.func15, Try.ntmps15
  go_wp2_with fail
  refine (read_is [172, 2, 255] 300 2 0 w (by decide) (by decide +kernel)).mono ?_
  rintro e w1 ⟨rfl, k1⟩
  go_wp2_with fail
  refine (read_is [172] 0 0 10 w1 (by decide) (by decide +kernel)).mono ?_
  rintro e w2 ⟨rfl, k2⟩
  have HK2 := hide (k1.trans' k2)
  clear k1 k2
  go_wp2_with fail
  refine (read_is [128, 0] 0 0 11 w2 (by decide) (by decide +kernel)).mono ?_
  rintro e w3 ⟨rfl, k3⟩
  go_wp2_with fail
  refine (unpack_is [1, 3, 97] [] 10 w3 (by decide) (by decide +kernel)).mono ?_
  rintro e w4 ⟨A4, c4, rfl, k4⟩
  have HK4 := hide ((HK2.out.trans' k3).trans' k4)
  clear k3 k4
  go_wp2_with fail
  refine (unpack_is [0, 97] [] 11 w4 (by decide) (by decide +kernel)).mono ?_
  rintro e w5 ⟨A5, c5, rfl, k5⟩
  go_wp2_with fail
  refine (sum_is [49, 50, 51, 52, 53, 54, 55, 56, 57] 3421780262 w5 (by decide) (by decide +kernel)).mono ?_
  rintro e w6 ⟨rfl, k6⟩
  have HK6 := hide ((HK4.out.trans' k5).trans' k6)
  clear k5 k6
  go_wp2_with fail
  refine (number_is 300 300 [172, 2] w6 (by decide) rfl (by decide +kernel)).mono ?_
  rintro e w7 ⟨rfl, k7⟩
  have HK7 := hide (HK6.out.trans' k7)
  clear k7
  go_wp2_with fail
  refine (signed_is (-3) 5 w7 (by decide) (by decide) (by decide)).mono ?_
  rintro e w' ⟨rfl, rfl⟩
  go_wp2_with fail
  refine (unsigned_is 5 (-3) w7 (by decide) (by decide) (by decide)).mono ?_
  rintro e w' ⟨rfl, rfl⟩
  go_wp2_with fail
  refine (pack_is [⟨#[97, 98]⟩, ⟨#[]⟩] [2, 2, 97, 98, 0] 2 _ w7 rfl rfl (by decide +kernel) (by decide) (by decide) (by decide +kernel)).mono ?_
  rintro e w8 ⟨rfl, k8⟩
  have HK8 := hide (HK7.out.trans' k8)
  clear k8
  go_wp2_with fail
  refine (ints_is [1, -1, 64] [3, 2, 1, 128, 1] 3 _ w8 rfl rfl (by decide +kernel) (by decide) (by decide) (by decide +kernel)).mono ?_
  rintro e w9 ⟨rfl, k9⟩
  have HK9 := hide (HK8.out.trans' k9)
  clear k9
  go_wp2
  go_ret
  exact ⟨rfl, HK9.out⟩
end Go.Proofs.Ytbfghecemppoeaa

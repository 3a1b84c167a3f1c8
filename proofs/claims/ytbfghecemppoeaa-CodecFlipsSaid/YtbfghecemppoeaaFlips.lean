/- The law CodecFlips. -/
import Derived.Test.YtbfghecemppoeaaCrc
import Derived.Test.YtbfghecemppoeaaBytes
import Derived.Test.YtbfghecemppoeaaSane
import Derived.Test.YtbfghecemppoeaaPlain
import Derived.Laws.BitsAllLaws
namespace Go.Proofs.Ytbfghecemppoeaa
open Go.RowKit Go.Shelf
theorem byte_wrap (q : Nat) : IntKind.u8.wrap (q : Int) = ((q % 256 : Nat) : Int) := by
  rw [IntKind.wrap_u8']
  simp
theorem bs_set' (l : List UInt8) : (⟨l.toArray⟩ : ByteArray) = bs l := rfl
theorem shift_256 (c k : Nat) : (c : Int) / 2 ^ (8 * (k : Int)).toNat = ((c / 256 ^ k : Nat) : Int) := by
  have h1 : (8 * (k : Int)).toNat = 8 * k := by omega
  have h2 : (2 : Nat) ^ (8 * k) = 256 ^ k := by rw [Nat.pow_mul]
  rw [h1, ← h2]
  simp
theorem byte_xor (b m : Nat) (hb : b < 256) (hm : m < 256) : bits .xor .u8 (b : Int) (m : Int) = ((UInt8.ofNat (b ^^^ m)).toNat : Int) := by
  rw [u8_xor_nat b m hb hm, u8_small _ (xor_b24 (n := 8) hb hm)]
set_option maxHeartbeats 400000 in
set_option maxRecDepth 100000 in
theorem flips_walk (s : ByteArray) (at_ : Int) (ch : Nat) (w : World) (hs : s.size ≤ 140737488351232) (h1 : -9223372036854775808 ≤ at_) (h2 : at_ ≤ 9223372036854775807) (hc : ch < 4294967296) :
    Calls Try.prog 4 #[.string s, .int .i64 at_, .int .u32 (ch : Int)] w fun e w' => e = .returned (.bool true) ∧ Keeps [] w w' := by
  obtain ⟨nt, hnt⟩ : ∃ nt : Nat, nt = min s.size 300 := ⟨_, rfl⟩
  have hn : min (s.size : Int) 300 = (nt : Int) := by omega
  have hn2 : (if (300 : Int) < (s.size : Int) then (300 : Int) else (s.size : Int)) = (nt : Int) := by split <;> omega
  have hns : min nt s.size = nt := by omega
  have z1 : (0 : Int) ≤ (nt : Int) := by omega
  have z2 : (nt : Int) ≤ (s.size : Int) := by omega
  have hnt3 : nt ≤ 300 := by omega
  have hxs : (s.extract 0 nt).size = nt := by rw [ByteArray.size_extract]; omega
  have hadd := fun W => run_string_add_sum (P := Try.prog) (w := W) (s.extract 0 nt) ⟨#[102, 111, 117, 114]⟩ (by have h9 : (⟨#[102, 111, 117, 114]⟩ : ByteArray).size = 4 := rfl; omega)
  have hxz : (s.extract 0 nt ++ ⟨#[102, 111, 117, 114]⟩).size = nt + 4 := by
    have h9 : (⟨#[102, 111, 117, 114]⟩ : ByteArray).size = 4 := rfl
    rw [ByteArray.size_append]; omega
  clear hnt
  generalize s.extract 0 nt ++ ⟨#[102, 111, 117, 114]⟩ = x at hadd hxz
  have hx4 : 4 ≤ x.size := by omega
  have hx3 : x.size ≤ 304 := by omega
  clear hxz hxs
  by_cases h0 : ch = 0
  · subst h0
    go_enter Try.func4, Try.ntmps4
    go_wp2_with fail
    refine (sanity_any w).mono ?_
    rintro e w1 ⟨rfl, k1⟩
    go_wp2
    go_ret
    exact ⟨rfl, k1⟩
  · have H0 := hide (And.intro hc h0)
    have hcz : ((ch : Int) == 0) = false := by simp [h0]
    have hc1 : (0 : Int) ≤ (ch : Int) := by omega
    have hc2 : (ch : Int) < 4294967296 := by omega
    clear h0 hc
    go_enter Try.func4, Try.ntmps4
    go_wp2_with fail
    refine (sanity_any w).mono ?_
    rintro e w1 ⟨rfl, k1⟩
    have HK := hide k1
    clear k1
    obtain ⟨K, hK⟩ : ∃ K : Nat, at_ % ((x.size : Int) - 3) = (K : Int) := ⟨(at_ % ((x.size : Int) - 3)).toNat, by have := Int.emod_nonneg at_ (show (x.size : Int) - 3 ≠ 0 by omega); omega⟩
    have hKx : K + 4 ≤ x.size := by have := Int.emod_lt_of_pos at_ (show (0 : Int) < (x.size : Int) - 3 by omega); omega
    have hK0 : (0 : Int) ≤ (K : Int) := by omega
    have hKz : (K : Int) + 4 ≤ (x.size : Int) := by omega
    have v1 : IntKind.i64.wrap ((x.size : Int) - 3) = (x.size : Int) - 3 := IntWalk.i64_in _ (by omega)
    go_wp2_with fail
    refine (mod_any at_ ((x.size : Int) - 3) w1 h1 h2 (by omega) (by omega)).mono ?_
    rintro e w' ⟨rfl, rfl⟩
    rw [hK]
    clear hK v1 hadd hn hn2 hns z1 z2
    have hcv := Lib.run_convert_string_bytes (P := Try.prog) w1 9 27 5 x Try.underlying9 Try.underlying27 Try.underlying5
    have HY := hide (By.new w1 x)
    have hgl : w.heap.size ≤ w1.heap.size := HK.out.size
    replace HK := hide (HK.out.trans' (keeps_bytes w1 x))
    generalize grownCap w1 x.size 0 5 = cap at hcv
    generalize Lib.bytesWorld w1 5 x = w2 at hcv HY HK
    generalize w1.heap.size = g at hcv HY hgl
    have hll : x.data.toList.length = x.size := Array.length_toList
    generalize hL : x.data.toList = L at HY hll
    have HLL := hide hL
    clear hL
    go_wp2
    clear hcv
    go_loopw [11] (fun s11 wr => ∃ k : Nat, k ≤ 4 ∧ s11 = .int .i64 k ∧ Hid (By wr g (flp L K ch k)) ∧ Hid (Keeps [] w wr)) (fun s11 _ => 4 - (intOf s11).toNat)
    case atStart => exact ⟨0, by omega, rfl, HY, HK⟩
    case round =>
      obtain ⟨k, hk, rfl, HB, HR⟩ := hrel
      by_cases hlt : k < 4
      · have HN := hide (HB.out.set (K + k) (UInt8.ofNat ((L.getD (K + k) 0).toNat ^^^ (ch / 256 ^ k % 256))))
        have hb0 : (flp L K ch k)[K + k]? = some (L.getD (K + k) 0) := by
          rw [flp_ahead L K ch k k (Nat.le_refl _), List.getD, List.getElem?_eq_getElem (by omega)]; rfl
        have d0 : wr.cell? ⟨g, K + k, none⟩ = some (.int .u8 ((L.getD (K + k) 0).toNat : Int)) := HB.out.cell hb0
        have d1 : wr.frozen? ⟨g, K + k, none⟩ = false := HB.out.free (by rw [flp_length]; omega)
        have hm := byte_wrap (ch / 256 ^ k)
        have hb9 := (L.getD (K + k) 0).toNat_lt
        have hm9 : ch / 256 ^ k % 256 < 256 := Nat.mod_lt _ (by omega)
        have hxr := byte_xor _ _ hb9 hm9
        have HNX := hide (show flp L K ch (k + 1) = (flp L K ch k).set (K + k) (UInt8.ofNat ((L.getD (K + k) 0).toNat ^^^ (ch / 256 ^ k % 256))) from rfl)
        generalize UInt8.ofNat ((L.getD (K + k) 0).toNat ^^^ (ch / 256 ^ k % 256)) = nb at HN hxr HNX
        generalize (L.getD (K + k) 0).toNat = ob at d0 hxr hb9
        have s1 := shift_256 ch k
        have s2 : (ch : Int) / 2 ^ min (8 * (k : Int)).toNat 32 = ((ch / 256 ^ k : Nat) : Int) := by rw [Nat.min_eq_left (by omega)]; exact s1
        generalize ch / 256 ^ k % 256 = mb at hm hxr hm9
        generalize ch / 256 ^ k = qb at hm s1 s2
        have v6 : IntKind.i64.wrap (8 * (k : Int)) = 8 * (k : Int) := IntWalk.i64_in _ (by omega)
        have v7 : (0 : Int) ≤ 8 * (k : Int) := by omega
        have v8 : 8 * (k : Int) ≤ 32 := by omega
        have v2 : IntKind.i64.wrap ((K : Int) + (k : Int)) = (K : Int) + (k : Int) := IntWalk.i64_in _ (by omega)
        have v3 : (0 : Int) ≤ (K : Int) + (k : Int) := by omega
        have v4 : ((K : Int) + (k : Int)).toNat = K + k := by omega
        have v5 : (K : Int) + (k : Int) < (x.size : Int) := by omega
        have HRN := hide (HR.out.setCell (p := ⟨g, K + k, none⟩) (.inr hgl) (.int .u8 (nb.toNat : Int)))
        have hltz : (k : Int) < 4 := by omega
        clear hb0
        go_wp2
        have HN2 := hide (show By ((wr.setCell ⟨g, K + k, none⟩ (.int .u8 (nb.toNat : Int))).drew) g (flp L K ch (k + 1)) by rw [HNX.out]; exact HN.out.keep (Keeps.refl [] _).drew (by simp))
        have HRN2 := hide (HRN.out.drew)
        clear HN HRN HNX HB HR
        go_region
        clear d0 d1 hm hxr s1 s2 v2 v3 v4 v5 v6 v7 v8
        go_wp2
        go_roundw
        case measure => simp [intOf]; omega
        case rel => exact ⟨k + 1, by omega, by go_num, HN2, HRN2⟩
      · obtain rfl : k = 4 := by omega
        have hfl := flp_length L K ch 4
        have hne := sumN_flp L K ch (by omega) H0.out.1 H0.out.2
        have hcv2 := run_bytes_str wr (some ⟨g, 0, none⟩) x.size cap (flp L K ch 4) (by rw [hfl]; exact hll) (by
          have h1 := HB.out.src cap
          rw [hfl, hll] at h1
          exact h1)
        rw [bs_set'] at hcv2
        have hc1 := fun (W : World) => sum_any (bs (flp L K ch 4)) W (by rw [bs_size, hfl]; omega)
        have hc2 := fun (W : World) => sum_any x W (by omega)
        rw [bs_list] at hc1
        rw [HLL.out] at hc2
        generalize bs (flp L K ch 4) = t at hcv2 hc1
        generalize sumN (flp L K ch 4) = a at hc1 hne
        generalize sumN L = b at hc2 hne
        have n1 : ((a : Int) != (b : Int)) = true := by simp; omega
        have HC1 := hide hc1
        have HC2 := hide hc2
        clear hne hfl hc1 hc2 hll
        go_wp2_with fail
        refine (HC1.out wr).mono ?_
        rintro e w5 ⟨rfl, k5⟩
        have HR5 := hide (HR.out.trans' k5)
        clear hcv2 k5
        go_wp2_with fail
        refine (HC2.out w5).mono ?_
        rintro e w6 ⟨rfl, k6⟩
        have HR6 := hide (HR5.out.trans' k6)
        clear k6
        go_wp2
        go_ret
        exact ⟨rfl, HR6.out⟩
theorem flips_int (s : ByteArray) (at_ c : Int) (w : World) (hs : s.size ≤ 140737488351232) (h1 : -9223372036854775808 ≤ at_) (h2 : at_ ≤ 9223372036854775807) (c1 : 0 ≤ c) (c2 : c < 4294967296) :
    Calls Try.prog 4 #[.string s, .int .i64 at_, .int .u32 c] w fun e w' => e = .returned (.bool true) ∧ Keeps [] w w' := by
  obtain ⟨n, rfl⟩ := Int.eq_ofNat_of_zero_le c1
  exact flips_walk s at_ n w hs h1 h2 (by omega)
end Go.Proofs.Ytbfghecemppoeaa

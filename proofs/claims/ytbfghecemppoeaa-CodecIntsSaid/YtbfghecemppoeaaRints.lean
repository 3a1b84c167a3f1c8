/- The law CodecReadInts. -/
import Derived.Test.YtbfghecemppoeaaReadsi
import Derived.Test.YtbfghecemppoeaaBytes
import Derived.Test.YtbfghecemppoeaaRintsr
import Derived.Test.YtbfghecemppoeaaSane
import Derived.Test.YtbfghecemppoeaaOpen
namespace Go.Proofs.Ytbfghecemppoeaa
open Go.RowKit Go.Shelf
theorem Src.front {w : World} {sz n c : Nat} {A : Option Addr} {xs : List Value} (h : Src w sz (.slice A n c) n xs) (m : Nat) (hm : m ≤ n) : Src w sz (.slice A m c) m (xs.take (m * sz)) := by
  obtain ⟨hl, A', c', hA, hnil, hc⟩ := h
  injection hA with hA _ hcc
  subst hA hcc
  refine ⟨by rw [List.length_take, hl]; exact Nat.min_eq_left (Nat.mul_le_mul_right _ hm), _, _, rfl, fun h0 => by have := hnil h0; omega, fun ad had j u hu => hc ad had j u ?_⟩
  rw [List.getElem?_take] at hu
  split at hu
  · exact hu
  · cases hu
theorem flat_small_i : ∀ (x : List Int), (∀ n ∈ x, -9223372036854775808 ≤ n ∧ n ≤ 9223372036854775807) → (x.flatMap intL).length ≤ x.length * 10
  | [], _ => by simp
  | n :: x, h => by
    have h1 := flat_small_i x (fun t ht => h t (by simp [ht]))
    obtain ⟨h2, h3⟩ := h n (by simp)
    obtain ⟨h4, h5⟩ := sgn_b n h2 h3
    have h6 := numL_length (sgn n).toNat (by omega)
    rw [List.flatMap_cons, List.length_append, List.length_cons, intL]
    omega
theorem intsB_small (x : List Int) (hl : x.length ≤ 100) (h : ∀ n ∈ x, -9223372036854775808 ≤ n ∧ n ≤ 9223372036854775807) : (intsB x).length ≤ 30000 := by
  have h1 := flat_small_i x h
  have h3 := numL_length x.length (by omega)
  rw [intsB, List.length_append]
  omega
set_option maxHeartbeats 4000000 in
set_option maxRecDepth 100000 in
theorem readints_walk (A : Option Addr) (c : Nat) (l : List Int) (q0 q1 q2 : Int) (tail : ByteArray) (w : World) (H : CameI w A c l) (hq0 : -9223372036854775808 ≤ q0 ∧ q0 ≤ 9223372036854775807) (_hq1 : -9223372036854775808 ≤ q1 ∧ q1 ≤ 9223372036854775807) (hq2 : -9223372036854775808 ≤ q2 ∧ q2 ≤ 9223372036854775807) (ht : tail.size ≤ 140737488351232) :
    Calls Try.prog 14 #[.slice A l.length c, .agg #[.int .i64 q0, .int .i64 q1, .int .i64 q2], .string tail] w fun e w' => e = .returned (.bool true) ∧ Keeps [] w w' := by
  obtain ⟨nt, hnt⟩ : ∃ nt : Nat, nt = min tail.size 30 := ⟨_, rfl⟩
  have hn : min (tail.size : Int) 30 = (nt : Int) := by omega
  have hns : min nt tail.size = nt := by omega
  have z1 : (0 : Int) ≤ (nt : Int) := by omega
  have z2 : (nt : Int) ≤ (tail.size : Int) := by omega
  have HX := hide (show (tail.extract 0 nt).size ≤ 30 by rw [ByteArray.size_extract]; omega)
  obtain ⟨b, hb⟩ : ∃ b : UInt8, IntKind.u8.wrap q1 = (b.toNat : Int) := by
    have h1 : 0 ≤ q1 % 256 := Int.emod_nonneg _ (by omega)
    have h2 : q1 % 256 < 256 := Int.emod_lt_of_pos _ (by omega)
    refine ⟨UInt8.ofNat (q1 % 256).toNat, ?_⟩
    rw [IntKind.wrap_u8', toNat_ofNat _ (by omega)]
    omega
  have HQ := hide (And.intro hq0 hq2)
  have HC := hide (CameI.mk (Src.keep H.s ((Keeps.refl [] w).alloc (.cells #[.int .i64 q0, .int .i64 q1, .int .i64 q2] 50)) (by simp)) H.le H.cm H.sz)
  have HB := hide (Bk.new w 50 #[.int .i64 q0, .int .i64 q1, .int .i64 q2])
  have HK := hide ((Keeps.refl [] w).alloc (.cells #[.int .i64 q0, .int .i64 q1, .int .i64 q2] 50))
  clear hnt H hq0 hq2 ht
  go_enter Try.func14, Try.ntmps14
  go_wp2_with fail
  generalize w.alloc (.cells #[.int .i64 q0, .int .i64 q1, .int .i64 q2] 50) = w0 at HB HK HC ⊢
  refine (sanity_any w0).mono ?_
  rintro e w1 ⟨rfl, k1⟩
  replace HB := hide (HB.out.keep k1 (by simp))
  replace HK := hide (HK.out.trans' k1)
  have HS := hide (show IS w1 (.slice A l.length c) l from Src.keep HC.out.s k1 (by simp))
  have hlc := HC.out.le
  have HZ := hide HC.out.sz
  clear k1 HC
  obtain ⟨mt, hmt⟩ : ∃ mt : Nat, mt = min l.length 40 := ⟨_, rfl⟩
  have hm1 : min (l.length : Int) 40 = (mt : Int) := by omega
  have hm2 : mt ≤ l.length := by omega
  have hm3 : mt ≤ 40 := by omega
  have y1 : (0 : Int) ≤ (mt : Int) := by omega
  have y2 : (mt : Int) ≤ (l.length : Int) := by omega
  have y3 : (mt : Int) ≤ (c : Int) := by omega
  have hxl : (l.take mt).length = mt := by rw [List.length_take]; omega
  have HF := hide (show IS w1 (.slice A (l.take mt).length c) (l.take mt) by
    have h1 := Src.front HS.out mt hm2
    rw [Nat.mul_one] at h1
    rw [hxl]
    show Src w1 1 _ _ _
    rw [isv, List.map_take, hxl]; exact h1)
  have HZ2 := hide (fun n (hn : n ∈ l.take mt) => HZ.out n (List.mem_of_mem_take hn))
  have HP := hide (show (intsB (l.take mt)).length ≤ 30000 from intsB_small _ (by omega) (fun n hn => HZ.out n (List.mem_of_mem_take hn)))
  clear hmt HS HZ
  go_wp2_with fail
  have HR := hide (rints_any A c (l.take mt) w1 HF.out (by have := HP.out; omega) (by omega) HZ2.out)
  rw [hxl] at HR
  refine HR.out.mono ?_
  rintro e w3 ⟨rfl, k3⟩
  replace HB := hide (HB.out.keep k3 (by simp))
  replace HK := hide (HK.out.trans' k3)
  have hs1 : 1 ≤ (bs (intsB (l.take mt))).size := by
    rw [bs_size, intsB, List.length_append]
    have := numL_pos (l.take mt).length
    omega
  have hs2 : (bs (intsB (l.take mt))).size ≤ 30000 := by rw [bs_size]; exact HP.out
  clear k3 HP HF HR HZ2
  generalize bs (intsB (l.take mt)) = s at hs1 hs2 ⊢
  have hcv := Lib.run_convert_string_bytes (P := Try.prog) w3 9 27 5 s Try.underlying9 Try.underlying27 Try.underlying5
  have kb := keeps_bytes w3 s
  have HY := hide (By.new w3 s)
  have hgl := HB.out.lt
  replace HB := hide (HB.out.keep kb (by simp))
  have hg0 : w.heap.size ≤ w3.heap.size := HK.out.size
  replace HK := hide (HK.out.trans' kb)
  clear kb
  generalize grownCap w3 s.size 0 5 = cap at hcv
  generalize Lib.bytesWorld w3 5 s = w4 at hcv HY HB HK
  generalize w3.heap.size = g at hcv HY hg0 hgl
  obtain ⟨K, hK⟩ : ∃ K : Nat, q0 % (s.size : Int) = (K : Int) := ⟨(q0 % (s.size : Int)).toNat, by have := Int.emod_nonneg q0 (show (s.size : Int) ≠ 0 by omega); omega⟩
  have hKz : (K : Int) < (s.size : Int) := by have := Int.emod_lt_of_pos q0 (show (0 : Int) < (s.size : Int) by omega); omega
  have hK0 : (0 : Int) ≤ (K : Int) := by omega
  have hKs : K < s.size := by omega
  obtain ⟨J, hJ⟩ : ∃ J : Nat, q2 % ((s.size : Int) + 1) = (J : Int) := ⟨(q2 % ((s.size : Int) + 1)).toNat, by have := Int.emod_nonneg q2 (show (s.size : Int) + 1 ≠ 0 by omega); omega⟩
  have hJz : (J : Int) ≤ (s.size : Int) := by have := Int.emod_lt_of_pos q2 (show (0 : Int) < (s.size : Int) + 1 by omega); omega
  have hJ0 : (0 : Int) ≤ (J : Int) := by omega
  have hJs : J ≤ s.size := by omega
  have c0 : w4.cell? ⟨w.heap.size, 0, none⟩ = some (.int .i64 q0) := HB.out.cell 0
  have v1 : IntKind.i64.wrap ((s.size : Int) + 1) = (s.size : Int) + 1 := IntWalk.i64_in _ (by omega)
  have hsl : s.data.toList.length = s.size := Array.length_toList
  have c1 : w4.cell? ⟨w.heap.size, 1, none⟩ = some (.int .i64 q1) := HB.out.cell 1
  have d0 : w4.cell? ⟨g, K, none⟩ = some (.int .u8 (s.data.toList[K]'(by omega)).toNat) := HY.out.cell (List.getElem?_eq_getElem (by omega))
  have d1 : w4.frozen? ⟨g, K, none⟩ = false := HY.out.free (by omega)
  have HY2 := hide ((HY.out.set K b).keep (Keeps.refl [] _).drew (by simp))
  have HB2 := hide ((HB.out.far (p := ⟨g, K, none⟩) (by show w.heap.size ≠ g; omega) (.int .u8 (b.toNat : Int))).drew)
  have HK2 := hide ((HK.out.setCell (p := ⟨g, K, none⟩) (.inr hg0) (.int .u8 (b.toNat : Int))).drew)
  have hcv2 := run_bytes_str ((w4.setCell ⟨g, K, none⟩ (.int .u8 (b.toNat : Int))).drew) (some ⟨g, 0, none⟩) s.size cap (s.data.toList.set K b) (by rw [List.length_set]; exact hsl) (by
    have h1 := HY2.out.src cap
    rw [List.length_set, hsl] at h1
    exact h1)
  have hts : (⟨(s.data.toList.set K b).toArray⟩ : ByteArray).size = s.size := by
    show (s.data.toList.set K b).toArray.size = s.size
    rw [List.size_toArray, List.length_set]; exact hsl
  clear HY HB HK
  generalize (⟨(s.data.toList.set K b).toArray⟩ : ByteArray) = t at hcv2 hts
  go_wp2_with fail
  go_region_with (go_at_call 18; refine (mod_any q0 s.size _ HQ.out.1.1 HQ.out.1.2 (by omega) (by omega)).mono ?_; rintro e w5 ⟨rfl, rfl⟩; rw [hK])
  all_goals
    go_wp2_with fail
    clear d0 d1 c1 c0 hK hcv hcv2 hb
    generalize (w4.setCell ⟨g, K, none⟩ (.int .u8 (b.toNat : Int))).drew = w6 at HY2 HB2 HK2 ⊢
    refine (readsints_any t w6 (by omega)).mono ?_
    rintro e w7 ⟨rfl, k7⟩
    have c2 : w7.cell? ⟨w.heap.size, 2, none⟩ = some (.int .i64 q2) := (HB2.out.keep k7 (by simp)).cell 2
    have HK7 := hide (HK2.out.trans' k7)
    clear k7 HY2 HB2 HK2
    go_wp2_with fail
    refine (mod_any q2 ((s.size : Int) + 1) w7 HQ.out.2.1 HQ.out.2.2 (by omega) (by omega)).mono ?_
    rintro e w8 ⟨rfl, rfl⟩
    rw [hJ]
    clear c2 hJ v1
    go_wp2_with fail
    refine (readsints_any (s.extract 0 J) w7 (by rw [ByteArray.size_extract]; omega)).mono ?_
    rintro e w8 ⟨rfl, k8⟩
    have HK8 := hide (HK7.out.trans' k8)
    have hadd := fun W => run_string_add_sum (P := Try.prog) (w := W) s (tail.extract 0 nt) (by have := HX.out; omega)
    have hap : (s ++ tail.extract 0 nt).size ≤ 1000000 := by have := HX.out; rw [ByteArray.size_append]; omega
    clear k8 HK7
    generalize s ++ tail.extract 0 nt = u at hadd hap
    go_wp2_with fail
    refine (readsints_any u w8 (by omega)).mono ?_
    rintro e w9 ⟨rfl, k9⟩
    have HK9 := hide (HK8.out.trans' k9)
    clear k9 HK8 hadd
    go_wp2_with fail
    refine (readsints_any (tail.extract 0 nt) w9 (by have := HX.out; omega)).mono ?_
    rintro e w10 ⟨rfl, k10⟩
    have HK10 := hide (HK9.out.trans' k10)
    clear k10 HK9
    go_wp2
    go_ret
    exact ⟨rfl, HK10.out⟩
end Go.Proofs.Ytbfghecemppoeaa

/- The law CodecShortest. -/
import Derived.Test.YtbfghecemppoeaaBad
import Derived.Test.YtbfghecemppoeaaBytes
import Derived.Test.YtbfghecemppoeaaNumbers
namespace Go.Proofs.Ytbfghecemppoeaa
open Go.RowKit Go.Shelf
theorem bs_set (l : List UInt8) : (⟨l.toArray⟩ : ByteArray) = bs l := rfl
set_option maxHeartbeats 4000000 in
set_option maxRecDepth 100000 in
theorem shortest_walk (n : Nat) (q1 q2 : Int) (w : World) (h0 : n < 18446744073709551616) (h5 : -9223372036854775808 ≤ q1) (h6 : q1 ≤ 9223372036854775807) :
    Calls Try.prog 7 #[.int .u64 (n : Int), .agg #[.int .i64 q1, .int .i64 q2]] w fun e w' => e = .returned (.bool true) ∧ Keeps [] w w' := by
  have HB := hide (Bk.new w 30 #[.int .i64 q1, .int .i64 q2])
  have HK := hide ((Keeps.refl [] w).alloc (.cells #[.int .i64 q1, .int .i64 q2] 30))
  go_enter Try.func7, Try.ntmps7
  go_wp2_with fail
  generalize w.alloc (.cells #[.int .i64 q1, .int .i64 q2] 30) = w0 at HB HK ⊢
  refine (sanity_any w0).mono ?_
  rintro e w1 ⟨rfl, k1⟩
  replace HB := hide (HB.out.keep k1 (by simp))
  replace HK := hide (HK.out.trans' k1)
  clear k1
  have c0 : w1.cell? ⟨w.heap.size, 0, none⟩ = some (.int .i64 q1) := HB.out.cell 0
  have c1 : w1.cell? ⟨w.heap.size, 1, none⟩ = some (.int .i64 q2) := HB.out.cell 1
  go_wp2_with fail
  refine (near_any q1 q2 w1 h5 h6).mono ?_
  rintro e w' ⟨⟨x, hx, rfl⟩, rfl⟩
  clear c0 c1 HB
  have HT := hide (TwoN.of (Bk.new w1 32 #[.int .u64 (n : Int), .int .u64 (x : Int)]) h0 hx)
  replace HK := hide (HK.out.alloc (.cells #[.int .u64 (n : Int), .int .u64 (x : Int)] 32))
  go_wp2
  generalize w1.alloc (.cells #[.int .u64 (n : Int), .int .u64 (x : Int)] 32) = w2 at HT HK ⊢
  generalize w1.heap.size = g at HT ⊢
  go_loopw [7, 8, 9, 10, 11, 12, 13, 14, 15] (fun s7 _ _ _ _ _ _ _ _ wr => ∃ k : Nat, k ≤ 2 ∧ s7 = .int .i64 k ∧ Hid (Keeps [] w2 wr)) (fun s7 _ _ _ _ _ _ _ _ _ => 2 - (intOf s7).toNat)
  case atStart => exact ⟨0, by omega, rfl, hide (Keeps.refl _ _)⟩
  case round =>
    obtain ⟨k, hk, rfl, HR⟩ := hrel
    by_cases hlt : k < 2
    · have hltz : (k : Int) < 2 := by omega
      have hk0 : (0 : Int) ≤ (k : Int) := by omega
      obtain ⟨m, hm, hc⟩ := HT.out.keep HR.out k hlt
      have hml := numL_length m hm
      have hmp := numL_pos m
      obtain ⟨b, hb1, hb2, hb3⟩ := readN_bad m hm
      go_wp2_with fail
      refine (number_any m wr hm).mono ?_
      rintro e w4 ⟨rfl, b4⟩
      have HR4 := hide (HR.out.trans' (keeps_of_below b4 (Nat.le_refl _)))
      clear b4 hc
      obtain ⟨K, hK⟩ : ∃ K, K = (numL m).length - 1 := ⟨_, rfl⟩
      obtain ⟨b', hb'⟩ : ∃ b' : UInt8, b'.toNat = b.toNat + 128 := ⟨UInt8.ofNat (b.toNat + 128), toNat_ofNat _ (by omega)⟩
      have HG := hide (hb3 b' hb')
      rw [← hK] at hb1 HG
      have hsz : (bs (numL m)).size = K + 1 := by rw [bs_size]; omega
      have hln : (numL m).length = (bs (numL m)).size := by rw [bs_size]
      have hidx : (bs (numL m)).data[K]? = some b := by
        rw [← Array.getElem?_toList, bs_list]; exact hb1
      have hne2 : ¬ bs (numL m) = (⟨#[]⟩ : ByteArray) := fun h => by rw [h] at hsz; simp [ByteArray.size] at hsz
      have HY0 := hide (By.new w4 (bs (numL m)))
      rw [bs_list] at HY0
      have htd : (bs ((numL m).set K b')).data.toList = (numL m).set K b' := bs_list _
      have hts : (bs ((numL m).set K b')).size ≤ 20 := by rw [bs_size, List.length_set]; omega
      have HR1 := hide (fun (W : World) => read_any (bs ((numL m).set K b')) W (by omega))
      have HR2 := hide (fun (W : World) => read_any (bs ((numL m).set K b') ++ ⟨#[0]⟩) W (by have h9 : (⟨#[0]⟩ : ByteArray).size = 1 := rfl; rw [ByteArray.size_append]; omega))
      rw [htd] at HR1
      rw [ByteArray.data_append, Array.toList_append, htd] at HR2
      have hadd := fun W => run_string_add_sum (P := Try.prog) (w := W) (bs ((numL m).set K b')) ⟨#[0]⟩ (by have h9 : (⟨#[0]⟩ : ByteArray).size = 1 := rfl; omega)
      have hG2 : (readN ((numL m).set K b' ++ [0])).2.2 = 11 := HG.out.2
      have hG1 := HG.out.1
      clear htd
      generalize readN ((numL m).set K b') = r1 at HR1 hG1
      have hR2' : Hid (∀ (W : World), Calls Try.prog 21 #[.string (bs ((numL m).set K b') ++ ⟨#[0]⟩)] W fun e w' => e = .returned (.tuple #[.int .u64 ((readN ((numL m).set K b' ++ [0])).1 : Int), .int .i64 ((readN ((numL m).set K b' ++ [0])).2.1 : Int), .int .i64 (readN ((numL m).set K b' ++ [0])).2.2]) ∧ Keeps [] W w') := HR2
      clear HR2
      generalize readN ((numL m).set K b' ++ [0]) = r2 at hR2' hG2
      obtain ⟨a1, a2, a3⟩ := r1
      obtain ⟨e1, e2, e3⟩ := r2
      simp only at hG1 hG2 hR2' HR1
      subst hG2
      have he0 : (a3 == 0) = false := by simp [hG1]
      generalize bs ((numL m).set K b') ++ ⟨#[0]⟩ = u at hadd hR2'
      generalize hgc : grownCap w4 (bs (numL m)).size 0 5 = cap
      have hcv := Lib.run_convert_string_bytes (P := Try.prog) w4 9 27 5 (bs (numL m)) Try.underlying9 Try.underlying27 Try.underlying5
      rw [hgc] at hcv
      have HR5 := hide (HR4.out.trans' (keeps_bytes w4 (bs (numL m))))
      have hg5 : w2.heap.size ≤ w4.heap.size := HR4.out.size
      generalize Lib.bytesWorld w4 5 (bs (numL m)) = w5 at hcv HY0 HR5
      clear hgc
      generalize w4.heap.size = g5 at hcv HY0 hg5
      have d0 : w5.cell? ⟨g5, K, none⟩ = some (.int .u8 (b.toNat : Int)) := HY0.out.cell hb1
      have d1 : w5.frozen? ⟨g5, K, none⟩ = false := HY0.out.free (by omega)
      have HY2 := hide (HY0.out.set K b')
      have HR6 := hide (HR5.out.setCell (p := ⟨g5, K, none⟩) (.inr hg5) (.int .u8 (b'.toNat : Int)))
      have hcv2 := run_bytes_str (w5.setCell ⟨g5, K, none⟩ (.int .u8 (b'.toNat : Int))) (some ⟨g5, 0, none⟩) (bs (numL m)).size cap ((numL m).set K b') (by rw [List.length_set]; exact hln) (by
        have h1 := HY2.out.src cap
        rw [List.length_set, hln] at h1
        exact h1)
      rw [bs_set] at hcv2
      have HCV2 := hide (fun (W : World) (hk : Keeps [] (w5.setCell ⟨g5, K, none⟩ (.int .u8 (b'.toNat : Int))) W) => run_bytes_str W (some ⟨g5, 0, none⟩) (bs (numL m)).size cap ((numL m).set K b') (by rw [List.length_set]; exact hln) (by
        have h1 := (HY2.out.keep hk (by simp)).src cap
        rw [List.length_set, hln] at h1
        exact h1))
      rw [bs_set] at HCV2
      have hbi : (b'.toNat : Int) = (b.toNat : Int) + 128 := by omega
      rw [hbi] at hcv2 HCV2 HR6
      clear hbi
      generalize bs ((numL m).set K b') = t at hcv2 HCV2 HR1 hadd hts
      have hK9 : K ≤ 9 := by omega
      clear HY0 HY2 HG hb1 hln hb3 hK hml hmp
      generalize bs (numL m) = s at hcv hcv2 HCV2 hsz hidx hne2 ⊢
      have hKs : K < s.size := by omega
      have hKz : (K : Int) < (s.size : Int) := by omega
      have hK0 : (0 : Int) ≤ (K : Int) := by omega
      have hsk : s[K]'hKs = b := by
        have h1 : s.data[K]? = some (s[K]'hKs) := Array.getElem?_eq_getElem hKs
        rw [hidx] at h1
        injection h1 with h1
        exact h1.symm
      have v1 : IntKind.i64.wrap ((s.size : Int) - 1) = (K : Int) := by rw [IntWalk.i64_in _ (by omega)]; omega
      have g1 : ¬ (127 : Int) < (b.toNat : Int) := by omega
      have g2 : decide (127 < b.toNat) = false := by simp; omega
      have ht2 : ¬ s.toList = [] := fun h => by
        rw [Lib.toList_data] at h
        have h9 : s.data.toList.length = s.size := Array.length_toList
        rw [h] at h9
        simp at h9
        omega
      have hte : s.toList.isEmpty = false := by simpa using ht2
      clear hsz hidx
      go_wp2_with fail
      generalize w5.setCell ⟨g5, K, none⟩ (.int .u8 ((b.toNat : Int) + 128)) = w6 at HCV2 HR6 ⊢
      clear d0 d1 hcv hcv2 hsk
      refine (HR1.out w6).mono ?_
      rintro e w7 ⟨rfl, k7⟩
      have hcv3 := HCV2.out w7 k7
      have HR7 := hide (HR6.out.trans' k7)
      clear k7 HR6 HR1 HCV2
      go_wp2_with fail
      refine (hR2'.out w7).mono ?_
      rintro e w8 ⟨rfl, k8⟩
      have HR8 := hide (HR7.out.trans' k8)
      clear k8 HR7 hR2'
      go_wp2
      go_roundw
      case measure => simp [intOf]; omega
      case rel => exact ⟨k + 1, by omega, by go_num, HR8⟩
    · obtain rfl : k = 2 := by omega
      go_wp2
      go_ret
      exact ⟨rfl, HK.out.trans' HR.out⟩
end Go.Proofs.Ytbfghecemppoeaa

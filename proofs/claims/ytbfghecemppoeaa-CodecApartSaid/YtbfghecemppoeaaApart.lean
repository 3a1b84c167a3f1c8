/- The law CodecApart. -/
import Derived.Test.YtbfghecemppoeaaPacks
import Derived.Test.YtbfghecemppoeaaPre
import Derived.Test.YtbfghecemppoeaaStrs
namespace Go.Proofs.Ytbfghecemppoeaa
open Go.RowKit Go.Shelf
theorem Src.ahead {w : World} {sz n c : Nat} {A : Option Addr} {xs : List Value} (h : Src w sz (.slice A n c) n xs) (m : Nat) (hm : m ≤ n) : Src w sz (.slice A m c) m (xs.take (m * sz)) := by
  obtain ⟨hl, A', c', hA, hnil, hc⟩ := h
  injection hA with hA _ hcc
  subst hA hcc
  refine ⟨by rw [List.length_take, hl]; exact Nat.min_eq_left (Nat.mul_le_mul_right _ hm), _, _, rfl, fun h0 => by have := hnil h0; omega, fun ad had j u hu => hc ad had j u ?_⟩
  rw [List.getElem?_take] at hu
  split at hu
  · exact hu
  · cases hu
theorem packB_wide (x : List ByteArray) (hl : x.length ≤ 90) (h : ∀ s ∈ x, s.size ≤ 700) : (packB x).length ≤ 70000 := by
  have h1 := flat_small x h
  have h3 := numL_length x.length (by omega)
  rw [packB, List.length_append]
  omega
theorem packB_pos (x : List ByteArray) : 0 < (bs (packB x)).size := by
  rw [bs_size, packB, List.length_append]
  have := numL_pos x.length
  omega
theorem extract_all (X : ByteArray) : X.extract 0 X.size = X := by
  have h := bs_front X.data.toList X.size
  have hl : X.data.toList.length = X.size := Array.length_toList
  rw [List.take_of_length_le (by omega), bs_of] at h
  exact h
theorem apart_front {x y : List ByteArray} (hx : x.length ≤ 90) (h : ∀ s ∈ x, s.size ≤ 700) (hy : y.length ≤ 90) (h' : ∀ s ∈ y, s.size ≤ 700) (hne : x ≠ y) (n : Nat) : ¬ (bs (packB y)).extract 0 n = bs (packB x) := fun he => by
  rw [bs_front] at he
  exact hne (pack_begins x y (by omega) (fun s hs => by have := h s hs; omega) (by omega) (fun s hs => by have := h' s hs; omega) n (bs_inj he))
set_option maxHeartbeats 4000000 in
set_option maxRecDepth 100000 in
theorem apart_walk (A : Option Addr) (c : Nat) (l : List ByteArray) (B : Option Addr) (d : Nat) (m : List ByteArray) (q : Int) (w : World) (H : CameS w A c l) (HM : CameS w B d m) (hq1 : -9223372036854775808 ≤ q) (hq2 : q ≤ 9223372036854775807) :
    Calls Try.prog 11 #[.slice A l.length c, .slice B m.length d, .int .i64 q] w fun e w' => e = .returned (.bool true) ∧ Keeps [] w w' := by
  obtain ⟨i0, hi, hz0, hz1, hz2⟩ := info_parts Try.info9b
  have HI := hide (And.intro hi (And.intro hz0 (And.intro hz1 hz2)))
  have HC := hide H
  have HD := hide HM
  clear H HM hi hz0 hz1 hz2
  go_enter Try.func11, Try.ntmps11
  go_wp2_with fail
  refine (sanity_any w).mono ?_
  rintro e w1 ⟨rfl, k1⟩
  have HK1 := hide k1
  have HS := hide (show SS w1 (.slice A l.length c) l from Src.keep HC.out.s k1 (by simp))
  have HT := hide (show SS w1 (.slice B m.length d) m from Src.keep HD.out.s k1 (by simp))
  have hll := Nat.le_trans HC.out.le HC.out.cm
  have hmm := Nat.le_trans HD.out.le HD.out.cm
  have HZ := hide (And.intro HC.out.sz HD.out.sz)
  clear k1 HC HD
  go_wp2_with fail
  refine (some_any A c l 1 w1 HS.out hll HZ.out.1 (by omega) (by omega)).mono ?_
  rintro e w2 ⟨v2, x, rfl, hL, hx, k2⟩
  obtain ⟨A2, c2, rfl⟩ := Own.slice hL.own
  have hcap := (Own.cap hL.own).1
  have hcap2 := (Own.cap hL.own).2
  have HL := hide hL
  have HT2 := hide (show SS w2 (.slice B m.length d) m from Src.keep HT.out k2 (by simp))
  have HK2 := hide (HK1.out.trans' k2)
  have HE := hide (show Own (w2.alloc (.cells #[] 9)) 9 1 (.slice (some ⟨w2.heap.size, 0, none⟩) 0 0) 0 [] from own_of (Bk.new w2 9 #[]) rfl (Nat.le_refl _) (by unfold maxLen; omega) rfl rfl)
  have HN := hide (show New w2 (.slice (some ⟨w2.heap.size, 0, none⟩) 0 0) from fun g hg => by
    have : w2.heap.size = g := by simpa [Value.ownBlock] using hg
    omega)
  have HA := hide ((Keeps.refl [] w2).alloc (.cells #[] 9))
  clear k2 hL HK1 HS HT hll
  obtain ⟨k, hk⟩ : ∃ k : Nat, q % ((x.length : Int) + 1) = (k : Int) := ⟨(q % ((x.length : Int) + 1)).toNat, by have := Int.emod_nonneg q (show (x.length : Int) + 1 ≠ 0 by omega); omega⟩
  have hkx : k ≤ x.length := by have := Int.emod_lt_of_pos q (show (0 : Int) < (x.length : Int) + 1 by omega); omega
  have z0 : (0 : Int) ≤ (k : Int) := by omega
  have z1 : (k : Int) ≤ (c2 : Int) := by omega
  have v1 : IntKind.i64.wrap ((x.length : Int) + 1) = (x.length : Int) + 1 := IntWalk.i64_in _ (by omega)
  have HF := hide (show Src w2 1 (.slice A2 k c2) k (ssv (x.take k)) by
    have h1 := Src.ahead (Own.src HL.out.own) k hkx
    rw [Nat.mul_one] at h1
    rw [ssv, List.map_take]
    exact h1)
  have hlt : (x.take k).length = k := by rw [List.length_take]; omega
  have HLT := hide hlt
  clear hlt
  go_wp2_with fail
  generalize hw3 : w2.alloc (.cells #[] 9) = w3 at HE HA ⊢
  clear hw3
  refine (mod_any q ((x.length : Int) + 1) w3 hq1 hq2 (by omega) (by omega)).mono ?_
  rintro e w' ⟨rfl, rfl⟩
  rw [hk]
  clear v1 hk
  go_wp2_with (with_reducible refine Halt.append ?_)
  refine Halt.on ?_
  refine wpList_append_src _ rfl _ _ _ rfl 9 i0 _ 1 16 Try.underlying43 HI.out.1 HI.out.2.1 HI.out.2.2.1 HI.out.2.2.2 rfl (by omega) (.slice (some ⟨w2.heap.size, 0, none⟩) 0 0) 0 [] rfl HE.out (.slice A2 k c2) k (ssv (x.take k)) rfl (Src.keep HF.out HA.out (by simp)) (ssv_one _) (by unfold maxLen; omega) (by omega) ?_
  intro v4 w4 hown hgrow hblk
  obtain ⟨k4, n4⟩ := step_own HA.out HN.out hgrow hblk
  rw [Nat.zero_add, List.nil_append] at hown
  obtain ⟨A4, c4, rfl⟩ := Own.slice hown
  have HO4 := hide hown
  have HN4 := hide n4
  have HT4 := hide (show SS w4 (.slice B m.length d) m from Src.keep HT2.out k4 (by simp))
  have HK4 := hide k4
  clear hown hgrow hblk k4 n4 HE HA HN HF HT2
  go_wp2_with fail
  refine (some_any B d m 1 w4 HT4.out hmm HZ.out.2 (by omega) (by omega)).mono ?_
  rintro e w5 ⟨v5, y, rfl, hM, hy, k5⟩
  obtain ⟨A5, c5, rfl⟩ := Own.slice hM.own
  have HM := hide hM
  have HO5 := hide (Own.keep HO4.out k5 (by simp))
  have HK5 := hide (HK4.out.trans' k5)
  clear hM k5 HO4 HK4 HT4 HZ hmm
  go_wp2_with (with_reducible refine Halt.append ?_)
  refine Halt.on ?_
  refine wpList_append_src _ rfl _ _ _ rfl 9 i0 _ 1 16 Try.underlying43 HI.out.1 HI.out.2.1 HI.out.2.2.1 HI.out.2.2.2 rfl (by omega) (.slice A4 k c4) k (ssv (x.take k)) rfl HO5.out (.slice A5 y.length c5) y.length (ssv y) rfl (Own.src HM.out.own) (ssv_one _) (by unfold maxLen; omega) (by omega) ?_
  intro v6 w6 hown hgrow hblk
  obtain ⟨k6, n6⟩ := step_own HK5.out HN4.out hgrow hblk
  have HL6 := hide (HL.out.keep k6)
  have HK6 := hide (HK2.out.trans' k6)
  obtain ⟨b, hb⟩ : ∃ b, b = x.take k ++ y := ⟨_, rfl⟩
  have hbl : b.length = k + y.length := by rw [hb, List.length_append, HLT.out]
  have hbz : ∀ s ∈ b, s.size ≤ 700 := fun s hs => by
    rw [hb, List.mem_append] at hs
    rcases hs with hs | hs
    · exact HL6.out.sz s (List.mem_of_mem_take hs)
    · exact HM.out.sz s hs
  rw [← ssv_append, ← hb, ← hbl] at hown
  obtain ⟨A6, c6, rfl⟩ := Own.slice hown
  have HB6 := hide hown
  have hb9 : b.length ≤ 90 := by omega
  have hx9 : x.length ≤ 90 := by omega
  have HZX := hide HL6.out.sz
  have HZB := hide hbz
  have HPX := hide (packB_wide x hx9 HL6.out.sz)
  have HPB := hide (packB_wide b hb9 hbz)
  clear hown hgrow hblk k6 n6 hb hbl hbz HL HM HO5 HN4 HK5 HK2 HLT hkx z0 z1 hy hx
  go_wp2_with fail
  refine (pack_any A2 c2 x w6 (Own.src HL6.out.own) (by have := HPX.out; omega) (by omega) (fun s hs => by have := HZX.out s hs; omega)).mono ?_
  rintro e w7 ⟨rfl, k7⟩
  have HL7 := hide (HL6.out.keep k7)
  have HB7 := hide (Own.keep HB6.out k7 (by simp))
  have HK7 := hide (HK6.out.trans' k7)
  clear k7 HL6 HB6 HK6
  go_wp2_with fail
  refine (pack_any A6 c6 b w7 (Own.src HB7.out) (by have := HPB.out; omega) (by omega) (fun s hs => by have := HZB.out s hs; omega)).mono ?_
  rintro e w8 ⟨rfl, k8⟩
  have HL8 := hide (HL7.out.keep k8)
  have HB8 := hide (Own.keep HB7.out k8 (by simp))
  have HK8 := hide (HK7.out.trans' k8)
  clear k8 HL7 HB7 HK7
  go_wp2_with fail
  refine (strings_any A2 A6 c2 c6 x b w8 (Own.src HL8.out.own) (Own.src HB8.out) (by omega) (by omega)).mono ?_
  rintro e w9 ⟨rfl, k9⟩
  have HK9 := hide (HK8.out.trans' k9)
  clear k9 HL8 HB8 HK8
  have p1 := packB_pos x
  have p2 := packB_pos b
  have HX1 := hide (fun (hne : x ≠ b) (n : Nat) => apart_front hx9 HZX.out hb9 HZB.out hne n)
  have HX2 := hide (fun (hne : b ≠ x) (n : Nat) => apart_front hb9 HZB.out hx9 HZX.out hne n)
  have HEQ := hide (fun (he : x = b) => show bs (packB x) = bs (packB b) by rw [he])
  generalize bs (packB x) = X at p1 HX1 HX2 HEQ ⊢
  generalize bs (packB b) = Y at p2 HX1 HX2 HEQ ⊢
  have q1 : ((X.size : Int) == 0) = false := by rw [beq_eq_false_iff_ne]; omega
  have q2 : ((Y.size : Int) == 0) = false := by rw [beq_eq_false_iff_ne]; omega
  have q3 : ¬ X.size = 0 := by omega
  have q4 : ¬ Y.size = 0 := by omega
  by_cases he : x = b
  · have hXY := HEQ.out he
    subst hXY
    have hd : decide (x = b) = true := by simp [he]
    have ha := extract_all X
    clear he HX1 HX2 HEQ
    go_wp2
    go_ret
    exact ⟨rfl, HK9.out⟩
  · have hd : decide (x = b) = false := by simp [he]
    have ha := HX1.out he X.size
    have hb := HX2.out (fun h => he h.symm) Y.size
    have HA := hide ha
    have HB := hide hb
    have hbb : (false == false) = true := rfl
    clear he HX1 HX2 HEQ ha hb
    have fin : ∀ (P Q : ByteArray), ¬ P = Q → ¬ P.toList = Q.toList := fun P Q h e => h (by
      rw [Lib.toList_data, Lib.toList_data] at e
      exact ByteArray.ext (Array.ext' e))
    have a1 := fin _ _ HA.out
    have b1 := fin _ _ HB.out
    have a2 : ((Y.extract 0 X.size).toList == X.toList) = false := by simp [a1]
    have b2 : ((X.extract 0 Y.size).toList == Y.toList) = false := by simp [b1]
    clear fin
    by_cases hlt : X.size ≤ Y.size
    · have d1 : decide (X.size ≤ Y.size) = true := by simp [hlt]
      have d1' : decide ((X.size : Int) ≤ (Y.size : Int)) = true := by simp; omega
      have dz : (X.size : Int) ≤ (Y.size : Int) := by omega
      by_cases hle : Y.size ≤ X.size
      · have d2 : decide (Y.size ≤ X.size) = true := by simp [hle]
        have d2' : decide ((Y.size : Int) ≤ (X.size : Int)) = true := by simp; omega
        have dz2 : (Y.size : Int) ≤ (X.size : Int) := by omega
        go_wp2
        go_ret
        exact ⟨rfl, HK9.out⟩
      · have d2 : decide (Y.size ≤ X.size) = false := by simp; omega
        have d2' : decide ((Y.size : Int) ≤ (X.size : Int)) = false := by simp; omega
        go_wp2
        go_ret
        exact ⟨rfl, HK9.out⟩
    · have d1 : decide (X.size ≤ Y.size) = false := by simp; omega
      have d1' : decide ((X.size : Int) ≤ (Y.size : Int)) = false := by simp; omega
      have d2 : decide (Y.size ≤ X.size) = true := by simp; omega
      have d2' : decide ((Y.size : Int) ≤ (X.size : Int)) = true := by simp; omega
      have dz2 : (Y.size : Int) ≤ (X.size : Int) := by omega
      go_wp2
      go_ret
      exact ⟨rfl, HK9.out⟩
end Go.Proofs.Ytbfghecemppoeaa

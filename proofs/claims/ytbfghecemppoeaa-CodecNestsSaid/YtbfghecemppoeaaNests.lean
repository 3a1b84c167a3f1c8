/- The law CodecNests. -/
import Derived.Test.YtbfghecemppoeaaPacks
namespace Go.Proofs.Ytbfghecemppoeaa
open Go.RowKit Go.Shelf
theorem pack2 (a b : List UInt8) (ha : a.length ≤ 30000) (hb : b.length ≤ 30000) : (packB [bs a, bs b]).length ≤ 70000 := by
  have h0 := numL_length 2 (by omega)
  have h1 := numL_length a.length (by omega)
  have h2 := numL_length b.length (by omega)
  have h3 : (packB [bs a, bs b]) = numL 2 ++ ((numL (bs a).size ++ (bs a).data.toList) ++ ((numL (bs b).size ++ (bs b).data.toList) ++ [])) := rfl
  rw [h3]
  simp only [List.length_append, bs_size, bs_list, List.length_nil]
  omega
set_option maxHeartbeats 4000000 in
set_option maxRecDepth 100000 in
theorem nests_walk (A : Option Addr) (c : Nat) (l : List ByteArray) (B : Option Addr) (d : Nat) (m : List ByteArray) (n : Nat) (w : World) (H : CameS w A c l) (HM : CameS w B d m) (hn : n < 18446744073709551616) :
    Calls Try.prog 12 #[.slice A l.length c, .slice B m.length d, .int .u64 (n : Int)] w fun e w' => e = .returned (.bool true) ∧ Keeps [] w w' := by
  have HC := hide H
  have HD := hide HM
  clear H HM
  go_enter Try.func12, Try.ntmps12
  go_wp2_with fail
  refine (sanity_any w).mono ?_
  rintro e w1 ⟨rfl, k1⟩
  have HK1 := hide k1
  have HS := hide (show SS w1 (.slice A l.length c) l from Src.keep HC.out.s k1 (by simp))
  have HT := hide (show SS w1 (.slice B m.length d) m from Src.keep HD.out.s k1 (by simp))
  have hll := Nat.le_trans HC.out.le HC.out.cm
  have hmm := Nat.le_trans HD.out.le HD.out.cm
  have HZ := hide (And.intro HC.out.sz HD.out.sz)
  clear k1 HC HD
  go_wp2_with fail
  refine (some_any A c l 1 w1 HS.out hll HZ.out.1 (by omega) (by omega)).mono ?_
  rintro e w2 ⟨v2, x, rfl, hL, hx, k2⟩
  obtain ⟨A2, c2, rfl⟩ := Own.slice hL.own
  have HL := hide hL
  have HT2 := hide (show SS w2 (.slice B m.length d) m from Src.keep HT.out k2 (by simp))
  have HK2 := hide (HK1.out.trans' k2)
  have HBX := hide (packB_small x hx hL.sz)
  have HUX := hide (unpB_packB x (by omega) (fun s hs => by have := hL.sz s hs; omega))
  clear k2 hL HK1 HS HT hll
  go_wp2_with fail
  refine (some_any B d m 2 w2 HT2.out hmm HZ.out.2 (by omega) (by omega)).mono ?_
  rintro e w3 ⟨v3, y, rfl, hM, hy, k3⟩
  obtain ⟨A3, c3, rfl⟩ := Own.slice hM.own
  have HM := hide hM
  replace HL := hide (HL.out.keep k3)
  have HK3 := hide (HK2.out.trans' k3)
  have HBY := hide (packB_small y hy hM.sz)
  have HUY := hide (unpB_packB y (by omega) (fun s hs => by have := hM.sz s hs; omega))
  clear k3 hM HK2 HT2 HZ hmm
  go_wp2_with fail
  refine (number_any n w3 hn).mono ?_
  rintro e w4 ⟨rfl, b4⟩
  have k4 := keeps_of_below b4 (Nat.le_refl _)
  replace HL := hide (HL.out.keep k4)
  replace HM := hide (HM.out.keep k4)
  have HK4 := hide (HK3.out.trans' k4)
  clear b4 k4 HK3
  go_wp2_with fail
  refine (pack_any A2 c2 x w4 (Own.src HL.out.own) (by have := HBX.out; omega) (by omega) (fun s hs => by have := HL.out.sz s hs; omega)).mono ?_
  rintro e w5 ⟨rfl, k5⟩
  replace HL := hide (HL.out.keep k5)
  replace HM := hide (HM.out.keep k5)
  have HK5 := hide (HK4.out.trans' k5)
  clear k5 HK4
  go_wp2_with fail
  refine (pack_any A3 c3 y w5 (Own.src HM.out.own) (by have := HBY.out; omega) (by omega) (fun s hs => by have := HM.out.sz s hs; omega)).mono ?_
  rintro e w6 ⟨rfl, k6⟩
  replace HL := hide (HL.out.keep k6)
  replace HM := hide (HM.out.keep k6)
  have HK6 := hide (HK5.out.trans' k6)
  have HP2 := hide (pack2 _ _ HBX.out HBY.out)
  have HZ2 := hide (show ∀ s ∈ [bs (packB x), bs (packB y)], s.size ≤ 1000000000 by
    intro s hs
    have h1 := HBX.out
    have h2 := HBY.out
    simp only [List.mem_cons, List.not_mem_nil, or_false] at hs
    rcases hs with rfl | rfl <;> rw [bs_size] <;> omega)
  have HU2 := hide (unpB_packB [bs (packB x), bs (packB y)] (show (2 : Nat) < 18446744073709551616 by omega) (fun s hs => by have := HZ2.out s hs; omega))
  have ka := (Keeps.refl [] w6).alloc (.cells #[.string (bs (packB x)), .string (bs (packB y))] 9)
  have HL7 := hide (HL.out.keep ka)
  have HM7 := hide (HM.out.keep ka)
  have HK7 := hide (HK6.out.trans' ka)
  clear k6 HK5 HL HM ka HK6
  go_wp2_with fail
  refine (pack_any (some ⟨w6.heap.size, 0, none⟩) 2 [bs (packB x), bs (packB y)] _ (Src.built w6 9 #[.string (bs (packB x)), .string (bs (packB y))] 1 2 rfl _ rfl) (by have := HP2.out; omega) (show (2 : Nat) ≤ 1000000000 by omega) HZ2.out).mono ?_
  rintro e w8 ⟨rfl, k8⟩
  have HL8 := hide (HL7.out.keep k8)
  have HM8 := hide (HM7.out.keep k8)
  have HK8 := hide (HK7.out.trans' k8)
  clear k8 HL7 HM7 HK7 HZ2
  have hnl := numL_length n hn
  have hnp := numL_pos n
  have hadd := fun W => run_string_add_sum (P := Try.prog) (w := W) (bs (numL n)) (bs (packB [bs (packB x), bs (packB y)])) (by have := HP2.out; rw [bs_size, bs_size]; omega)
  have HRD := hide (readN_numL n hn (packB [bs (packB x), bs (packB y)]))
  have HEX : Hid ((bs (numL n) ++ bs (packB [bs (packB x), bs (packB y)])) = bs (numL n ++ packB [bs (packB x), bs (packB y)])) := hide (bs_ext (by rw [bs_add, bs_list, bs_list]))
  rw [HEX.out] at hadd
  have HSZ := hide (show (bs (numL n ++ packB [bs (packB x), bs (packB y)])).size = (numL n).length + (packB [bs (packB x), bs (packB y)]).length by rw [bs_size, List.length_append])
  have HDR := hide (show (bs (numL n ++ packB [bs (packB x), bs (packB y)])).extract (numL n).length (bs (numL n ++ packB [bs (packB x), bs (packB y)])).size = bs (packB [bs (packB x), bs (packB y)]) by rw [bs_drop, List.drop_left])
  have HRS := hide (fun (W : World) => read_as (bs (numL n ++ packB [bs (packB x), bs (packB y)])) (n : Int) ((numL n).length : Int) 0 W (by have := HP2.out; rw [bs_size, List.length_append]; omega) (by rw [bs_list, HRD.out]; exact ⟨rfl, rfl, rfl⟩))
  clear HEX HRD
  generalize bs (numL n ++ packB [bs (packB x), bs (packB y)]) = s at hadd HSZ HDR HRS
  generalize (numL n).length = nl at hnl hnp HSZ HDR HRS
  go_wp2_with fail
  refine (HRS.out w8).mono ?_
  rintro e w9 ⟨rfl, k9⟩
  have HL9 := hide (HL8.out.keep k9)
  have HM9 := hide (HM8.out.keep k9)
  have HK9 := hide (HK8.out.trans' k9)
  have z0 : (0 : Int) ≤ (nl : Int) := by omega
  have z1 : ¬ (nl : Int) < 1 := by omega
  have z2 : (nl : Int) ≤ (s.size : Int) := by have := HSZ.out; omega
  have z3 : ¬ s.size < nl := by omega
  have z4 : ¬ (s.size : Int) < (nl : Int) := by omega
  have z5 : decide ((nl : Int) < 1) = false := by simp [z1]
  have z6 : decide (s.size < nl) = false := by simp [z3]
  clear k9 HL8 HM8 HK8 HRS HSZ hadd
  go_wp2_with fail
  rw [HDR.out]
  refine (unpack_any (packB [bs (packB x), bs (packB y)]) w9 (by have := HP2.out; omega)).mono ?_
  rw [HU2.out]
  rintro e w10 ⟨v10, rfl, ho10, -, k10⟩
  obtain ⟨A10, c10, rfl⟩ := Own.slice (n := 2) (show Own w10 9 1 v10 2 (ssv [bs (packB x), bs (packB y)]) from ho10)
  obtain ⟨b10, o10, rfl, hcell⟩ := (Own.src (show Own w10 9 1 (.slice A10 2 c10) 2 (ssv [bs (packB x), bs (packB y)]) from ho10)).headN (by omega) (by omega)
  have hc0 : w10.cell? ⟨b10, o10, none⟩ = some (.string (bs (packB x))) := hcell 0 _ rfl
  have HC1 := hide (show w10.cell? ⟨b10, o10 + 1, none⟩ = some (.string (bs (packB y))) from hcell 1 _ rfl)
  have HL10 := hide (HL9.out.keep k10)
  have HM10 := hide (HM9.out.keep k10)
  have HK10 := hide (HK9.out.trans' k10)
  clear k10 HL9 HM9 HK9 ho10 hcell HDR HU2 HP2
  go_wp2_with fail
  refine (unpack_any (packB x) w10 (by have := HBX.out; omega)).mono ?_
  rw [HUX.out]
  rintro e w11 ⟨v11, rfl, ho11, -, k11⟩
  obtain ⟨A11, c11, rfl⟩ := Own.slice ho11
  have HO11 := hide ho11
  have hc1 := k11.cell HC1.out
  have HL11 := hide (HL10.out.keep k11)
  have HM11 := hide (HM10.out.keep k11)
  have HK11 := hide (HK10.out.trans' k11)
  clear k11 HL10 HM10 HK10 ho11 HC1 hc0 HUX
  go_wp2_with fail
  refine (unpack_any (packB y) w11 (by have := HBY.out; omega)).mono ?_
  rw [HUY.out]
  rintro e w12 ⟨v12, rfl, ho12, -, k12⟩
  obtain ⟨A12, c12, rfl⟩ := Own.slice ho12
  have HO12 := hide ho12
  have HO11b := hide (Own.keep HO11.out k12 (by simp))
  have HL12 := hide (HL11.out.keep k12)
  have HM12 := hide (HM11.out.keep k12)
  have HK12 := hide (HK11.out.trans' k12)
  clear k12 HL11 HM11 HK11 ho12 hc1 HUY HO11
  go_wp2_with fail
  refine (strings_same A2 A11 c2 c11 x w12 (Own.src HL12.out.own) (Own.src HO11b.out) (by omega)).mono ?_
  rintro e w13 ⟨rfl, k13⟩
  have HM13 := hide (HM12.out.keep k13)
  have HO13 := hide (Own.keep HO12.out k13 (by simp))
  have HK13 := hide (HK12.out.trans' k13)
  clear k13 HL12 HM12 HK12 HO12 HO11b
  go_wp2_with fail
  refine (strings_same A3 A12 c3 c12 y w13 (Own.src HM13.out.own) (Own.src HO13.out) (by omega)).mono ?_
  rintro e w14 ⟨rfl, k14⟩
  have HK14 := hide (HK13.out.trans' k14)
  clear k14 HM13 HK13 HO13
  go_wp2
  go_ret
  exact ⟨rfl, HK14.out⟩
end Go.Proofs.Ytbfghecemppoeaa

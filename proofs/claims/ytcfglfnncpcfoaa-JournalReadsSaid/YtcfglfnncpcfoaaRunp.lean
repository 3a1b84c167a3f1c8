/- ref.Unpack. -/
import Derived.Test.YtcfglfnncpcfoaaRread
import Derived.Test.YtcfglfnncpcfoaaUnp
namespace Go.Proofs.Ytcfglfnncpcfoaa
open Go.RowKit Go.Shelf
theorem ext_mid (s : ByteArray) (a n : Nat) : s.extract a (a + n) = bs ((s.data.toList.drop a).take n) := bs_ext (by
  rw [bs_list, Lib.extract_data]
  simp [List.take_drop])
set_option maxHeartbeats 4000000 in
set_option maxRecDepth 100000 in
theorem runpack_any (s : ByteArray) (w : World) (hs : s.size ≤ 140737488355328) (hm : (readN s.data.toList).1 ≤ 100000000) :
    Calls Try.prog 59 #[.string s] w fun e w' => ∃ v, e = .returned (.tuple #[v, .int .i64 (unpB s.data.toList).2]) ∧ OS w' v (unpB s.data.toList).1 ∧ New w v ∧ Keeps [] w w' := by
  obtain ⟨i0, hi, hz0, hz1, hz2⟩ := info_parts Try.info9b
  have HI := hide (And.intro hi (And.intro hz0 (And.intro hz1 hz2)))
  clear hi hz0 hz1 hz2
  have hll : s.data.toList.length = s.size := Array.length_toList
  have HX := hide (fun (a : Nat) => show (s.extract a s.size).data.toList = s.data.toList.drop a from Lib.extract_to_end s a)
  have HM := hide (fun (a n : Nat) => ext_mid s a n)
  have HR0 := hide (rread_any s w (by omega))
  obtain ⟨L, hL⟩ : ∃ L, L = s.data.toList := ⟨_, rfl⟩
  rw [← hL] at hll HX HM HR0 hm ⊢
  clear hL
  have hun : unpB L = if (readN L).2.2 ≠ 0 then ([], (readN L).2.2) else goU (readN L).1 (L.drop (readN L).2.1) [] := rfl
  have hlt := readN_lt L
  have hsz := readN_size L
  obtain ⟨⟨many, sz, er⟩, hr⟩ : ∃ r, r = readN L := ⟨_, rfl⟩
  rw [← hr] at hun hlt hsz HR0 hm
  simp only at hun hlt hsz HR0 hm
  have HUN := hide hun
  clear hr hun
  go_enter Try.func59, Try.ntmps59
  go_wp2_with fail
  refine HR0.out.mono ?_
  rintro e w1 ⟨rfl, k1⟩
  have HK1 := hide k1
  clear k1 HR0
  by_cases he : er = 0
  case neg =>
    have he0 : (er != 0) = true := by simp [he]
    have HFF := hide (show unpB L = ([], er) by rw [HUN.out, if_pos he])
    clear HUN he
    go_wp2
    go_ret2
    exact ⟨_, by rw [HFF.out]; rfl, by rw [HFF.out]; exact own_nil9 _, new_nil _, HK1.out⟩
  case pos =>
  subst he
  have HF0 := hide (show unpB L = goU many (L.drop sz) [] by rw [HUN.out, if_neg (by simp)])
  clear HUN
  go_wp2
  go_loopw [5, 7, 8] (fun s5 s7 s8 wr => ∃ (i at' : Nat) (o : List ByteArray), i ≤ many ∧ at' ≤ s.size ∧ s5 = .int .i64 at' ∧ s8 = .int .u64 i ∧ Hid (OS wr s7 o ∧ New w s7 ∧ Keeps [] w wr) ∧ Hid (o.length ≤ i) ∧ Hid (unpB L = goU (many - i) (L.drop at') o)) (fun _ _ s8 _ => many - (intOf s8).toNat)
  case atStart => exact ⟨0, sz, [], Nat.zero_le _, by omega, rfl, rfl, hide ⟨own_nil9 _, new_nil _, HK1.out⟩, hide (by simp), HF0⟩
  case round =>
    obtain ⟨i, p, o, hi, hp, rfl, rfl, HO, HOL, HF⟩ := hrel
    clear HK1 HF0
    have hi0 : (0 : Int) ≤ (i : Int) := by omega
    have hp0 : (0 : Int) ≤ (p : Int) := by omega
    have hpz : (p : Int) ≤ (s.size : Int) := by omega
    obtain ⟨Ao, co, hv⟩ := Own.slice HO.out.1
    subst hv
    by_cases hlt2 : i < many
    · have h1 : (i : Int) < (many : Int) := by omega
      have hd : decide (i < many) = true := by simp [hlt2]
      have HFN := hide (show unpB L = if (stepU (L.drop p) o).2.1 ≠ 0 then ([], (stepU (L.drop p) o).2.1) else goU (many - (i + 1)) (stepU (L.drop p) o).1 (stepU (L.drop p) o).2.2 by
        rw [HF.out, show many - i = (many - (i + 1)) + 1 by omega, goU])
      have HRD := hide (rread_any (s.extract p s.size) wr (by rw [ByteArray.size_extract]; omega))
      rw [HX.out p] at HRD
      have hst : stepU (L.drop p) o = if (readN (L.drop p)).2.2 ≠ 0 then ((L.drop p).drop (readN (L.drop p)).2.1, (readN (L.drop p)).2.2, o)
        else if ((L.drop p).drop (readN (L.drop p)).2.1).length < (readN (L.drop p)).1 then ((L.drop p).drop (readN (L.drop p)).2.1, 10, o)
        else (((L.drop p).drop (readN (L.drop p)).2.1).drop (readN (L.drop p)).1, 0, o ++ [bs (((L.drop p).drop (readN (L.drop p)).2.1).take (readN (L.drop p)).1)]) := rfl
      have hlt3 := readN_lt (L.drop p)
      have hsz3 := readN_size (L.drop p)
      have hsp := readN_spec (L.drop p)
      obtain ⟨⟨n, z, f⟩, hr⟩ : ∃ r, r = readN (L.drop p) := ⟨_, rfl⟩
      rw [← hr] at hst hlt3 hsz3 hsp HRD
      simp only [List.drop_drop, List.length_drop] at hst hlt3 hsz3 hsp HRD
      have HST := hide hst
      clear hst hr HF
      go_wp2_with fail
      refine HRD.out.mono ?_
      rintro e w2 ⟨rfl, k2⟩
      have HK2 := hide (HO.out.2.2.trans' k2)
      have HO2 := hide (And.intro (Own.keep HO.out.1 k2 (by simp)) HO.out.2.1)
      clear k2 HRD HO
      by_cases hf : f = 0
      case neg =>
        have he0 : (f != 0) = true := by simp [hf]
        have HFF := hide (show unpB L = ([], f) by rw [HFN.out, HST.out, if_pos hf, if_pos hf])
        clear HFN HST hf hsp
        go_wp2
        go_ret2
        exact ⟨_, by rw [HFF.out]; rfl, by rw [HFF.out]; exact own_nil9 _, new_nil _, HK2.out⟩
      case pos =>
      subst hf
      have hz1 : 0 < z := by rcases hsp with h | h | h; exact h.2.1; (simp at h); (simp at h)
      rw [if_neg (by simp)] at HST
      clear hsp
      obtain ⟨q, hq⟩ : ∃ q, q = p + z := ⟨_, rfl⟩
      have hqs : q ≤ s.size := by omega
      obtain ⟨t, ht⟩ : ∃ t, t = s.size - q := ⟨_, rfl⟩
      have v1 : IntKind.i64.wrap ((p : Int) + (z : Int)) = (q : Int) := by rw [IntWalk.i64_in _ (by omega)]; omega
      have v2 : IntKind.i64.wrap ((s.size : Int) - (q : Int)) = (t : Int) := by rw [IntWalk.i64_in _ (by omega)]; omega
      have v3 : IntKind.u64.wrap (t : Int) = (t : Int) := by rw [IntKind.wrap_u64]; omega
      rw [← hq, hll] at HST
      by_cases hnt : t < n
      · have g1 : (t : Int) < (n : Int) := by omega
        have g2 : decide (t < n) = true := by simp [hnt]
        have HFF := hide (show unpB L = ([], 10) by
          have ht1 : s.size - q < n := by omega
          rw [HFN.out, HST.out, if_pos ht1]
          exact if_pos (show (10 : Int) ≠ 0 by decide))
        clear HFN HST hq ht
        go_wp2
        go_ret2
        exact ⟨_, by rw [HFF.out]; rfl, by rw [HFF.out]; exact own_nil9 _, new_nil _, HK2.out⟩
      · have g1 : ¬ (t : Int) < (n : Int) := by omega
        have g2 : decide (t < n) = false := by simp; omega
        have v4 : IntKind.i64.wrap (n : Int) = (n : Int) := by rw [IntWalk.i64_in _ (by omega)]
        have v5 : IntKind.i64.wrap ((q : Int) + (n : Int)) = ((q + n : Nat) : Int) := by rw [IntWalk.i64_in _ (by omega)]; omega
        have g3 : (0 : Int) ≤ (q : Int) := by omega
        have g4 : (q : Int) ≤ ((q + n : Nat) : Int) := by omega
        have g5 : ((q + n : Nat) : Int) ≤ (s.size : Int) := by omega
        have g6 : q ≤ q + n := by omega
        have g7 : q + n ≤ s.size := by omega
        have HFF := hide (show unpB L = goU (many - (i + 1)) (L.drop (q + n)) (o ++ [bs ((L.drop q).take n)]) by
          have ht1 : ¬ s.size - q < n := by omega
          rw [HFN.out, HST.out, if_neg ht1]
          simp only [ne_eq, not_true_eq_false, if_false])
        have hqp : p < q := by omega
        have HMM := hide (HM.out q n)
        clear HFN HST hq ht hlt3 hsz3
        generalize hzz : s.extract q (q + n) = zz at HMM
        have hol := HOL.out
        go_wp2_with (with_reducible refine Halt.append ?_)
        refine Halt.on ?_
        have HKA := hide (HK2.out.alloc (.cells #[.string zz] 9))
        refine wpList_append_src _ rfl _ _ _ rfl 9 i0 _ 1 16 Try.underlying41 HI.out.1 HI.out.2.1 HI.out.2.2.1 HI.out.2.2.2 rfl (by omega) (.slice Ao o.length co) _ _ rfl (Own.alloc HO2.out.1 _) (.slice (some ⟨w2.heap.size, 0, none⟩) 1 1) 1 [.string zz] rfl (Src.built w2 9 #[.string zz] 1 1 rfl _ (by simp)) (by simp [Value.oneCell']) (by unfold maxLen; omega) (by omega) ?_
        intro v' w3 hown hgrow hblk
        obtain ⟨hK3, hN3⟩ := step_own HKA.out HO2.out.2 hgrow hblk
        have HO3 := hide (show OS w3 v' (o ++ [zz]) ∧ New w v' ∧ Keeps [] w w3 from ⟨by
          show Own w3 9 1 v' _ _
          rw [ssv_append, List.length_append]
          exact hown, hN3, hK3⟩)
        clear hown hgrow hblk hK3 hN3 HKA HO2 HK2
        go_wp2
        go_roundw
        case measure => simp [intOf]; omega
        case rel => exact ⟨i + 1, q + n, o ++ [zz], by omega, by omega, rfl, by go_num, HO3, hide (by rw [List.length_append, List.length_singleton]; omega), hide (by rw [HMM.out]; exact HFF.out)⟩
    · have h1 : ¬ (i : Int) < (many : Int) := by omega
      have hd : decide (i < many) = false := by simp; omega
      have HFN := hide (show unpB L = if L.drop p = [] then (o, 0) else ([], 11) by rw [HF.out, show many - i = 0 by omega, goU])
      clear HF
      by_cases hpl : p < s.size
      · have g1 : (p : Int) < (s.size : Int) := by omega
        have HFF := hide (show unpB L = ([], 11) by rw [HFN.out, if_neg (by rw [List.drop_eq_nil_iff]; omega)])
        clear HFN
        go_wp2
        go_ret2
        exact ⟨_, by rw [HFF.out]; rfl, by rw [HFF.out]; exact own_nil9 _, new_nil _, HO.out.2.2⟩
      · have g1 : ¬ (p : Int) < (s.size : Int) := by omega
        have HFF := hide (show unpB L = (o, 0) by rw [HFN.out, if_pos (by rw [List.drop_eq_nil_iff]; omega)])
        clear HFN
        go_wp2
        go_ret2
        exact ⟨_, by rw [HFF.out]; rfl, by rw [HFF.out]; exact HO.out.1, HO.out.2.1, HO.out.2.2⟩
end Go.Proofs.Ytcfglfnncpcfoaa

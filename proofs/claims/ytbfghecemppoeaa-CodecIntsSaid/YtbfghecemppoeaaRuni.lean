/- ref.ReadInts. -/
import Derived.Test.YtbfghecemppoeaaRread
import Derived.Test.YtbfghecemppoeaaRin
import Derived.Test.YtbfghecemppoeaaSigns
namespace Go.Proofs.Ytbfghecemppoeaa
open Go.RowKit Go.Shelf
set_option maxHeartbeats 4000000 in
set_option maxRecDepth 100000 in
theorem runi_any (s : ByteArray) (w : World) (hs : s.size ≤ 1000000000) :
    Calls Try.prog 46 #[.string s] w fun e w' => ∃ v, e = .returned (.tuple #[v, .int .i64 (readI s.data.toList).2]) ∧ OInt w' v (readI s.data.toList).1 ∧ New w v ∧ Keeps [] w w' := by
  obtain ⟨i0, hi, hz0, hz1, hz2⟩ := info_parts Try.info3b
  have HI := hide (And.intro hi (And.intro hz0 (And.intro hz1 hz2)))
  clear hi hz0 hz1 hz2
  have hll : s.data.toList.length = s.size := Array.length_toList
  have HX := hide (fun (a : Nat) => show (s.extract a s.size).data.toList = s.data.toList.drop a from Lib.extract_to_end s a)
  have HR0 := hide (rread_any s w (by omega))
  obtain ⟨L, hL⟩ : ∃ L, L = s.data.toList := ⟨_, rfl⟩
  rw [← hL] at hll HX HR0 ⊢
  clear hL
  have hun : readI L = if (readN L).2.2 ≠ 0 then ([], (readN L).2.2) else goI (readN L).1 (L.drop (readN L).2.1) [] := rfl
  have hlt := readN_lt L
  have hsz := readN_size L
  obtain ⟨⟨many, sz, er⟩, hr⟩ : ∃ r, r = readN L := ⟨_, rfl⟩
  rw [← hr] at hun hlt hsz HR0
  simp only at hun hlt hsz HR0
  have HUN := hide hun
  clear hr hun
  go_enter Try.func46, Try.ntmps46
  go_wp2_with fail
  refine HR0.out.mono ?_
  rintro e w1 ⟨rfl, k1⟩
  have HK1 := hide k1
  clear k1 HR0
  by_cases he : er = 0
  case neg =>
    have he0 : (er != 0) = true := by simp [he]
    have HFF := hide (show readI L = ([], er) by rw [HUN.out, if_pos he])
    clear HUN he
    go_wp2
    go_ret2
    exact ⟨_, by rw [HFF.out]; rfl, by rw [HFF.out]; exact own_nil3 _, new_nil _, HK1.out⟩
  case pos =>
  subst he
  have HF0 := hide (show readI L = goI many (L.drop sz) [] by rw [HUN.out, if_neg (by simp)])
  clear HUN
  go_wp2
  go_loopw [5, 7, 8] (fun s5 s7 s8 wr => ∃ (i at' : Nat) (o : List Int), i ≤ many ∧ at' ≤ s.size ∧ s5 = .int .i64 at' ∧ s8 = .int .u64 i ∧ Hid (OInt wr s7 o ∧ New w s7 ∧ Keeps [] w wr) ∧ Hid (o.length ≤ at') ∧ Hid (readI L = goI (many - i) (L.drop at') o)) (fun _ _ s8 _ => many - (intOf s8).toNat)
  case atStart => exact ⟨0, sz, [], Nat.zero_le _, by omega, rfl, rfl, hide ⟨own_nil3 _, new_nil _, HK1.out⟩, hide (by simp), HF0⟩
  case round =>
    obtain ⟨i, p, o, hi, hp, rfl, rfl, HO, HOL, HF⟩ := hrel
    clear HK1 HF0
    have hi0 : (0 : Int) ≤ (i : Int) := by omega
    have hp0 : (0 : Int) ≤ (p : Int) := by omega
    have hpz : (p : Int) ≤ (s.size : Int) := by omega
    obtain ⟨Ao, co, hv⟩ := Own.slice HO.out.1
    subst hv
    by_cases hlt2 : i < many
    · have h1 : (i : Int) < (many : Int) := by omega
      have hd : decide (i < many) = true := by simp [hlt2]
      have HFN := hide (show readI L = if (readN (L.drop p)).2.2 ≠ 0 then ([], (readN (L.drop p)).2.2) else goI (many - (i + 1)) ((L.drop p).drop (readN (L.drop p)).2.1) (o ++ [uns (readN (L.drop p)).1]) by
        rw [HF.out, show many - i = (many - (i + 1)) + 1 by omega, goI])
      have HRD := hide (rread_any (s.extract p s.size) wr (by rw [ByteArray.size_extract]; omega))
      rw [HX.out p] at HRD
      have hlt3 := readN_lt (L.drop p)
      have hsz3 := readN_size (L.drop p)
      have hsp := readN_spec (L.drop p)
      obtain ⟨⟨n, z, f⟩, hr⟩ : ∃ r, r = readN (L.drop p) := ⟨_, rfl⟩
      rw [← hr] at hlt3 hsz3 hsp HRD HFN
      simp only [List.drop_drop, List.length_drop] at hlt3 hsz3 hsp HRD HFN
      clear hr HF
      go_wp2_with fail
      refine HRD.out.mono ?_
      rintro e w2 ⟨rfl, k2⟩
      have HK2 := hide (HO.out.2.2.trans' k2)
      have HO2 := hide (And.intro (Own.keep HO.out.1 k2 (by simp)) HO.out.2.1)
      clear k2 HRD HO
      by_cases hf : f = 0
      case neg =>
        have he0 : (f != 0) = true := by simp [hf]
        have HFF := hide (show readI L = ([], f) by rw [HFN.out, if_pos hf])
        clear HFN hf hsp
        go_wp2
        go_ret2
        exact ⟨_, by rw [HFF.out]; rfl, by rw [HFF.out]; exact own_nil3 _, new_nil _, HK2.out⟩
      case pos =>
      subst hf
      have hz1 : 0 < z := by rcases hsp with h | h | h; exact h.2.1; (simp at h); (simp at h)
      rw [if_neg (by simp)] at HFN
      clear hsp
      obtain ⟨q, hq⟩ : ∃ q, q = p + z := ⟨_, rfl⟩
      have hqs : q ≤ s.size := by omega
      have hqp : p < q := by omega
      have v1 : IntKind.i64.wrap ((p : Int) + (z : Int)) = (q : Int) := by rw [IntWalk.i64_in _ (by omega)]; omega
      rw [← hq] at HFN
      have hol := HOL.out
      clear hq hsz3
      go_wp2_with fail
      refine (runsigned_any (n : Int) w2 (by omega) (by omega)).mono ?_
      rintro e w2' ⟨rfl, rfl⟩
      generalize uns (n : Int) = zz at HFN
      have HFF := HFN
      go_wp2_with (with_reducible refine Halt.append ?_)
      refine Halt.on ?_
      have HKA := hide (HK2.out.alloc (.cells #[.int .i64 zz] 3))
      refine wpList_append_src _ rfl _ _ _ rfl 3 i0 _ 1 8 Try.underlying54 HI.out.1 HI.out.2.1 HI.out.2.2.1 HI.out.2.2.2 rfl (by omega) (.slice Ao o.length co) _ _ rfl (Own.alloc HO2.out.1 _) (.slice (some ⟨w2.heap.size, 0, none⟩) 1 1) 1 [.int .i64 zz] rfl (Src.built w2 3 #[.int .i64 zz] 1 1 rfl _ (by simp)) (by simp [Value.oneCell']) (by unfold maxLen; omega) (by omega) ?_
      intro v' w3 hown hgrow hblk
      obtain ⟨hK3, hN3⟩ := step_own HKA.out HO2.out.2 hgrow hblk
      have HO3 := hide (show OInt w3 v' (o ++ [zz]) ∧ New w v' ∧ Keeps [] w w3 from ⟨by
        show Own w3 3 1 v' _ _
        rw [isv_append, List.length_append]
        exact hown, hN3, hK3⟩)
      clear hown hgrow hblk hK3 hN3 HKA HO2 HK2
      go_wp2
      go_roundw
      case measure => simp [intOf]; omega
      case rel => exact ⟨i + 1, q, o ++ [zz], by omega, by omega, rfl, by go_num, HO3, hide (by rw [List.length_append, List.length_singleton]; omega), hide HFF.out⟩
    · have h1 : ¬ (i : Int) < (many : Int) := by omega
      have hd : decide (i < many) = false := by simp; omega
      have HFN := hide (show readI L = if L.drop p = [] then (o, 0) else ([], 11) by rw [HF.out, show many - i = 0 by omega, goI])
      clear HF
      by_cases hpl : p < s.size
      · have g1 : (p : Int) < (s.size : Int) := by omega
        have HFF := hide (show readI L = ([], 11) by rw [HFN.out, if_neg (by rw [List.drop_eq_nil_iff]; omega)])
        clear HFN
        go_wp2
        go_ret2
        exact ⟨_, by rw [HFF.out]; rfl, by rw [HFF.out]; exact own_nil3 _, new_nil _, HO.out.2.2⟩
      · have g1 : ¬ (p : Int) < (s.size : Int) := by omega
        have HFF := hide (show readI L = (o, 0) by rw [HFN.out, if_pos (by rw [List.drop_eq_nil_iff]; omega)])
        clear HFN
        go_wp2
        go_ret2
        exact ⟨_, by rw [HFF.out]; rfl, by rw [HFF.out]; exact HO.out.1, HO.out.2.1, HO.out.2.2⟩
end Go.Proofs.Ytbfghecemppoeaa

/- slices.BinarySearchFunc, as Settle calls it. -/
import Derived.Test.YtcfglfnncpcfoaaSrt
import Derived.Test.YtcfglfnncpcfoaaLd
namespace Go.Proofs.Ytcfglfnncpcfoaa
open Go.RowKit
set_option maxHeartbeats 1000000 in
set_option maxRecDepth 100000 in
theorem bst_any (A : Option Addr) (c : Nat) (L : List Ev) (x : Int) (w : World) (hL : L.length ≤ 1000000) (hs : ES w (.slice A L.length c) L) (hm : Mono (fun z => decide (z.t ≤ x)) L) :
    Calls Try.prog 49 #[.slice A L.length c, .int .i64 x, .func (.func 50) #[] #[]] w fun r w' => r = .returned (.tuple #[.int .i64 (cutN (fun z => decide (z.t ≤ x)) L : Int), .bool false]) ∧ Keeps [] w w' := by
  have HK := hide (Keeps.refl [] w)
  have HS := hide hs
  have HM := hide hm
  clear hs hm
  go_enter Try.func49, Try.ntmps49
  go_wp2
  go_loopw [9, 10, 11] (fun s9 s10 _ wr => ∃ i j : Nat, i ≤ j ∧ j ≤ L.length ∧ s9 = .int .i64 i ∧ s10 = .int .i64 j ∧ Hid (∀ m, m < i → (h : m < L.length) → decide (L[m].t ≤ x) = true) ∧ Hid (∀ m, j ≤ m → (h : m < L.length) → decide (L[m].t ≤ x) = false) ∧ Hid (Keeps [] w wr)) (fun s9 s10 _ _ => (intOf s10).toNat - (intOf s9).toNat)
  case atStart => exact ⟨0, L.length, Nat.zero_le _, Nat.le_refl _, rfl, rfl, hide (fun m h => by omega), hide (fun m h1 h2 => by omega), HK⟩
  case round =>
    obtain ⟨i, j, hij, hj, rfl, rfl, HI, HJ, HR⟩ := hrel
    by_cases hlt : i < j
    · have hltz : (i : Int) < (j : Int) := by omega
      obtain ⟨h, hh⟩ : ∃ h : Nat, ((i : Int) + (j : Int)) / 2 = (h : Int) := ⟨(i + j) / 2, by omega⟩
      have hhi : i ≤ h := by omega
      have hhj : h < j := by omega
      have hhL : h < L.length := by omega
      have hhz : (h : Int) < (L.length : Int) := by omega
      have hh0 : (0 : Int) ≤ (h : Int) := by omega
      obtain ⟨b, o, rfl, hcell⟩ := (Src.keep HS.out HR.out (by simp)).headN (by omega) (by omega)
      have HE := hide (show EvAt wr b (o + h * 18) L[h] from evAt_of hcell h hhL)
      clear hcell
      have HLO := hide (fun (hp : L[h].t ≤ x) (m : Nat) (hm : m < h + 1) (hml : m < L.length) => show decide (L[m].t ≤ x) = true from by
        by_cases he : m = h
        · subst he; exact decide_eq_true hp
        · exact HM.out m h (by omega) hhL hml (decide_eq_true hp))
      have HHI := hide (fun (hp : ¬ L[h].t ≤ x) (m : Nat) (hm : h ≤ m) (hml : m < L.length) => show decide (L[m].t ≤ x) = false from by
        by_cases he : m = h
        · subst he; exact decide_eq_false hp
        · cases hq : decide (L[m].t ≤ x) with
          | false => rfl
          | true =>
            have := HM.out h m (by omega) hml hhL hq
            exact absurd (of_decide_eq_true this) hp)
      have HC := hide (fun (W : World) => settle1_ev L[h] x W)
      generalize L[h] = q at HE HLO HHI HC
      obtain ⟨cm, hcm⟩ : ∃ cm : Int, cm = if x < q.t then 1 else -1 := ⟨_, rfl⟩
      rw [← hcm] at HC
      have HCE := hide hcm
      clear hcm
      go_wp2_with (with_reducible refine Halt.load ?_)
      refine Halt.on ?_
      refine wpList_load_ev rfl _ rfl b (o + h * 18) q rfl HE.out ?_
      have HRD := hide (HR.out)
      clear HE hh
      by_cases hp : q.t ≤ x
      · have hn : cm < 0 := by rw [HCE.out, if_neg (by omega)]; omega
        have hnd : decide (cm < 0) = true := by simp; omega
        have HNX := hide (HLO.out (by omega))
        clear HLO HHI hp
        go_wp2_with fail
        refine (HC.out _).mono ?_
        rintro r w2 ⟨rfl, k2⟩
        have HR2 := hide (HRD.out.trans' k2)
        clear k2
        go_wp2
        go_roundw
        case measure => simp [intOf]; omega
        case rel => exact ⟨h + 1, j, by omega, hj, by go_num, rfl, HNX, HJ, HR2⟩
      · have hn : ¬ cm < 0 := by rw [HCE.out, if_pos (by omega)]; omega
        have hnd : decide (cm < 0) = false := by simp; omega
        have HNX := hide (HHI.out (by omega))
        clear HLO HHI hp
        go_wp2_with fail
        refine (HC.out _).mono ?_
        rintro r w2 ⟨rfl, k2⟩
        have HR2 := hide (HRD.out.trans' k2)
        clear k2
        go_wp2
        go_roundw
        case measure => simp [intOf]; omega
        case rel => exact ⟨i, h, hhi, by omega, rfl, rfl, HI, HNX, HR2⟩
    · obtain rfl : i = j := by omega
      have hltz : ¬ (i : Int) < (i : Int) := by omega
      have HP := hide (show cutN (fun z => decide (z.t ≤ x)) L = i from cutN_of (fun z => decide (z.t ≤ x)) L i (parts_of (fun z => decide (z.t ≤ x)) L i hj HI.out HJ.out))
      by_cases hin : i < L.length
      · have hiz : (i : Int) < (L.length : Int) := by omega
        have hi0 : (0 : Int) ≤ (i : Int) := by omega
        have hd1 : decide (i < L.length) = true := by simp [hin]
        obtain ⟨b, o, rfl, hcell⟩ := (Src.keep HS.out HR.out (by simp)).headN (by omega) (by omega)
        have HE := hide (show EvAt wr b (o + i * 18) L[i] from evAt_of hcell i hin)
        clear hcell
        have HC := hide (fun (W : World) => settle1_ev L[i] x W)
        generalize L[i] = q at HE HC
        obtain ⟨cm, hcm⟩ : ∃ cm : Int, cm = if x < q.t then 1 else -1 := ⟨_, rfl⟩
        rw [← hcm] at HC
        have hcz : (cm == 0) = false := by rw [beq_eq_false_iff_ne, hcm]; split <;> omega
        clear hcm
        go_wp2_with (with_reducible refine Halt.load ?_)
        refine Halt.on ?_
        refine wpList_load_evG (by rfl) _ rfl b (o + i * 18) q rfl HE.out ?_
        go_wp2_with fail
        refine (HC.out _).mono ?_
        rintro r w2 ⟨rfl, k2⟩
        have HK2 := hide (HR.out.trans' k2)
        clear k2
        go_wp2
        go_ret2
        refine ⟨?_, HK2.out⟩
        rw [HP.out]
        rfl
      · have hiz : ¬ (i : Int) < (L.length : Int) := by omega
        have hd1 : decide (i < L.length) = false := by simp [hin]
        go_wp2
        go_ret2
        refine ⟨?_, HR.out⟩
        rw [HP.out]
        rfl
end Go.Proofs.Ytcfglfnncpcfoaa

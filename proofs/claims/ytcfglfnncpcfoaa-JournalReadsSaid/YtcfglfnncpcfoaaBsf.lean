/- slices.BinarySearchFunc, as Take calls it. -/
import Derived.Test.YtcfglfnncpcfoaaSrt
import Derived.Test.YtcfglfnncpcfoaaLd
namespace Go.Proofs.Ytcfglfnncpcfoaa
open Go.RowKit
theorem cmpS_eqb (a b c x y z : Int) : (cmpS a b c x y z == 0) = decide (a = x ∧ b = y ∧ c = z) := by
  have h := cmpS_zero a b c x y z
  by_cases k : a = x ∧ b = y ∧ c = z
  · rw [h.2 k, decide_eq_true k]; rfl
  · rw [decide_eq_false k, beq_eq_false_iff_ne]; exact mt h.1 k
theorem fnd_at (L : List Ev) (e : Ev) (k : Nat) (h : k < L.length) : fnd L e k = decide (eqE L[k] e) := by
  unfold fnd
  rw [List.getElem?_eq_getElem h]
theorem fnd_end (L : List Ev) (e : Ev) (k : Nat) (h : ¬ k < L.length) : fnd L e k = false := by
  unfold fnd
  rw [List.getElem?_eq_none (by omega)]
set_option maxHeartbeats 1000000 in
set_option maxRecDepth 100000 in
theorem bsf_any (A : Option Addr) (c : Nat) (L : List Ev) (e : Ev) (w : World) (hL : L.length ≤ 1000000) (hs : ES w (.slice A L.length c) L) (hm : Mono (fun x => decide (ltE x e)) L) :
    Calls Try.prog 45 #[.slice A L.length c, sv e.t e.s e.n, .func (.func 46) #[] #[]] w fun r w' => r = .returned (.tuple #[.int .i64 (rank L e : Int), .bool (fnd L e (rank L e))]) ∧ Keeps [] w w' := by
  have HB := hide (Bk.new w 23 #[.int .i64 e.t, .int .i64 e.s, .int .i64 e.n])
  have HK := hide ((Keeps.refl [] w).alloc (.cells #[.int .i64 e.t, .int .i64 e.s, .int .i64 e.n] 23))
  have HS := hide hs
  have HM := hide hm
  clear hs hm
  unfold sv
  go_enter Try.func45, Try.ntmps45
  go_wp2
  go_loopw [9, 10, 11] (fun s9 s10 _ wr => ∃ i j : Nat, i ≤ j ∧ j ≤ L.length ∧ s9 = .int .i64 i ∧ s10 = .int .i64 j ∧ Hid (∀ m, m < i → (h : m < L.length) → decide (ltE L[m] e) = true) ∧ Hid (∀ m, j ≤ m → (h : m < L.length) → decide (ltE L[m] e) = false) ∧ Hid (Bk wr w.heap.size 23 #[.int .i64 e.t, .int .i64 e.s, .int .i64 e.n]) ∧ Hid (Keeps [] w wr)) (fun s9 s10 _ _ => (intOf s10).toNat - (intOf s9).toNat)
  case atStart => exact ⟨0, L.length, Nat.zero_le _, Nat.le_refl _, rfl, rfl, hide (fun m h => by omega), hide (fun m h1 h2 => by omega), HB, HK⟩
  case round =>
    obtain ⟨i, j, hij, hj, rfl, rfl, HI, HJ, HBR, HR⟩ := hrel
    by_cases hlt : i < j
    · have hltz : (i : Int) < (j : Int) := by omega
      obtain ⟨h, hh⟩ : ∃ h : Nat, ((i : Int) + (j : Int)) / 2 = (h : Int) := ⟨(i + j) / 2, by omega⟩
      have hhi : i ≤ h := by omega
      have hhj : h < j := by omega
      have hhL : h < L.length := by omega
      have hhz : (h : Int) < (L.length : Int) := by omega
      have hh0 : (0 : Int) ≤ (h : Int) := by omega
      obtain ⟨b, o, rfl, hcell⟩ := (Src.keep HS.out HR.out (by simp)).headN (by omega) (by omega)
      have HE := hide (show EvAt wr b (o + h * 18) L[h] from evAt_of hcell h hhL)
      clear hcell
      have HLO := hide (fun (hp : ltE L[h] e) (m : Nat) (hm : m < h + 1) (hml : m < L.length) => show decide (ltE L[m] e) = true from by
        by_cases he : m = h
        · subst he; exact decide_eq_true hp
        · exact HM.out m h (by omega) hhL hml (decide_eq_true hp))
      have HHI := hide (fun (hp : ¬ ltE L[h] e) (m : Nat) (hm : h ≤ m) (hml : m < L.length) => show decide (ltE L[m] e) = false from by
        by_cases he : m = h
        · subst he; exact decide_eq_false hp
        · cases hq : decide (ltE L[m] e) with
          | false => rfl
          | true =>
            have := HM.out h m (by omega) hml hhL hq
            exact absurd (of_decide_eq_true this) hp)
      have HC := hide (fun (W : World) => take1_ev L[h] e.t e.s e.n W)
      have HCE := hide (cmpS_neg L[h].t L[h].s L[h].n e.t e.s e.n)
      generalize L[h] = q at HE HLO HHI HC HCE
      generalize cmpS q.t q.s q.n e.t e.s e.n = cm at HC HCE
      go_wp2
      refine wp_region_still_tail 6 (by kernel_rfl) (by kernel_rfl) ?_
      simp only [List.take_succ_cons, List.take_zero, List.drop_succ_cons, List.drop_zero]
      change wpStill _ _ wr.drew _ _ _
      change wpStill _ _ _ (fun a' => wpList _ _ _ _ a' wr.drew) _ _
      have HRD := hide (HR.out.drew)
      have HBD := hide (show Bk wr.drew w.heap.size 23 #[.int .i64 e.t, .int .i64 e.s, .int .i64 e.n] from HBR.out)
      have HED := hide (HE.out.keep (Keeps.refl [] wr).drew)
      generalize wr.drew = wd at HRD HBD HED ⊢
      clear hh HE
      iterate 4 still_step
      refine wpStill_load_ev _ _ _ q rfl (by rfl) (by rfl) HED.out ?_
      have d0 := HBD.out.cell 0
      have d1 := HBD.out.cell 1
      have d2 := HBD.out.cell 2
      simp at d0 d1 d2
      still_step
      refine wpStill_nil ?_
      clear d0 d1 d2 HED
      by_cases hp : ltE q e
      · have hn : cm < 0 := HCE.out.2 hp
        have hnd : decide (cm < 0) = true := by simp; omega
        have HNX := hide (HLO.out hp)
        clear HLO HHI hp
        go_wp2_with fail
        refine (HC.out _).mono ?_
        rintro r w2 ⟨rfl, k2⟩
        have HB2 := hide (HBD.out.keep k2 (by simp))
        have HR2 := hide (HRD.out.trans' k2)
        clear k2
        go_wp2
        go_roundw
        case measure => simp [intOf]; omega
        case rel => exact ⟨h + 1, j, by omega, hj, by go_num, rfl, HNX, HJ, HB2, HR2⟩
      · have hn : ¬ cm < 0 := mt HCE.out.1 hp
        have hnd : decide (cm < 0) = false := by simp; omega
        have HNX := hide (HHI.out hp)
        clear HLO HHI hp
        go_wp2_with fail
        refine (HC.out _).mono ?_
        rintro r w2 ⟨rfl, k2⟩
        have HB2 := hide (HBD.out.keep k2 (by simp))
        have HR2 := hide (HRD.out.trans' k2)
        clear k2
        go_wp2
        go_roundw
        case measure => simp [intOf]; omega
        case rel => exact ⟨i, h, hhi, by omega, rfl, rfl, HI, HNX, HB2, HR2⟩
    · obtain rfl : i = j := by omega
      have hltz : ¬ (i : Int) < (i : Int) := by omega
      have HP := hide (show rank L e = i from cutN_of (fun x => decide (ltE x e)) L i (parts_of (fun x => decide (ltE x e)) L i hj HI.out HJ.out))
      by_cases hin : i < L.length
      · have hiz : (i : Int) < (L.length : Int) := by omega
        have hi0 : (0 : Int) ≤ (i : Int) := by omega
        have hd1 : decide (i < L.length) = true := by simp [hin]
        obtain ⟨b, o, rfl, hcell⟩ := (Src.keep HS.out HR.out (by simp)).headN (by omega) (by omega)
        have HE := hide (show EvAt wr b (o + i * 18) L[i] from evAt_of hcell i hin)
        clear hcell
        have HF := hide (fnd_at L e i hin)
        have HC := hide (fun (W : World) => take1_ev L[i] e.t e.s e.n W)
        have HQ := hide (show (cmpS L[i].t L[i].s L[i].n e.t e.s e.n == 0) = decide (eqE L[i] e) from cmpS_eqb _ _ _ _ _ _)
        generalize L[i] = q at HE HC HQ HF
        generalize cmpS q.t q.s q.n e.t e.s e.n = cm at HC HQ
        generalize decide (eqE q e) = r at HQ HF
        go_wp2
        have hcq : (cm == 0) = r := HQ.out
        have HT := hide (StAt.box HBR.out)
        refine wp_region_held_drew (S := (fun w' => Hid (Keeps [] wr w'))) (by kernel_rfl) (hide (Keeps.refl [] wr).drew) (fun hS => ?_)
        refine wpAnyH_take (i := 0) (oi := { dst := some 35, op := _, type := _, pos := _, after := _, guard := _ }) (v := ?_) rfl (by kernel_rfl) (by kernel_rfl) (by kernel_rfl) (fun _ _ _ h => h) (Or.inl ⟨by rfl, ?_⟩) hS ?_
        rotate_left
        · (intro w' hSw; go_simp; try with_reducible rfl)
        simp only [Act.put, List.setIfInBounds_toArray, List.set_cons_zero, List.set_cons_succ]
        refine wpAnyH_take (i := 1) (oi := { dst := some 36, op := _, type := _, pos := _, after := _, guard := _ }) (v := ?_) rfl (by kernel_rfl) (by kernel_rfl) (by kernel_rfl) (fun _ _ _ h => h) (Or.inl ⟨by rfl, ?_⟩) hS ?_
        rotate_left
        · (intro w' hSw; go_simp; try with_reducible rfl)
        simp only [Act.put, List.setIfInBounds_toArray, List.set_cons_zero, List.set_cons_succ]
        refine wpAnyH_take (i := 2) (oi := { dst := some 37, op := _, type := _, pos := _, after := _, guard := _ }) (v := ?_) rfl (by kernel_rfl) (by kernel_rfl) (by kernel_rfl) (fun _ _ _ h => h) (Or.inl ⟨by rfl, ?_⟩) hS ?_
        rotate_left
        · (intro w' hSw; go_simp; try with_reducible rfl)
        simp only [Act.put, List.setIfInBounds_toArray, List.set_cons_zero, List.set_cons_succ]
        refine wpAnyH_take (i := 3) (oi := { dst := some 38, op := _, type := _, pos := _, after := _, guard := _ }) (v := ?_) rfl (by kernel_rfl) (by kernel_rfl) (by kernel_rfl) (fun _ _ _ h => h) (Or.inl ⟨by rfl, ?_⟩) hS ?_
        rotate_left
        · (intro w' hSw; go_simp; try with_reducible rfl)
        simp only [Act.put, List.setIfInBounds_toArray, List.set_cons_zero, List.set_cons_succ]
        refine wpAnyH_take (i := 4) (oi := { dst := some 39, op := _, type := _, pos := _, after := _, guard := _ }) (v := ?_) rfl (by kernel_rfl) (by kernel_rfl) (by kernel_rfl) (fun _ _ _ h => h) (Or.inl ⟨by rfl, ?_⟩) hS ?_
        rotate_left
        · (intro w' hSw; go_simp; try with_reducible rfl)
        simp only [Act.put, List.setIfInBounds_toArray, List.set_cons_zero, List.set_cons_succ]
        refine wpAnyH_take (i := 5) (oi := { dst := some 40, op := _, type := _, pos := _, after := _, guard := _ }) (v := ?_) rfl (by kernel_rfl) (by kernel_rfl) (by kernel_rfl) (fun _ _ _ h => h) (Or.inl ⟨by rfl, ?_⟩) hS ?_
        rotate_left
        · (intro w' hSw; go_simp; try with_reducible rfl)
        simp only [Act.put, List.setIfInBounds_toArray, List.set_cons_zero, List.set_cons_succ]
        refine wpAnyH_take (i := 6) (oi := { dst := some 41, op := _, type := _, pos := _, after := _, guard := _ }) (v := ?_) rfl (by kernel_rfl) (by kernel_rfl) (by kernel_rfl) (fun _ _ _ h => h) (Or.inl ⟨by rfl, ?_⟩) hS ?_
        rotate_left
        · (intro w' hSw; go_simp; try with_reducible rfl)
        simp only [Act.put, List.setIfInBounds_toArray, List.set_cons_zero, List.set_cons_succ]
        refine wpAnyH_take (i := 7) (oi := { dst := some 42, op := _, type := _, pos := _, after := _, guard := _ }) (v := ?_) rfl (by kernel_rfl) (by kernel_rfl) (by kernel_rfl) (fun _ _ _ h => h) (Or.inl ⟨by rfl, ?_⟩) hS ?_
        rotate_left
        · (intro w' hSw; go_simp; try with_reducible rfl)
        simp only [Act.put, List.setIfInBounds_toArray, List.set_cons_zero, List.set_cons_succ]
        refine wpAnyH_take (i := 8) (oi := { dst := some 43, op := _, type := _, pos := _, after := _, guard := _ }) (v := ?_) rfl (by kernel_rfl) (by kernel_rfl) (by kernel_rfl) (fun _ _ _ h => h) (Or.inl ⟨by rfl, ?_⟩) hS ?_
        rotate_left
        · (intro w' hSw; go_simp; try with_reducible rfl)
        simp only [Act.put, List.setIfInBounds_toArray, List.set_cons_zero, List.set_cons_succ]
        refine wpAnyH_take (i := 9) (oi := { dst := some 44, op := _, type := _, pos := _, after := _, guard := _ }) rfl (by kernel_rfl) (by kernel_rfl) (by kernel_rfl) (fun _ _ _ h => h) (yl_ev _ b (o + i * 18) q rfl (by rfl) (by rfl) (fun _ h => HE.out.keep h.out)) hS ?_
        simp only [Act.put, List.setIfInBounds_toArray, List.set_cons_zero, List.set_cons_succ]
        refine wpAnyH_take (i := 10) (oi := { dst := some 45, op := _, type := _, pos := _, after := _, guard := _ }) rfl (by kernel_rfl) (by kernel_rfl) (by kernel_rfl) (fun _ _ _ h => h) (yl_st _ w.heap.size 0 e.t e.s e.n rfl (by rfl) (by rfl) (fun _ h => HT.out.keep h.out)) hS ?_
        simp only [Act.put, List.setIfInBounds_toArray, List.set_cons_zero, List.set_cons_succ]
        refine wpAnyH_ready (rs := [11]) (by kernel_rfl) (by simp) ?_
        refine AllReadyH.cons (o := { dst := some 46, op := _, type := _, pos := _, after := _, guard := _ }) rfl (fun K hK => ?_) AllReadyH.nil
        go_simp
        refine (HC.out _).mono ?_
        rintro r2 w2 ⟨rfl, k2⟩
        refine hK.out _ _ (hide (hS.out.trans' k2)) (fun hS => ?_)
        clear hK K
        refine wpAnyH_take (i := 12) (oi := { dst := some 47, op := _, type := _, pos := _, after := _, guard := _ }) (v := ?_) rfl (by kernel_rfl) (by kernel_rfl) (by kernel_rfl) (fun _ _ _ h => h) (Or.inl ⟨by rfl, ?_⟩) hS ?_
        rotate_left
        · (intro w' hSw; go_simp; try with_reducible rfl)
        simp only [Act.put, List.setIfInBounds_toArray, List.set_cons_zero, List.set_cons_succ]
        refine wpAnyH_take (i := 13) (oi := { dst := some 48, op := _, type := _, pos := _, after := _, guard := _ }) (v := ?_) rfl (by kernel_rfl) (by kernel_rfl) (by kernel_rfl) (fun _ _ _ h => h) (Or.inl ⟨by rfl, ?_⟩) hS ?_
        rotate_left
        · (intro w' hSw; go_simp; try with_reducible rfl)
        simp only [Act.put, List.setIfInBounds_toArray, List.set_cons_zero, List.set_cons_succ]
        refine wpAnyH_take (i := 14) (oi := { dst := some 6, op := _, type := _, pos := _, after := _, guard := _ }) (v := ?_) rfl (by kernel_rfl) (by kernel_rfl) (by kernel_rfl) (fun _ _ _ h => h) (Or.inl ⟨by rfl, ?_⟩) hS ?_
        rotate_left
        · (intro w' hSw; go_simp; try with_reducible rfl)
        simp only [Act.put, List.setIfInBounds_toArray, List.set_cons_zero, List.set_cons_succ]
        refine wpAnyH_take (i := 15) (oi := { dst := some 7, op := _, type := _, pos := _, after := _, guard := _ }) (v := ?_) rfl (by kernel_rfl) (by kernel_rfl) (by kernel_rfl) (fun _ _ _ h => h) (Or.inl ⟨by rfl, ?_⟩) hS ?_
        rotate_left
        · (intro w' hSw; go_simp; try with_reducible rfl)
        simp only [Act.put, List.setIfInBounds_toArray, List.set_cons_zero, List.set_cons_succ]
        refine wpAnyH_done (by kernel_rfl) ?_ _
        have HK2 := hide (HR.out.trans' hS.out)
        go_wp2
        go_ret2
        refine ⟨?_, HK2.out⟩
        rw [HP.out, HF.out]
        rfl
      · have hiz : ¬ (i : Int) < (L.length : Int) := by omega
        have hd1 : decide (i < L.length) = false := by simp [hin]
        have HF := hide (fnd_end L e i hin)
        have HRD := hide (HR.out.drew)
        go_wp2
        refine wp_region_held_drew (S := (fun w' => Hid (Keeps [] wr w'))) (by kernel_rfl) (hide (Keeps.refl [] wr).drew) (fun hS => ?_)
        refine wpAnyH_take (i := 0) (oi := { dst := some 35, op := _, type := _, pos := _, after := _, guard := _ }) (v := ?_) rfl (by kernel_rfl) (by kernel_rfl) (by kernel_rfl) (fun _ _ _ h => h) (Or.inl ⟨by rfl, ?_⟩) hS ?_
        rotate_left
        · (intro w' hSw; go_simp; try with_reducible rfl)
        simp only [Act.put, List.setIfInBounds_toArray, List.set_cons_zero, List.set_cons_succ]
        refine wpAnyH_take (i := 1) (oi := { dst := some 36, op := _, type := _, pos := _, after := _, guard := _ }) (v := ?_) rfl (by kernel_rfl) (by kernel_rfl) (by kernel_rfl) (fun _ _ _ h => h) (Or.inl ⟨by rfl, ?_⟩) hS ?_
        rotate_left
        · (intro w' hSw; go_simp; try with_reducible rfl)
        simp only [Act.put, List.setIfInBounds_toArray, List.set_cons_zero, List.set_cons_succ]
        refine wpAnyH_take (i := 2) (oi := { dst := some 37, op := _, type := _, pos := _, after := _, guard := _ }) (v := ?_) rfl (by kernel_rfl) (by kernel_rfl) (by kernel_rfl) (fun _ _ _ h => h) (Or.inl ⟨by rfl, ?_⟩) hS ?_
        rotate_left
        · (intro w' hSw; go_simp; try with_reducible rfl)
        simp only [Act.put, List.setIfInBounds_toArray, List.set_cons_zero, List.set_cons_succ]
        refine wpAnyH_take (i := 3) (oi := { dst := some 38, op := _, type := _, pos := _, after := _, guard := _ }) (v := ?_) rfl (by kernel_rfl) (by kernel_rfl) (by kernel_rfl) (fun _ _ _ h => h) (Or.inl ⟨by rfl, ?_⟩) hS ?_
        rotate_left
        · (intro w' hSw; go_simp; try with_reducible rfl)
        simp only [Act.put, List.setIfInBounds_toArray, List.set_cons_zero, List.set_cons_succ]
        refine wpAnyH_take (i := 4) (oi := { dst := some 39, op := _, type := _, pos := _, after := _, guard := _ }) (v := ?_) rfl (by kernel_rfl) (by kernel_rfl) (by kernel_rfl) (fun _ _ _ h => h) (Or.inl ⟨by rfl, ?_⟩) hS ?_
        rotate_left
        · (intro w' hSw; go_simp; try with_reducible rfl)
        simp only [Act.put, List.setIfInBounds_toArray, List.set_cons_zero, List.set_cons_succ]
        refine wpAnyH_take (i := 5) (oi := { dst := some 40, op := _, type := _, pos := _, after := _, guard := _ }) (v := undef) rfl (by kernel_rfl) (by kernel_rfl) (by kernel_rfl) (fun _ _ _ h => h) (Or.inr ⟨by rfl, rfl⟩) hS ?_
        simp only [Act.put, List.setIfInBounds_toArray, List.set_cons_zero, List.set_cons_succ]
        refine wpAnyH_take (i := 6) (oi := { dst := some 41, op := _, type := _, pos := _, after := _, guard := _ }) (v := undef) rfl (by kernel_rfl) (by kernel_rfl) (by kernel_rfl) (fun _ _ _ h => h) (Or.inr ⟨by rfl, rfl⟩) hS ?_
        simp only [Act.put, List.setIfInBounds_toArray, List.set_cons_zero, List.set_cons_succ]
        refine wpAnyH_take (i := 7) (oi := { dst := some 42, op := _, type := _, pos := _, after := _, guard := _ }) (v := undef) rfl (by kernel_rfl) (by kernel_rfl) (by kernel_rfl) (fun _ _ _ h => h) (Or.inr ⟨by rfl, rfl⟩) hS ?_
        simp only [Act.put, List.setIfInBounds_toArray, List.set_cons_zero, List.set_cons_succ]
        refine wpAnyH_take (i := 8) (oi := { dst := some 43, op := _, type := _, pos := _, after := _, guard := _ }) (v := undef) rfl (by kernel_rfl) (by kernel_rfl) (by kernel_rfl) (fun _ _ _ h => h) (Or.inr ⟨by rfl, rfl⟩) hS ?_
        simp only [Act.put, List.setIfInBounds_toArray, List.set_cons_zero, List.set_cons_succ]
        refine wpAnyH_take (i := 9) (oi := { dst := some 44, op := _, type := _, pos := _, after := _, guard := _ }) (v := undef) rfl (by kernel_rfl) (by kernel_rfl) (by kernel_rfl) (fun _ _ _ h => h) (Or.inr ⟨by rfl, rfl⟩) hS ?_
        simp only [Act.put, List.setIfInBounds_toArray, List.set_cons_zero, List.set_cons_succ]
        refine wpAnyH_take (i := 10) (oi := { dst := some 45, op := _, type := _, pos := _, after := _, guard := _ }) (v := undef) rfl (by kernel_rfl) (by kernel_rfl) (by kernel_rfl) (fun _ _ _ h => h) (Or.inr ⟨by rfl, rfl⟩) hS ?_
        simp only [Act.put, List.setIfInBounds_toArray, List.set_cons_zero, List.set_cons_succ]
        refine wpAnyH_take (i := 11) (oi := { dst := some 46, op := _, type := _, pos := _, after := _, guard := _ }) (v := undef) rfl (by kernel_rfl) (by kernel_rfl) (by kernel_rfl) (fun _ _ _ h => h) (Or.inr ⟨by rfl, rfl⟩) hS ?_
        simp only [Act.put, List.setIfInBounds_toArray, List.set_cons_zero, List.set_cons_succ]
        refine wpAnyH_take (i := 12) (oi := { dst := some 47, op := _, type := _, pos := _, after := _, guard := _ }) (v := undef) rfl (by kernel_rfl) (by kernel_rfl) (by kernel_rfl) (fun _ _ _ h => h) (Or.inr ⟨by rfl, rfl⟩) hS ?_
        simp only [Act.put, List.setIfInBounds_toArray, List.set_cons_zero, List.set_cons_succ]
        refine wpAnyH_take (i := 13) (oi := { dst := some 48, op := _, type := _, pos := _, after := _, guard := _ }) (v := ?_) rfl (by kernel_rfl) (by kernel_rfl) (by kernel_rfl) (fun _ _ _ h => h) (Or.inl ⟨by rfl, ?_⟩) hS ?_
        rotate_left
        · (intro w' hSw; go_simp; try with_reducible rfl)
        simp only [Act.put, List.setIfInBounds_toArray, List.set_cons_zero, List.set_cons_succ]
        refine wpAnyH_take (i := 14) (oi := { dst := some 6, op := _, type := _, pos := _, after := _, guard := _ }) (v := ?_) rfl (by kernel_rfl) (by kernel_rfl) (by kernel_rfl) (fun _ _ _ h => h) (Or.inl ⟨by rfl, ?_⟩) hS ?_
        rotate_left
        · (intro w' hSw; go_simp; try with_reducible rfl)
        simp only [Act.put, List.setIfInBounds_toArray, List.set_cons_zero, List.set_cons_succ]
        refine wpAnyH_take (i := 15) (oi := { dst := some 7, op := _, type := _, pos := _, after := _, guard := _ }) (v := ?_) rfl (by kernel_rfl) (by kernel_rfl) (by kernel_rfl) (fun _ _ _ h => h) (Or.inl ⟨by rfl, ?_⟩) hS ?_
        rotate_left
        · (intro w' hSw; go_simp; try with_reducible rfl)
        simp only [Act.put, List.setIfInBounds_toArray, List.set_cons_zero, List.set_cons_succ]
        refine wpAnyH_done (by kernel_rfl) ?_ _
        go_wp2
        go_ret2
        refine ⟨?_, HRD.out⟩
        rw [HP.out, HF.out]
        rfl
end Go.Proofs.Ytcfglfnncpcfoaa

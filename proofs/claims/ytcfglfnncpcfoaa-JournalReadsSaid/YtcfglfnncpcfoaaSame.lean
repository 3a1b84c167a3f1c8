/- The reference's Same. -/
import Derived.Test.YtcfglfnncpcfoaaEqv
namespace Go.Proofs.Ytcfglfnncpcfoaa
open Go.RowKit
theorem same_step {L M : List Ev} {k : Nat} (h1 : k < L.length) (h2 : k < M.length) (ht : L.take k = M.take k) (he : L[k] = M[k]) : L.take (k + 1) = M.take (k + 1) := by
  rw [List.take_succ_eq_append_getElem h1, List.take_succ_eq_append_getElem h2, ht, he]
theorem same_not {L M : List Ev} {k : Nat} (h1 : k < L.length) (h2 : k < M.length) (he : L[k] ≠ M[k]) : L ≠ M := fun e => he (by subst e; rfl)
set_option maxHeartbeats 1000000 in
set_option maxRecDepth 100000 in
theorem same_any (A A' : Option Addr) (c c' : Nat) (L M : List Ev) (w : World) (hL : L.length ≤ 100000) (hM : M.length ≤ 100000) (hs : ES w (.slice A L.length c) L) (hs' : ES w (.slice A' M.length c') M) :
    Calls Try.prog 24 #[.slice A L.length c, .slice A' M.length c'] w fun r w' => r = .returned (.bool (decide (L = M))) ∧ Keeps [] w w' := by
  by_cases hlen : L.length = M.length
  · have HLN := hide hlen
    have hne : (L.length != M.length) = false := by simp [hlen]
    have hne' : ((L.length : Int) != (M.length : Int)) = false := by simp [hlen]
    clear hlen
    go_enter Try.func24, Try.ntmps24
    go_wp2
    go_loopw [5] (fun s5 wr => ∃ k : Nat, k ≤ L.length ∧ s5 = .int .i64 k ∧ Hid (L.take k = M.take k) ∧ Hid (Keeps [] w wr)) (fun s5 _ => L.length - (intOf s5).toNat)
    case atStart => exact ⟨0, Nat.zero_le _, rfl, rfl, hide (Keeps.refl _ _)⟩
    case round =>
      obtain ⟨k, hk, rfl, HN, HK⟩ := hrel
      clear hne hne'
      have hk0 : (0 : Int) ≤ (k : Int) := by omega
      by_cases hlt : k < L.length
      · have hltM : k < M.length := by rw [← HLN.out]; exact hlt
        have hltz : (k : Int) < (L.length : Int) := by omega
        have hltz' : (k : Int) < (M.length : Int) := by omega
        obtain ⟨b, o, rfl, hcell⟩ := (Src.keep hs HK.out (by simp)).headN (by omega) (by omega)
        obtain ⟨b', o', rfl, hcell'⟩ := (Src.keep hs' HK.out (by simp)).headN (by omega) (by omega)
        have HX := hide (evAt_of hcell k hlt)
        have HY := hide (evAt_of hcell' k hltM)
        have HS1 := hide (fun e => same_step hlt hltM HN.out e)
        have HS2 := hide (fun e => same_not (L := L) (M := M) hlt hltM e)
        clear hcell hcell'
        generalize L[k] = x at HX HS1 HS2
        generalize M[k] = y at HY HS1 HS2
        obtain ⟨r, hr⟩ : ∃ r : Bool, (!decide (x = y)) = r := ⟨_, rfl⟩
        have HRR := hide hr
        clear hr
        go_wp2
        refine wp_region_held_drew (S := (fun w' => Hid (Keeps [] wr w'))) (by kernel_rfl) (hide (Keeps.refl [] wr).drew) (fun hS => ?_)
        refine wpAnyH_take (i := 0) (oi := { dst := some 17, op := _, type := _, pos := _, after := _, guard := _ }) (v := ?_) rfl (by kernel_rfl) (by kernel_rfl) (by kernel_rfl) (fun _ _ _ h => h) (Or.inl ⟨by rfl, ?_⟩) hS ?_
        rotate_left
        · (intro w' hSw; go_simp; try with_reducible rfl)
        simp only [Act.put, List.setIfInBounds_toArray, List.set_cons_zero, List.set_cons_succ]
        refine wpAnyH_take (i := 1) (oi := { dst := some 18, op := _, type := _, pos := _, after := _, guard := _ }) (v := ?_) rfl (by kernel_rfl) (by kernel_rfl) (by kernel_rfl) (fun _ _ _ h => h) (Or.inl ⟨by rfl, ?_⟩) hS ?_
        rotate_left
        · (intro w' hSw; go_simp; try with_reducible rfl)
        simp only [Act.put, List.setIfInBounds_toArray, List.set_cons_zero, List.set_cons_succ]
        refine wpAnyH_take (i := 2) (oi := { dst := some 19, op := _, type := _, pos := _, after := _, guard := _ }) (v := ?_) rfl (by kernel_rfl) (by kernel_rfl) (by kernel_rfl) (fun _ _ _ h => h) (Or.inl ⟨by rfl, ?_⟩) hS ?_
        rotate_left
        · (intro w' hSw; go_simp; try with_reducible rfl)
        simp only [Act.put, List.setIfInBounds_toArray, List.set_cons_zero, List.set_cons_succ]
        refine wpAnyH_take (i := 3) (oi := { dst := some 20, op := _, type := _, pos := _, after := _, guard := _ }) rfl (by kernel_rfl) (by kernel_rfl) (by kernel_rfl) (fun _ _ _ h => h) (yl_ev _ b (o + k * 18) x rfl (by rfl) (by rfl) (fun _ h => HX.out.keep h.out)) hS ?_
        simp only [Act.put, List.setIfInBounds_toArray, List.set_cons_zero, List.set_cons_succ]
        refine wpAnyH_take (i := 4) (oi := { dst := some 21, op := _, type := _, pos := _, after := _, guard := _ }) (v := ?_) rfl (by kernel_rfl) (by kernel_rfl) (by kernel_rfl) (fun _ _ _ h => h) (Or.inl ⟨by rfl, ?_⟩) hS ?_
        rotate_left
        · (intro w' hSw; go_simp; try with_reducible rfl)
        simp only [Act.put, List.setIfInBounds_toArray, List.set_cons_zero, List.set_cons_succ]
        refine wpAnyH_take (i := 5) (oi := { dst := some 22, op := _, type := _, pos := _, after := _, guard := _ }) (v := ?_) rfl (by kernel_rfl) (by kernel_rfl) (by kernel_rfl) (fun _ _ _ h => h) (Or.inl ⟨by rfl, ?_⟩) hS ?_
        rotate_left
        · (intro w' hSw; go_simp; try with_reducible rfl)
        simp only [Act.put, List.setIfInBounds_toArray, List.set_cons_zero, List.set_cons_succ]
        refine wpAnyH_take (i := 6) (oi := { dst := some 23, op := _, type := _, pos := _, after := _, guard := _ }) (v := ?_) rfl (by kernel_rfl) (by kernel_rfl) (by kernel_rfl) (fun _ _ _ h => h) (Or.inl ⟨by rfl, ?_⟩) hS ?_
        rotate_left
        · (intro w' hSw; go_simp; try with_reducible rfl)
        simp only [Act.put, List.setIfInBounds_toArray, List.set_cons_zero, List.set_cons_succ]
        refine wpAnyH_take (i := 7) (oi := { dst := some 24, op := _, type := _, pos := _, after := _, guard := _ }) rfl (by kernel_rfl) (by kernel_rfl) (by kernel_rfl) (fun _ _ _ h => h) (yl_ev _ b' (o' + k * 18) y rfl (by rfl) (by rfl) (fun _ h => HY.out.keep h.out)) hS ?_
        simp only [Act.put, List.setIfInBounds_toArray, List.set_cons_zero, List.set_cons_succ]
        refine wpAnyH_take (i := 8) (oi := { dst := some 25, op := _, type := _, pos := _, after := _, guard := _ }) rfl (by kernel_rfl) (by kernel_rfl) (by kernel_rfl) (fun _ _ _ h => h) (yl_neqr _ _ x y r HRR.out rfl (by rfl) (by rfl) (by rfl)) hS ?_
        simp only [Act.put, List.setIfInBounds_toArray, List.set_cons_zero, List.set_cons_succ]
        refine wpAnyH_done (by kernel_rfl) ?_ _
        have HK2 := hide (HK.out.trans' hS.out)
        clear hS HX HY
        cases r with
        | true =>
          have HR := hide (HS2.out (fun e => by have := HRR.out; simp [e] at this))
          clear HS1 HS2 HRR
          go_wp2
          go_ret
          exact ⟨by rw [decide_eq_false HR.out]; rfl, HK2.out⟩
        | false =>
          have HR := hide (HS1.out (by have := HRR.out; simpa using this))
          clear HS1 HS2 HRR
          go_wp2
          go_roundw
          case measure => simp [intOf]; omega
          case rel => exact ⟨k + 1, by omega, by go_num, HR, HK2⟩
      · have hltz : ¬ (k : Int) < (L.length : Int) := by omega
        obtain rfl : k = L.length := by omega
        have HE := hide (show L = M by
          have := HN.out
          rw [List.take_length, HLN.out, List.take_length] at this
          exact this)
        go_wp2
        go_ret
        exact ⟨by rw [decide_eq_true HE.out]; rfl, HK.out⟩
  · have HX := hide (show ¬ L = M from fun e => hlen (by rw [e]))
    have hne : (L.length != M.length) = true := by simp [hlen]
    have hne' : ((L.length : Int) != (M.length : Int)) = true := by simp; omega
    clear hlen
    go_enter Try.func24, Try.ntmps24
    go_wp2
    go_ret
    exact ⟨by rw [decide_eq_false HX.out]; rfl, Keeps.refl _ _⟩
end Go.Proofs.Ytcfglfnncpcfoaa

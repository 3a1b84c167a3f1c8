/- The reference's Same. -/
import Derived.Test.YtlpmalkjbagbgaaEq
namespace Go.Proofs.Ytlpmalkjbagbgaa
open Go.RowKit Go.Shelf
theorem Try.guard28 : Try.prog.eqGuardType Try.prog.depth 28 = false := by kernel_rfl
theorem same_step {L M : List Hold} {k : Nat} (h1 : k < L.length) (h2 : k < M.length) (ht : L.take k = M.take k) (he : L[k] = M[k]) : L.take (k + 1) = M.take (k + 1) := by
  rw [List.take_succ_eq_append_getElem h1, List.take_succ_eq_append_getElem h2, ht, he]
theorem same_not {L M : List Hold} {k : Nat} (h1 : k < L.length) (h2 : k < M.length) (he : L[k] ≠ M[k]) : L ≠ M := fun e => he (by subst e; rfl)
set_option maxHeartbeats 2000000 in
theorem same_any (A A' : Option Addr) (c c' : Nat) (L M : List Hold) (w : World) (hL : L.length ≤ 64) (hs : HS w (.slice A L.length c) L) (hs' : HS w (.slice A' M.length c') M) :
    Calls Try.prog 14 #[.slice A L.length c, .slice A' M.length c'] w fun e w' => e = .returned (.bool (decide (L = M))) ∧ Keeps [] w w' := by
  have hg := Try.guard28
  by_cases hlen : L.length = M.length
  · have HLN := hide hlen
    have hne : (L.length != M.length) = false := by simp [hlen]
    have hne' : ((L.length : Int) != (M.length : Int)) = false := by simp [hlen]
    clear hlen
    go_enter Try.func14, Try.ntmps14
    go_wp2
    go_loopw [5] (fun s5 wr => ∃ k q : Nat, k ≤ L.length ∧ s5 = .int .i64 k ∧ wr = w.drewN q ∧ Hid (L.take k = M.take k)) (fun s5 _ => L.length - (intOf s5).toNat)
    case atStart => exact ⟨0, 0, Nat.zero_le _, rfl, rfl, rfl⟩
    case round =>
      obtain ⟨k, q, hk, rfl, rfl, HN⟩ := hrel
      clear hne hne'
      by_cases hlt : k < L.length
      · have hltM : k < M.length := by rw [← HLN.out]; exact hlt
        have hltz : (k : Int) < (L.length : Int) := by omega
        have hltz' : (k : Int) < (M.length : Int) := by omega
        have hk0 : (0 : Int) ≤ (k : Int) := by omega
        obtain ⟨b, o, rfl, hcell⟩ := hs.headN (by omega) (by omega)
        obtain ⟨b', o', rfl, hcell'⟩ := hs'.headN (by omega) (by omega)
        obtain ⟨c0, c1, c2, c3, c4, c5, c6, c7, c8, c9⟩ := hold_cells hcell k hlt
        obtain ⟨d0, d1, d2, d3, d4, d5, d6, d7, d8, d9⟩ := hold_cells hcell' k hltM
        have hE := eq28 L[k] M[k]
        have HY := hide (fun e => same_step hlt hltM HN.out e)
        have HX := hide (fun e => same_not (L := L) (M := M) hlt hltM e)
        clear hcell hcell' hs hs'
        generalize L[k] = x at c0 c1 c2 c3 c4 c5 c6 c7 c8 c9 hE HX HY
        generalize M[k] = y at d0 d1 d2 d3 d4 d5 d6 d7 d8 d9 hE HX HY
        by_cases he : x = y
        · rw [decide_eq_true he] at hE
          have HR := hide (HY.out he)
          clear he HX HY
          go_wp2
          go_quiet (fail)
          go_wp2
          go_roundw
          case measure => simp [intOf]; omega
          case rel => exact ⟨k + 1, _, by omega, by go_num, rfl, HR⟩
        · rw [decide_eq_false he] at hE
          have HR := hide (HX.out he)
          clear he HX HY
          go_wp2
          go_quiet (fail)
          go_wp2
          go_ret
          exact ⟨by rw [decide_eq_false HR.out]; rfl, ((Keeps.refl [] w).drewN _).drewN _⟩
      · have hltz : ¬ (k : Int) < (L.length : Int) := by omega
        obtain rfl : k = L.length := by omega
        go_wp2
        go_ret
        refine ⟨?_, (Keeps.refl [] w).drewN _⟩
        have := HN.out
        rw [List.take_length, HLN.out, List.take_length] at this
        rw [decide_eq_true this]; rfl
  · have HX := hide (show ¬ L = M from fun e => hlen (by rw [e]))
    have hne : (L.length != M.length) = true := by simp [hlen]
    have hne' : ((L.length : Int) != (M.length : Int)) = true := by simp; omega
    clear hlen
    go_enter Try.func14, Try.ntmps14
    go_wp2
    go_ret
    exact ⟨by rw [decide_eq_false HX.out]; rfl, Keeps.refl _ _⟩
end Go.Proofs.Ytlpmalkjbagbgaa

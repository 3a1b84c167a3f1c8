/- slices.Grow and slices.Concat over holds. -/
import Derived.Test.YtlpmalkjbagbgaaWith
namespace Go.Proofs.Ytlpmalkjbagbgaa
open Go.RowKit Go.Shelf

theorem Try.und3 : Try.prog.underlying 3 = some (.int .i64) := by kernel_rfl
theorem Try.und22 : Try.prog.underlying 22 = some (.slice 28) := by kernel_rfl
set_option maxHeartbeats 1000000 in
theorem grow_any (n : Nat) (w : World) (hn : n ≤ 200) : Calls Try.prog 44 #[.slice none 0 0, .int .i64 n] w fun e w' => ∃ v, e = .returned v ∧ HO w' v [] ∧ New w v ∧ Keeps [] w w' := by
  obtain ⟨i0, hi, hz0, hz1, hz2⟩ := info_parts Try.info28b
  have hn0 : ¬ ((n : Int) < 0) := by omega
  rcases Nat.eq_zero_or_pos n with h0 | h0
  · subst h0
    go_enter Try.func44, Try.ntmps44
    go_wp2
    go_ret
    exact ⟨_, rfl, own_nil w, new_nil w, Keeps.refl _ _⟩
  · have hp : (0 : Int) < (n : Int) := by omega
    go_enter Try.func44, Try.ntmps44
    go_wp2_with (with_reducible refine Halt.append ?_)
    refine Halt.on ?_
    have hr := Lib.run_append_nil_zeros (P := Try.prog) w 22 3 22 28 i0 hz .i64 .i64 Try.und22 Try.und3 hi hz0 n h0 (by omega) (by omega) (by rw [hz2]; omega)
    have hb : Bk (w.drew.alloc (.cells (Builtin.zeroCells hz.cells n ++ Builtin.zeroCells hz.cells (grownCap w n 0 28 - n)) 28)) w.heap.size 28 (Builtin.zeroCells hz.cells n ++ Builtin.zeroCells hz.cells (grownCap w n 0 28 - n)) := Bk.new w.drew 28 _
    have hcap := grownCap_ge w n 0 28
    have hcm : grownCap w n 0 28 ≤ maxLen := grownCap_le_maxLen w n 0 28 (by unfold maxLen; omega)
    have hO : HO (w.drew.alloc (.cells (Builtin.zeroCells hz.cells n ++ Builtin.zeroCells hz.cells (grownCap w n 0 28 - n)) 28)) (.slice (some ⟨w.heap.size, 0, none⟩) 0 (grownCap w n 0 28)) [] := by
      refine own_of hb (by simp [hcs]) (Nat.zero_le _) hcm ?_ (by simp [hcs])
      have e : hz.cells.size = 10 := rfl
      simp only [Array.size_append, size_zeroCells, e]
      omega
    have HOO := hide hO
    have HKK := hide (show Keeps [] w (w.drew.alloc (.cells (Builtin.zeroCells hz.cells n ++ Builtin.zeroCells hz.cells (grownCap w n 0 28 - n)) 28)) from ((Keeps.refl [] w).drew).alloc _)
    refine Lib.wpList_append_run w rfl _ _ 22 3 rfl _ _ rfl rfl _ _ hr ?_
    have hcm' : grownCap w n 0 28 ≤ 9223372036854775807 := by simpa [maxLen] using hcm
    clear hr hb hO hcm
    generalize w.drew.alloc (.cells (Builtin.zeroCells hz.cells n ++ Builtin.zeroCells hz.cells (grownCap w n 0 28 - n)) 28) = w2 at HOO HKK ⊢
    generalize grownCap w n 0 28 = cap at *
    go_wp2
    go_ret
    exact ⟨_, rfl, HOO.out, fun g hg => by (have : w.heap.size = g := by simpa [Value.ownBlock] using hg); omega, HKK.out⟩
def tot (Ls : List (List Hold)) (k : Nat) : List Hold := (Ls.take k).flatten
set_option maxHeartbeats 1000000 in
theorem concat_any (Ls : List (List Hold)) (vs : Nat → Value) (b o c : Nat) (w : World) (hl : Ls.length ≤ 3) (hLs : ∀ L ∈ Ls, L.length ≤ 64) (hcell : ∀ k, k < Ls.length → w.cell? ⟨b, o + k, none⟩ = some (vs k))
    (hs : ∀ k (h : k < Ls.length), HS w (vs k) Ls[k]) : Calls Try.prog 31 #[.slice (some ⟨b, o, none⟩) Ls.length c] w fun e w' => ∃ v, e = .returned v ∧ HO w' v Ls.flatten ∧ New w v ∧ Keeps [] w w' := by
  obtain ⟨i0, hi, hz0, hz1, hz2⟩ := info_parts Try.info28b
  go_enter Try.func31, Try.ntmps31
  have hsum : ∀ k, k < Ls.length → (tot Ls (k + 1)) = tot Ls k ++ Ls[k]! := fun k hk => by
    unfold tot
    rw [List.take_succ_eq_append_getElem hk, List.flatten_append, getElem!_pos Ls k hk]
    simp
  have hle : ∀ k, k ≤ Ls.length → (tot Ls k).length ≤ 64 * k := by
    intro k
    induction k with
    | zero => intro _; simp [tot]
    | succ k ih =>
      intro hk
      have h1 := hLs Ls[k]! (by rw [getElem!_pos Ls k (by omega)]; exact List.getElem_mem _)
      have h2 := ih (by omega)
      rw [hsum k (by omega), List.length_append]
      omega
  replace hs : ∀ k, k < Ls.length → HS w (vs k) Ls[k]! := fun k hk => by rw [getElem!_pos Ls k hk]; exact hs k hk
  go_wp2
  go_loop [3, 5, 11] (fun s3 _ s11 => ∃ k : Nat, k ≤ Ls.length ∧ s11 = .int .i64 k ∧ s3 = .int .i64 ((tot Ls k).length : Int)) (fun _ _ s11 => Ls.length - (intOf s11).toNat)
  case atStart => exact ⟨0, Nat.zero_le _, rfl, by simp [tot]⟩
  case round =>
    obtain ⟨k, hk, rfl, rfl⟩ := hrel
    by_cases hlt : k < Ls.length
    · have hltz : (k : Int) < (Ls.length : Int) := by omega
      have hk0 : (0 : Int) ≤ (k : Int) := by omega
      have hce := hcell k hlt
      obtain ⟨_, A, cc, hv, _, _⟩ := hs k hlt
      rw [hv] at hce
      have h1 := hle k hk
      have h2 := hle (k + 1) hlt
      have h3 := hsum k hlt
      have h4 : (tot Ls (k + 1)).length = (tot Ls k).length + Ls[k]!.length := by rw [h3, List.length_append]
      have HS3 := hide h4
      rw [h4] at h2
      clear hv h3 h4 hcell hs hsum hle hLs
      generalize Ls[k]!.length = n at hce h2 HS3
      generalize (tot Ls k).length = t at h1 h2 HS3 ⊢
      have hwr : wrap64 ((t : Int) + (n : Int)) = ((t + n : Nat) : Int) := by unfold wrap64; omega
      generalize t + n = tn at hwr h2 HS3
      have hng : ¬ ((tn : Int) < 0) := by omega
      go_wp2
      go_round
      case measure => simp [intOf]; omega
      case rel => exact ⟨k + 1, by omega, by go_num, by rw [HS3.out, ← hwr]⟩
    · have hltz : ¬ (k : Int) < (Ls.length : Int) := by omega
      obtain rfl : k = Ls.length := by omega
      have hT := hle _ hk
      have eF : tot Ls Ls.length = Ls.flatten := by simp [tot]
      have hT' : (tot Ls Ls.length).length ≤ 200 := by omega
      clear hT
      generalize (tot Ls Ls.length).length = t at hT' ⊢
      go_wp2_with fail
      refine (grow_any t _ hT').mono ?_
      rintro e w1 ⟨v1, rfl, ho1, hn1, hk1⟩
      have HO1 := hide ho1
      have HN1 := hide hn1
      have HK1 := hide hk1
      clear ho1 hn1 hk1
      obtain ⟨A1, n1, c1, hv1⟩ : ∃ A n c, v1 = .slice A n c := by obtain ⟨A, c, h, _⟩ := HO.form HO1.out; exact ⟨_, _, _, h⟩
      subst hv1
      go_wp2
      go_loopw [6, 8, 27] (fun s6 _ s27 wr => ∃ k : Nat, k ≤ Ls.length ∧ s27 = .int .i64 k ∧ Hid (HO wr s6 (tot Ls k)) ∧ Hid (New w s6) ∧ Hid (Keeps [] w wr)) (fun _ _ s27 _ => Ls.length - (intOf s27).toNat)
      case atStart => exact ⟨0, Nat.zero_le _, rfl, HO1, HN1, HK1⟩
      case round =>
        obtain ⟨j, hj, rfl, HOW, HN, HK⟩ := hrel
        by_cases hlt2 : j < Ls.length
        · have hltz2 : (j : Int) < (Ls.length : Int) := by omega
          have hj0 : (0 : Int) ≤ (j : Int) := by omega
          have hce := HK.out.cell (hcell j hlt2)
          have HSJ := hide (Src.keep (hs j hlt2) HK.out (by simp))
          obtain ⟨_, A, cc, hv, _, _⟩ := hs j hlt2
          have h1 := hle j hj
          have h2 := hle (j + 1) hlt2
          have h3 := hsum j hlt2
          rw [h3, List.length_append] at h2
          have HS3 := hide h3
          rw [hv] at hce HSJ
          clear hv h3 hcell hs hsum hle hLs
          generalize Ls[j]! = y at hce h2 HS3 HSJ
          go_wp2_with (with_reducible refine Halt.append ?_)
          refine Halt.on ?_
          refine wpList_append_src _ rfl _ _ _ rfl 28 i0 _ 10 80 Try.und22 hi hz0 hz1 hz2 rfl (by omega) u6 _ _ rfl HOW.out _ _ _ rfl HSJ.out (hcs_one _) (by unfold maxLen; omega) (by omega) ?_
          intro v' w2 hown hgrow hblk
          obtain ⟨hK2, hN2⟩ := step_own HK.out HN.out hgrow hblk
          have HO2 := hide (show HO w2 v' (tot Ls (j + 1)) by
            rw [HS3.out]
            unfold HO
            rw [hcs_append, List.length_append]
            exact hown)
          have HK2 := hide hK2
          have HN2 := hide hN2
          clear hown hgrow hblk hK2 hN2
          go_wp2
          go_roundw
          case measure => simp [intOf]; omega
          case rel => exact ⟨j + 1, by omega, by go_num, HO2, HN2, HK2⟩
        · have hltz2 : ¬ (j : Int) < (Ls.length : Int) := by omega
          obtain rfl : j = Ls.length := by omega
          go_wp2
          go_ret
          exact ⟨_, rfl, eF ▸ HOW.out, HN.out, HK.out⟩
end Go.Proofs.Ytlpmalkjbagbgaa

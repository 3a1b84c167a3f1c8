/- The elements that satisfy a condition: with. -/
import Derived.Test.YtlpmalkjbagbgaaFind
import Derived.OwnWalk
namespace Go.Proofs.Ytlpmalkjbagbgaa
open Go.RowKit Go.Shelf

/-- v lies in a block that is new in w. -/
def New (w : World) (v : Value) : Prop := ∀ g, v.ownBlock = some g → w.heap.size ≤ g
def hz : Value := .agg #[.int .i64 0, .int .i64 0, .int .i64 0, .int .i64 0, .int .i64 0, .int .i64 0, .int .i64 0, .int .i64 0, .int .i64 0, .int .i64 0]
theorem Try.info28b : (Try.prog.info? 28).map (fun i => (i.zero, i.size, i.bytes)) = some (some hz, 10, 80) := by kernel_rfl
theorem own_nil (w : World) : HO w (.slice none 0 0) [] := World.ownsRow_nil _ _ _ _
theorem new_nil (w : World) : New w (.slice none 0 0) := fun g h => by simp [Value.ownBlock] at h
theorem HO.hs {w : World} {v : Value} {L : List Hold} (h : HO w v L) : HS w v L := Own.src h
theorem HO.form {w : World} {v : Value} {L : List Hold} (h : HO w v L) : ∃ A c, v = .slice A L.length c ∧ L.length ≤ c ∧ c ≤ 9223372036854775807 := by
  obtain ⟨A, c, rfl⟩ := Own.slice h
  exact ⟨A, c, rfl, (Own.cap h).1, (Own.cap h).2⟩
/-- An append onto a row of the call's own, seen from the call's start. -/
theorem step_own {w wr w' : World} {v v' : Value} (hK : Keeps [] w wr) (hn : New w v) (hg : wr.grownBy w' v.ownBlock) (hb : v'.ownBlock = v.ownBlock ∨ v'.ownBlock = some wr.heap.size) : Keeps [] w w' ∧ New w v' := by
  refine ⟨hK.trans (Keeps.of_grown (F := v.ownBlock.toList) hg (fun k hk => by simp [hk])) (fun i hi => .inr (hn i (by simpa using hi))), fun g hg' => ?_⟩
  rcases hb with h | h
  · exact hn g (h ▸ hg')
  · rw [h] at hg'
    cases hg'
    exact hK.size

set_option maxHeartbeats 1000000 in
theorem with_any (g : Nat) (lb : Array Value) (p : Hold → Bool) (A : Option Addr) (c : Nat) (L : List Hold) (w : World) (hL : L.length ≤ 64) (hs : HS w (.slice A L.length c) L) (hp : Pred g lb p w) :
    Calls Try.prog 35 #[.slice A L.length c, .func (.func g) #[] lb] w fun e w' => ∃ v, e = .returned v ∧ HO w' v (L.filter p) ∧ New w v ∧ Keeps [] w w' := by
  obtain ⟨eg, hp⟩ := hp
  obtain ⟨i0, hi, hz0, hz1, hz2⟩ := info_parts Try.info28b
  go_enter Try.func35, Try.ntmps35
  go_wp2
  go_loopw [5, 7, 10] (fun s5 _ s10 wr => ∃ k : Nat, k ≤ L.length ∧ s10 = .int .i64 k ∧ Hid (HO wr s5 ((L.take k).filter p)) ∧ Hid (New w s5) ∧ Hid (Keeps [] w wr)) (fun _ _ s10 _ => L.length - (intOf s10).toNat)
  case atStart => exact ⟨0, Nat.zero_le _, rfl, hide (by simpa using own_nil w), hide (new_nil w), hide (Keeps.refl _ _)⟩
  case round =>
    obtain ⟨k, hk, rfl, HOW, HN, HK⟩ := hrel
    by_cases hlt : k < L.length
    · have hltz : (k : Int) < (L.length : Int) := by omega
      have hk0 : (0 : Int) ≤ (k : Int) := by omega
      obtain ⟨b, o, rfl, hcell⟩ := (Src.keep hs HK.out (by simp)).headN (by omega) (by omega)
      obtain ⟨c0, c1, c2, c3, c4, c5, c6, c7, c8, c9⟩ := hold_cells hcell k hlt
      have hcall := hp _ L[k] (HK.out.alloc (.cells (hc L[k]).toArray 28))
      have hfl : ((L.take k).filter p).length ≤ 64 := Nat.le_trans (List.length_filter_le _ _) (by simp; omega)
      have HT := hide (show (L.take (k + 1)).filter p = (L.take k).filter p ++ (if p L[k] then [L[k]] else []) by
        rw [List.take_succ_eq_append_getElem hlt, List.filter_append]
        cases h : p L[k] <;> simp [h])
      have HF := hide hfl
      clear hcell hs hp hfl
      generalize L[k] = y at c0 c1 c2 c3 c4 c5 c6 c7 c8 c9 hcall HT
      have HW := hide ((Bk.new wr 28 (hc y).toArray))
      have HKA := hide (HK.out.alloc (.cells (hc y).toArray 28))
      have HOA := hide (Own.alloc HOW.out (.cells (hc y).toArray 28))
      simp only [hc] at hcall
      cases hq : p y with
      | true =>
        rw [hq] at hcall HT
        go_wp2_with fail
        refine hcall.mono ?_
        rintro e w' ⟨rfl, hb'⟩
        obtain ⟨d0, d1, d2, d3, d4, d5, d6, d7, d8, d9⟩ := box_cells (HW.out.keep hb' (by simp))
        have HKB := hide (HKA.out.trans' hb')
        have HOB := hide (Own.keep HOA.out hb' (by simp))
        clear hb' c0 c1 c2 c3 c4 c5 c6 c7 c8 c9 hcall
        go_wp2_with (with_reducible refine Halt.append ?_)
        refine Halt.on ?_
        refine wpList_append_src _ rfl _ _ _ rfl 28 i0 _ 10 80 Try.underlying22 hi hz0 hz1 hz2 rfl (by omega) u5 _ _ rfl (Own.alloc HOB.out _) (.slice (some ⟨w'.heap.size, 0, none⟩) 1 1) 1 (hc y) rfl (Src.built w' 28 (hc y).toArray 10 1 rfl _ rfl) (fun u hu => hcs_one [y] u (by simpa [hcs] using hu)) (by have := HF.out; unfold maxLen; omega) (by have := HF.out; omega) ?_
        intro v' w2 hown hgrow hblk
        obtain ⟨hK2, hN2⟩ := step_own (HKB.out.alloc _) HN.out hgrow hblk
        have HO2 := hide (show HO w2 v' ((L.take (k + 1)).filter p) by
          rw [HT.out]
          simp only [if_true]
          unfold HO
          rw [hcs_append, List.length_append]
          simpa [hcs] using hown)
        have HK2 := hide hK2
        have HN2 := hide hN2
        clear hown hgrow hblk hK2 hN2
        go_wp2
        go_roundw
        case measure => simp [intOf]; omega
        case rel => exact ⟨k + 1, by omega, by go_num, HO2, HN2, HK2⟩
      | false =>
        rw [hq] at hcall HT
        go_wp2_with fail
        refine hcall.mono ?_
        rintro e w' ⟨rfl, hb'⟩
        have HKB := hide (HKA.out.trans' hb')
        have HOB := hide (show HO w' u5 ((L.take (k + 1)).filter p) by
          rw [HT.out]
          simp only [Bool.false_eq_true, if_false, List.append_nil]
          exact Own.keep HOA.out hb' (by simp))
        clear hb' c0 c1 c2 c3 c4 c5 c6 c7 c8 c9 hcall
        go_wp2
        go_roundw
        case measure => simp [intOf]; omega
        case rel => exact ⟨k + 1, by omega, by go_num, HOB, HN, HKB⟩
    · have hltz : ¬ (k : Int) < (L.length : Int) := by omega
      obtain rfl : k = L.length := by omega
      go_wp2
      go_ret
      have := HOW.out
      rw [List.take_length] at this
      exact ⟨_, rfl, this, HN.out, HK.out⟩
end Go.Proofs.Ytlpmalkjbagbgaa

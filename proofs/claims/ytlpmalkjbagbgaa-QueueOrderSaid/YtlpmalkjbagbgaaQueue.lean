/- put and the reference's Queue: the same list. -/
import Derived.Test.YtlpmalkjbagbgaaSame
namespace Go.Proofs.Ytlpmalkjbagbgaa
open Go.RowKit Go.Shelf
/-- One hold put; those with errors are left out. -/
def putS (L : List Hold) (h : Hold) : List Hold := if putE L h = 0 then putL L h else L
def que (l : List Hold) : List Hold := (l.take 30).foldl putS []
def queTo (l : List Hold) (k : Nat) : List Hold := (l.take k).foldl putS []
theorem queTo_succ (l : List Hold) (k : Nat) (h : k < l.length) : queTo l (k + 1) = putS (queTo l k) l[k] := by
  unfold queTo
  rw [List.take_succ_eq_append_getElem h, List.foldl_append]
  rfl
theorem ins_length (h : Hold) : ∀ L : List Hold, (ins h L).length = L.length + 1
  | [] => rfl
  | a :: t => by
    unfold ins
    split
    · rfl
    · simp [ins_length h t]
theorem putL_length (L : List Hold) (h : Hold) : (putL L h).length ≤ L.length + 1 := by
  unfold putL
  split
  · simp
  · split
    · simp
    · rw [ins_length]; exact Nat.le_refl _
theorem putS_length (L : List Hold) (h : Hold) : (putS L h).length ≤ L.length + 1 := by
  unfold putS
  split
  · exact putL_length L h
  · omega
theorem queTo_length (l : List Hold) : ∀ k, (queTo l k).length ≤ k
  | 0 => by simp [queTo]
  | k + 1 => by
    by_cases h : k < l.length
    · rw [queTo_succ l k h]
      have := putS_length (queTo l k) l[k]
      have := queTo_length l k
      omega
    · have : queTo l (k + 1) = queTo l k := by
        unfold queTo
        rw [List.take_of_length_le (by omega), List.take_of_length_le (by omega)]
      have := queTo_length l k
      simp_all
      omega
theorem que_eq (l : List Hold) : queTo l (min l.length 30) = que l := by
  unfold queTo que
  rcases Nat.le_total l.length 30 with h | h
  · rw [Nat.min_eq_left h, List.take_of_length_le (Nat.le_refl _), List.take_of_length_le h]
  · rw [Nat.min_eq_right h]
theorem que_length (l : List Hold) : (que l).length ≤ 30 := by rw [← que_eq]; have := queTo_length l (min l.length 30); omega
theorem HO.none {w : World} {A : Option Addr} {n c : Nat} {L : List Hold} (h : Own w 28 10 (.slice A n c) L.length (hcs L)) : A = Option.none → c = 0 := fun e => by
  subst e
  rcases h.2 with ⟨h0, _⟩ | ⟨g, cap, cur, hv, _⟩
  · injection h0
  · cases hv
set_option maxHeartbeats 2000000 in
theorem rqueue_any (A : Option Addr) (c : Nat) (l : List Hold) (w : World) (hl : l.length ≤ 9223372036854775807) (hs : HS w (.slice A l.length c) l) :
    Calls Try.prog 15 #[.slice A l.length c] w fun e w' => ∃ v, e = .returned v ∧ HO w' v (que l) ∧ New w v ∧ Keeps [] w w' := by
  go_enter Try.func15, Try.ntmps15
  go_wp2
  go_loopw [3, 4, 5, 6] (fun s3 s4 _ _ wr => ∃ k : Nat, k ≤ min l.length 30 ∧ s4 = .int .i64 k ∧ Hid (HO wr s3 (queTo l k)) ∧ Hid (New w s3) ∧ Hid (Keeps [] w wr)) (fun _ s4 _ _ _ => 30 - (intOf s4).toNat)
  case atStart => exact ⟨0, Nat.zero_le _, rfl, hide (by simpa [queTo] using own_nil w), hide (new_nil w), hide (Keeps.refl _ _)⟩
  case round =>
    obtain ⟨k, hk, rfl, HOW, HN, HK⟩ := hrel
    by_cases hlt : k < min l.length 30
    · have hltz : (k : Int) < (l.length : Int) := by omega
      have hltn : k < l.length := by omega
      have hlt3 : (k : Int) < 30 := by omega
      have hk0 : (0 : Int) ≤ (k : Int) := by omega
      obtain ⟨b, o, rfl, hcell⟩ := (Src.keep hs HK.out (by simp)).headN (by omega) (by omega)
      obtain ⟨c0, c1, c2, c3, c4, c5, c6, c7, c8, c9⟩ := hold_cells hcell k hltn
      have hqn := queTo_length l k
      have HT := hide (queTo_succ l k hltn)
      obtain ⟨A', c', hv, hq1, hq2⟩ := HO.form HOW.out
      subst hv
      have HC := hide (rput_any A' c' (queTo l k) l[k] wr (by omega) (HO.hs HOW.out) hq1 hq2 (HO.none HOW.out))
      clear hcell hs
      generalize l[k] = y at c0 c1 c2 c3 c4 c5 c6 c7 c8 c9 HT HC
      generalize queTo l k = q at HOW HT HC HN hqn hq1 ⊢
      have d3 : decide ((k : Int) < 30) = true := by simp [hlt3]
      by_cases he : putE q y = 0
      · rw [he] at HC
        have HT' := hide (show queTo l (k + 1) = putL q y by rw [HT.out, putS, if_pos he])
        clear he HT
        go_wp2_with (go_at_call 13; refine HC.out.mono ?_; rintro e w1 ⟨v, rfl, ho, hn, hk1⟩)
        have HO2 := hide (show HO w1 v (queTo l (k + 1)) by rw [HT'.out]; exact ho)
        have HN2 := hide (show New w v from fun g hg => Nat.le_trans HK.out.size (hn g hg))
        have HK2 := hide (HK.out.trans' hk1)
        clear ho hn hk1
        go_roundw
        case measure => simp [intOf]; omega
        case rel => exact ⟨k + 1, by omega, by go_num, HO2, HN2, HK2⟩
      · have HT' := hide (show queTo l (k + 1) = q by rw [HT.out, putS, if_neg he])
        generalize putE q y = pe at he HC
        have hpe : (pe == 0) = false := by simp [he]
        clear he HT
        go_wp2_with (go_at_call 13; refine HC.out.mono ?_; rintro e w1 ⟨v, rfl, ho, hn, hk1⟩)
        have HO2 := hide (show HO w1 (.slice A' q.length c') (queTo l (k + 1)) by rw [HT'.out]; exact Own.keep HOW.out hk1 (by simp))
        have HK2 := hide (HK.out.trans' hk1)
        clear ho hn hk1
        go_roundw
        case measure => simp [intOf]; omega
        case rel => exact ⟨k + 1, by omega, by go_num, HO2, HN, HK2⟩
    · obtain rfl : k = min l.length 30 := by omega
      have HO2 := hide (show HO wr u3 (que l) by rw [← que_eq]; exact HOW.out)
      clear HOW
      have hm30 : min l.length 30 < l.length → 30 ≤ min l.length 30 := by omega
      generalize min l.length 30 = m at *
      by_cases h1 : m < l.length
      · have hz : (m : Int) < (l.length : Int) := by omega
        have h30 := hm30 h1
        have h3 : ¬ (m : Int) < 30 := by omega
        have d3 : decide ((m : Int) < 30) = false := by simp; omega
        go_wp2
        go_ret
        exact ⟨_, rfl, HO2.out, HN.out, HK.out⟩
      · have hz : ¬ (m : Int) < (l.length : Int) := by omega
        have d3 : decide ((m : Int) < (l.length : Int)) = false := by simp; omega
        go_wp2
        go_ret
        exact ⟨_, rfl, HO2.out, HN.out, HK.out⟩
set_option maxHeartbeats 2000000 in
theorem put_list (A : Option Addr) (c : Nat) (l : List Hold) (w : World) (hl : l.length ≤ c) (hcm : c ≤ 9223372036854775807) (hs : HS w (.slice A l.length c) l) (hA0 : A = none → c = 0) :
    Calls Try.prog 11 #[.slice A l.length c] w fun e w' => ∃ v, e = .returned v ∧ HO w' v (que l) ∧ New w v ∧ Keeps [] w w' := by
  obtain ⟨m, hm⟩ : ∃ m, m = min l.length 30 := ⟨_, rfl⟩
  have hm1 : m ≤ l.length := by omega
  have hm2 : m ≤ 30 := by omega
  have hmin : (if (30 : Int) < (l.length : Int) then (30 : Int) else (l.length : Int)) = (m : Int) := by split <;> omega
  have HM := hide hm
  have z1 : (0 : Int) ≤ (m : Int) := by omega
  have z2 : (m : Int) ≤ (c : Int) := by omega
  clear hm
  go_enter Try.func11, Try.ntmps11
  go_wp2
  go_loopw [3, 5, 6, 7, 14] (fun s3 _ _ _ s14 wr => ∃ k : Nat, k ≤ m ∧ s14 = .int .i64 k ∧ Hid (HO wr s3 (queTo l k)) ∧ Hid (New w s3) ∧ Hid (Keeps [] w wr)) (fun _ _ _ _ s14 _ => m - (intOf s14).toNat)
  case atStart => exact ⟨0, Nat.zero_le _, rfl, hide (by simpa [queTo] using own_nil w), hide (new_nil w), hide (Keeps.refl _ _)⟩
  case round =>
    obtain ⟨k, hk, rfl, HOW, HN, HK⟩ := hrel
    by_cases hlt : k < m
    · have hltz : (k : Int) < (m : Int) := by omega
      have hltn : k < l.length := by omega
      have hk0 : (0 : Int) ≤ (k : Int) := by omega
      obtain ⟨b, o, rfl, hcell⟩ := (Src.keep hs HK.out (by simp)).headN (by omega) (by omega)
      obtain ⟨c0, c1, c2, c3, c4, c5, c6, c7, c8, c9⟩ := hold_cells hcell k hltn
      have hqn := queTo_length l k
      have HT := hide (queTo_succ l k hltn)
      obtain ⟨A', c', hv, hq1, hq2⟩ := HO.form HOW.out
      subst hv
      have HC := hide (put_any A' c' (queTo l k) l[k] (wr.alloc (.cells (hc l[k]).toArray 28)) (by omega) (HO.hs (Own.alloc HOW.out _)) hq1 hq2 (HO.none HOW.out))
      have HA := hide (HK.out.alloc (.cells (hc l[k]).toArray 28))
      have HOA := hide (Own.alloc HOW.out (.cells (hc l[k]).toArray 28))
      clear hcell hs
      generalize l[k] = y at c0 c1 c2 c3 c4 c5 c6 c7 c8 c9 HT HC HA HOA
      generalize queTo l k = q at HOW HOA HT HC HN hqn hq1 ⊢
      by_cases he : putE q y = 0
      · rw [he] at HC
        have HT' := hide (show queTo l (k + 1) = putL q y by rw [HT.out, putS, if_pos he])
        clear he HT
        go_wp2_with (go_at_call 12; refine HC.out.mono ?_; rintro e w1 ⟨v, rfl, ho, hn, hk1⟩)
        have HO2 := hide (show HO w1 v (queTo l (k + 1)) by rw [HT'.out]; exact ho)
        have HN2 := hide (show New w v from fun g hg => Nat.le_trans HA.out.size (hn g hg))
        have HK2 := hide (HA.out.trans' hk1)
        clear ho hn hk1
        go_roundw
        case measure => simp [intOf]; omega
        case rel => exact ⟨k + 1, by omega, by go_num, HO2, HN2, HK2⟩
      · have HT' := hide (show queTo l (k + 1) = q by rw [HT.out, putS, if_neg he])
        generalize putE q y = pe at he HC
        have hpe : (pe == 0) = false := by simp [he]
        clear he HT
        go_wp2_with (go_at_call 12; refine HC.out.mono ?_; rintro e w1 ⟨v, rfl, ho, hn, hk1⟩)
        have HO2 := hide (show HO w1 (.slice A' q.length c') (queTo l (k + 1)) by rw [HT'.out]; exact Own.keep HOA.out hk1 (by simp))
        have HK2 := hide (HA.out.trans' hk1)
        clear ho hn hk1
        go_roundw
        case measure => simp [intOf]; omega
        case rel => exact ⟨k + 1, by omega, by go_num, HO2, HN, HK2⟩
    · obtain rfl : k = m := by omega
      have HO2 := hide (show HO wr u3 (que l) by rw [← que_eq, ← HM.out]; exact HOW.out)
      have hltz : ¬ (k : Int) < (k : Int) := by omega
      clear HOW
      go_wp2
      go_ret
      exact ⟨_, rfl, HO2.out, HN.out, HK.out⟩
end Go.Proofs.Ytlpmalkjbagbgaa

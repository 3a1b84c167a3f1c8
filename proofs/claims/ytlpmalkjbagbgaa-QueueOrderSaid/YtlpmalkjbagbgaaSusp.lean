/- slices.Clone, queue.Suspend, the reference's Suspend. -/
import Derived.Test.YtlpmalkjbagbgaaRact
namespace Go.Proofs.Ytlpmalkjbagbgaa
open Go.RowKit Go.Shelf
theorem hcs_set : ∀ (L : List Hold) (k : Nat) (hk : k < L.length) (i : Nat) (v : Value) (h' : Hold), i < 10 → hc h' = (hc L[k]).set i v → (hcs L).set (k * 10 + i) v = hcs (L.set k h')
  | [], k, hk, _, _, _, _, _ => by simp at hk
  | a :: t, 0, _, i, v, h', hi, he => by
    simp only [List.getElem_cons_zero] at he
    simp only [hcs, List.flatMap_cons, List.set_cons_zero]
    rw [Nat.zero_mul, Nat.zero_add, List.set_append_left _ _ (by simpa using hi), he]
  | a :: t, k + 1, hk, i, v, h', hi, he => by
    have hkt : k < t.length := by simpa using hk
    have ih := hcs_set t k hkt i v h' hi (by simpa using he)
    simp only [hcs, List.flatMap_cons, List.set_cons_succ] at ih ⊢
    rw [List.set_append_right _ _ (by simp; omega), hc_length, show (k + 1) * 10 + i - 10 = k * 10 + i by omega, ih]
theorem Own.set {w : World} {e : TypeId} {sz n c g : Nat} {xs : List Value} (h : Own w e sz (.slice (some ⟨g, 0, none⟩) n c) n xs) (i : Nat) (u : Value) : Own (w.setCell ⟨g, i, none⟩ u) e sz (.slice (some ⟨g, 0, none⟩) n c) n (xs.set i u) := by
  refine ⟨by simp [h.1], ?_⟩
  rcases h.2 with ⟨h0, _⟩ | ⟨g', cap, cur, hv, hb, hg, hc, hx, hs, ht⟩
  · cases h0
  · injection hv with h1 h2 h3
    injection h1 with h1
    injection h1 with h1 _ _
    subst h1 h3
    refine .inr ⟨g, c, cur.setIfInBounds i u, rfl, hb, Bk.set (t := e) hg i u, hc, hx, by simpa using hs, ?_⟩
    rw [Array.toList_setIfInBounds, List.take_set, ht]
def susF (id t : Int) (x : Hold) : Hold := if x.id = id then { x with till := t } else x
def updL (id t : Int) (L : List Hold) (k : Nat) : List Hold := (L.take k).map (susF id t) ++ L.drop k
theorem upd_len (id t : Int) (L : List Hold) (k : Nat) : (updL id t L k).length = L.length := by simp [updL]; omega
theorem upd_split {id t : Int} {L : List Hold} {k : Nat} (hk : k < L.length) : updL id t L k = (L.take k).map (susF id t) ++ L[k] :: L.drop (k + 1) := by rw [updL, List.drop_eq_getElem_cons hk]
theorem upd_next {id t : Int} {L : List Hold} {k : Nat} (hk : k < L.length) : updL id t L (k + 1) = (L.take k).map (susF id t) ++ susF id t L[k] :: L.drop (k + 1) := by
  rw [updL, List.take_succ_eq_append_getElem hk, List.map_append, List.append_assoc]
  rfl
theorem upd_at {id t : Int} {L : List Hold} {k : Nat} (hk : k < L.length) : ∃ h : k < (updL id t L k).length, (updL id t L k)[k] = L[k] := by
  refine ⟨by rw [upd_len]; exact hk, ?_⟩
  simp only [upd_split hk]
  rw [List.getElem_append_right (by simp; omega)]
  simp [Nat.min_eq_left (Nat.le_of_lt hk)]
theorem upd_set {id t : Int} {L : List Hold} {k : Nat} (hk : k < L.length) : (updL id t L k).set k (susF id t L[k]) = updL id t L (k + 1) := by
  rw [upd_split hk, upd_next hk, List.set_append_right _ _ (by simp; omega)]
  simp only [List.length_map, List.length_take, Nat.min_eq_left (Nat.le_of_lt hk), Nat.sub_self, List.set_cons_zero]
theorem upd_miss {id t : Int} {L : List Hold} {k : Nat} (hk : k < L.length) (h : L[k].id ≠ id) : updL id t L (k + 1) = updL id t L k := by
  rw [upd_split hk, upd_next hk, susF, if_neg h]
theorem upd_end {id t : Int} {L : List Hold} : updL id t L L.length = L.map (susF id t) := by simp [updL]
theorem upd_zero {id t : Int} {L : List Hold} : updL id t L 0 = L := by simp [updL]
def susL (L : List Hold) (id t : Int) : List Hold := if hasId L id then L.map (susF id t) else []
theorem has_succ {L : List Hold} {k : Nat} (hk : k < L.length) (id : Int) : hasId (L.take (k + 1)) id = (hasId (L.take k) id || decide (L[k].id = id)) := by
  rw [List.take_succ_eq_append_getElem hk]
  simp only [hasId, List.any_append, List.any_cons, List.any_nil, Bool.or_false]
theorem nil22 (w : World) (a : Option Addr) (n c n' c' : Nat) : (binOp .eql 22 (.slice a n c) (.slice none n' c')).run Try.prog w = .ok (.bool a.isNone) w := Lib.run_eql_slice_nil w _ _ a n c n' c' Try.underlying22
set_option maxHeartbeats 1000000 in
theorem clone_any (A : Option Addr) (c : Nat) (L : List Hold) (w : World) (hL : L.length ≤ 64) (hs : HS w (.slice A L.length c) L) :
    Calls Try.prog 40 #[.slice A L.length c] w fun e w' => ∃ v, e = .returned v ∧ HO w' v L ∧ New w v ∧ Keeps [] w w' := by
  obtain ⟨i0, hi, hz0, hz1, hz2⟩ := info_parts Try.info28b
  cases A with
  | none =>
    have h0 : L.length = 0 := by
      obtain ⟨_, A', c', hA, hn, _⟩ := hs
      injection hA with hA _ _
      exact hn hA.symm
    obtain rfl : L = [] := List.eq_nil_of_length_eq_zero h0
    have hq := nil22 w none 0 c 0 0
    simp only [Option.isNone] at hq
    clear hs h0
    go_enter Try.func40, Try.ntmps40
    go_wp2
    go_ret
    exact ⟨_, rfl, own_nil w, new_nil w, Keeps.refl _ _⟩
  | some ad =>
    have hq := nil22 w (some ad) L.length c 0 0
    simp only [Option.isNone] at hq
    have HS := hide (Src.keep hs ((Keeps.refl [] w).alloc (.cells #[] 28)) (by simp))
    have HO := hide (show HO (w.alloc (.cells #[] 28)) (.slice (some ⟨w.heap.size, 0, none⟩) 0 0) [] from own_of (Bk.new w 28 #[]) rfl (Nat.le_refl _) (Nat.zero_le _) rfl rfl)
    have HK := hide ((Keeps.refl [] w).alloc (.cells #[] 28))
    clear hs
    go_enter Try.func40, Try.ntmps40
    go_wp2_with (with_reducible refine Halt.append ?_)
    refine Halt.on ?_
    refine wpList_append_src _ rfl _ _ _ rfl 28 i0 _ 10 80 Try.und22 hi hz0 hz1 hz2 rfl (by omega) (.slice (some ⟨w.heap.size, 0, none⟩) 0 0) _ _ rfl HO.out (.slice (some ad) L.length c) L.length (hcs L) rfl HS.out (fun u hu => hcs_one L u hu) (by unfold maxLen; simp; omega) (by simp; omega) ?_
    intro v' w2 hown hgrow hblk
    obtain ⟨hK2, hN2⟩ := step_own (w := w) HK.out (fun g hg => by simp [Value.ownBlock] at hg; omega) hgrow hblk
    have HO2 := hide (show Ytlpmalkjbagbgaa.HO w2 v' L by show Own w2 28 10 v' L.length (hcs L); simpa [show hcs [] = [] from rfl] using hown)
    have HN2 := hide hN2
    have HK2 := hide hK2
    clear hown hgrow hblk hK2 hN2
    go_wp2
    go_ret
    exact ⟨_, rfl, HO2.out, HN2.out, HK2.out⟩
/-- The clone, while Suspend goes over it. -/
abbrev OU (w : World) (A : Option Addr) (c : Nat) (id t : Int) (L : List Hold) (k : Nat) : Prop := Own w 28 10 (.slice A L.length c) L.length (hcs (updL id t L k))
theorem OU.hit {w0 w1 wr : World} {g c : Nat} {id t : Int} {L : List Hold} {k : Nat} (h : OU wr (some ⟨g, 0, none⟩) c id t L k) (hk : k < L.length) (hq : L[k].id = id) (hK : Keeps [] w0 wr) (hg : w0.heap.size ≤ g) (he : w1 = wr.setCell ⟨g, k * 10 + 6, none⟩ (.int .i64 t)) :
    OU w1 (some ⟨g, 0, none⟩) c id t L (k + 1) ∧ Keeps [] w0 w1 := by
  subst he
  obtain ⟨hkk, hat⟩ := upd_at (id := id) (t := t) hk
  have hst := Own.set h (k * 10 + 6) (.int .i64 t)
  rw [hcs_set (updL id t L k) k hkk 6 (.int .i64 t) (susF id t L[k]) (by omega) (by rw [hat, susF, if_pos hq]; rfl), upd_set hk] at hst
  exact ⟨hst, hK.setCell (.inr hg) _⟩
theorem OU.cells {wr : World} {A : Option Addr} {c : Nat} {id t : Int} {L : List Hold} {k : Nat} (h : OU wr A c id t L k) (hk : k < L.length) :
    ∃ g cur, A = some ⟨g, 0, none⟩ ∧ wr.cell? ⟨g, k * 10, none⟩ = some (.int .i64 L[k].id) ∧ wr.cell? ⟨g, k * 10 + 6, none⟩ = some (.int .i64 L[k].till) ∧ Bk wr g 28 cur := by
  obtain ⟨hkk, hat⟩ := upd_at (id := id) (t := t) hk
  obtain ⟨g, c', cur, hv, h1, h2, hbk, hsz, htk, hcell⟩ := Own.head h (by omega)
  injection hv with hv1 hv2 hv3
  obtain ⟨c0, c1, c2, c3, c4, c5, c6, -⟩ := hold_cells (b := g) (o := 0) (fun j u hu => by rw [Nat.zero_add]; exact hcell j u hu) k hkk
  rw [hat] at c0 c6
  simp only [Nat.zero_add] at c0 c6
  exact ⟨g, cur, hv1, c0, c6, hbk⟩
set_option maxHeartbeats 2000000 in
theorem suspend_any (A : Option Addr) (c : Nat) (L : List Hold) (id t : Int) (w : World) (hL : L.length ≤ 64) (hs : HS w (.slice A L.length c) L) :
    Calls Try.prog 22 #[.slice A L.length c, .int .i64 id, .int .i64 t] w fun e w' => ∃ v, e = .returned (.tuple #[v, .bool (hasId L id)]) ∧ HO w' v (susL L id t) ∧ New w v ∧ Keeps [] w w' := by
  go_enter Try.func22, Try.ntmps22
  go_wp2_with fail
  refine (clone_any A c L w hL hs).mono ?_
  rintro e w1 ⟨v1, rfl, ho1, hn1, k1⟩
  obtain ⟨A1, c1, hv1, hle1, hc1⟩ := HO.form ho1
  subst hv1
  clear hs
  have HO0 := hide (show OU w1 A1 c1 id t L 0 by rw [OU, upd_zero]; exact ho1)
  have HN := hide hn1
  have HK0 := hide k1
  clear ho1 hn1 k1
  go_wp2
  go_loopw [8, 10, 15] (fun s8 _ s15 wr => ∃ k : Nat, k ≤ L.length ∧ s15 = .int .i64 k ∧ s8 = .bool (hasId (L.take k) id) ∧ Hid (OU wr A1 c1 id t L k) ∧ Hid (Keeps [] w wr)) (fun _ _ s15 _ => L.length - (intOf s15).toNat)
  case atStart => exact ⟨0, Nat.zero_le _, rfl, rfl, HO0, HK0⟩
  case round =>
    obtain ⟨k, hk, rfl, rfl, HOW, HK⟩ := hrel
    by_cases hlt : k < L.length
    · have hltz : (k : Int) < (L.length : Int) := by omega
      have hk0 : (0 : Int) ≤ (k : Int) := by omega
      obtain ⟨g, cur, rfl, d0, d6, hbk⟩ := HOW.out.cells hlt
      have f6 := hbk.free (k * 10 + 6)
      have HH := hide (has_succ hlt id)
      have hge := HN.out g rfl
      by_cases hq : L[k].id = id
      · have HF := hide (HOW.out.hit hlt hq HK.out hge rfl)
        have HT := hide (show hasId (L.take (k + 1)) id = true by rw [HH.out]; simp [hq])
        rw [hq] at d0
        have hb0 : (id == id) = true := by simp
        generalize L[k].till = tl at d6
        clear hq hbk HH
        go_wp2
        go_roundw
        case measure => simp [intOf]; omega
        case rel => exact ⟨k + 1, by omega, by go_num, by rw [HT.out], HF.out.1, HF.out.2⟩
      · have HO2 := hide (show OU wr (some ⟨g, 0, none⟩) c1 id t L (k + 1) by rw [OU, upd_miss hlt hq]; exact HOW.out)
        have HT := hide (show hasId (L.take (k + 1)) id = hasId (L.take k) id by rw [HH.out]; simp [hq])
        generalize L[k].till = tl at d6
        generalize L[k].id = iy at d0 hq
        have hb0 : (iy == id) = false := by simp [hq]
        clear hq hbk HH
        go_wp2
        go_roundw
        case measure => simp [intOf]; omega
        case rel => exact ⟨k + 1, by omega, by go_num, by rw [HT.out], HO2, HK⟩
    · have hltz : ¬ (k : Int) < (L.length : Int) := by omega
      obtain rfl : k = L.length := by omega
      have HO2 := hide (show HO wr (.slice A1 L.length c1) (L.map (susF id t)) by have := HOW.out; rw [OU, upd_end] at this; simpa [HO] using this)
      rw [List.take_length]
      cases hh : hasId L id with
      | true =>
        have HR := hide (show susL L id t = L.map (susF id t) by rw [susL, hh]; rfl)
        have HH := hide hh
        clear hh
        go_wp2
        go_ret2
        exact ⟨_, by rw [HH.out]; rfl, by rw [HR.out]; exact HO2.out, HN.out, HK.out⟩
      | false =>
        have HR := hide (show susL L id t = [] by rw [susL, hh]; rfl)
        have HH := hide hh
        clear hh
        go_wp2
        go_ret2
        exact ⟨_, by rw [HH.out]; rfl, by rw [HR.out]; exact own_nil _, new_nil _, HK.out⟩
theorem sus_succ {L : List Hold} {k : Nat} (hk : k < L.length) (id t : Int) : (L.take (k + 1)).map (susF id t) = (L.take k).map (susF id t) ++ [susF id t L[k]] := by
  rw [List.take_succ_eq_append_getElem hk, List.map_append]; rfl
set_option maxHeartbeats 2000000 in
theorem rsuspend_any (A : Option Addr) (c : Nat) (L : List Hold) (id t : Int) (w : World) (hL : L.length ≤ 64) (hs : HS w (.slice A L.length c) L) :
    Calls Try.prog 23 #[.slice A L.length c, .int .i64 id, .int .i64 t] w fun e w' => ∃ v, e = .returned (.tuple #[v, .bool (hasId L id)]) ∧ HO w' v (susL L id t) ∧ New w v ∧ Keeps [] w w' := by
  go_enter Try.func23, Try.ntmps23
  go_wp2
  go_loopw [8, 9, 10, 11] (fun s8 s9 s10 _ wr => ∃ k : Nat, k ≤ L.length ∧ s10 = .int .i64 k ∧ s9 = .bool (hasId (L.take k) id) ∧ Hid (HO wr s8 ((L.take k).map (susF id t))) ∧ Hid (New w s8) ∧ Hid (Keeps [] w wr)) (fun _ _ s10 _ _ => L.length - (intOf s10).toNat)
  case atStart => exact ⟨0, Nat.zero_le _, rfl, rfl, hide (by simpa using own_nil w), hide (new_nil w), hide (Keeps.refl _ _)⟩
  case round =>
    obtain ⟨k, hk, rfl, rfl, HOW, HN, HK⟩ := hrel
    by_cases hlt : k < L.length
    · have hltz : (k : Int) < (L.length : Int) := by omega
      have hk0 : (0 : Int) ≤ (k : Int) := by omega
      obtain ⟨b, o, rfl, hcell⟩ := (Src.keep hs HK.out (by simp)).headN (by omega) (by omega)
      obtain ⟨c0, c1, c2, c3, c4, c5, c6, c7, c8, c9⟩ := hold_cells hcell k hlt
      have HT := hide (sus_succ hlt id t)
      have HH := hide (has_succ hlt id)
      have hml : ((L.take k).map (susF id t)).length ≤ 64 := by simp; omega
      clear hcell hs
      generalize L[k] = y at c0 c1 c2 c3 c4 c5 c6 c7 c8 c9 HT HH
      have HKA := hide (HK.out.alloc (.cells (hc (susF id t y)).toArray 28))
      have HOA := hide (Own.alloc HOW.out (.cells (hc (susF id t y)).toArray 28))
      by_cases hq : y.id = id
      · have HT2 := hide (show hasId (L.take (k + 1)) id = true by rw [HH.out]; simp [hq])
        have HSF := hide (show susF id t y = { y with till := t } by rw [susF, if_pos hq])
        rw [HSF.out] at HKA HOA HT
        simp only [hc] at HKA HOA
        clear HH HSF
        subst hq
        have hb0 : (y.id == y.id) = true := by simp
        go_wp2_with (with_reducible refine Halt.append ?_)
        refine Halt.on ?_
        refine wpList_push rfl _ _ rfl w _ u8 _ { y with till := t } _ rfl rfl (by simp [go_sem]) HOA.out HN.out HKA.out (by omega) ?_
        intro v' w2 HO2 HN2 HK2
        replace HO2 := hide (show HO w2 v' ((L.take (k + 1)).map (susF y.id t)) by rw [HT.out]; exact HO2.out)
        go_wp2
        go_roundw
        case measure => simp [intOf]; omega
        case rel => exact ⟨k + 1, by omega, by go_num, by rw [HT2.out], HO2, HN2, HK2⟩
      · have HT2 := hide (show hasId (L.take (k + 1)) id = hasId (L.take k) id by rw [HH.out]; simp [hq])
        have HSF := hide (show susF id t y = y by rw [susF, if_neg hq])
        have hb0 : (y.id == id) = false := by simp [hq]
        rw [HSF.out] at HKA HOA HT
        simp only [hc] at HKA HOA
        clear HH HSF hq
        go_wp2_with (with_reducible refine Halt.append ?_)
        refine Halt.on ?_
        refine wpList_push rfl _ _ rfl w _ u8 _ y _ rfl rfl (by simp [go_sem]) HOA.out HN.out HKA.out (by omega) ?_
        intro v' w2 HO2 HN2 HK2
        replace HO2 := hide (show HO w2 v' ((L.take (k + 1)).map (susF id t)) by rw [HT.out]; exact HO2.out)
        go_wp2
        go_roundw
        case measure => simp [intOf]; omega
        case rel => exact ⟨k + 1, by omega, by go_num, by rw [HT2.out], HO2, HN2, HK2⟩
    · have hltz : ¬ (k : Int) < (L.length : Int) := by omega
      obtain rfl : k = L.length := by omega
      have HO2 := hide (show HO wr u8 (L.map (susF id t)) by have := HOW.out; rwa [List.take_length] at this)
      rw [List.take_length]
      clear HOW
      cases hh : hasId L id with
      | true =>
        have HR := hide (show susL L id t = L.map (susF id t) by rw [susL, hh]; rfl)
        have HH := hide hh
        clear hh
        go_wp2
        go_ret2
        exact ⟨_, by rw [HH.out]; rfl, by rw [HR.out]; exact HO2.out, HN.out, HK.out⟩
      | false =>
        have HR := hide (show susL L id t = [] by rw [susL, hh]; rfl)
        have HH := hide hh
        clear hh
        go_wp2
        go_ret2
        exact ⟨_, by rw [HH.out]; rfl, by rw [HR.out]; exact own_nil _, new_nil _, HK.out⟩
end Go.Proofs.Ytlpmalkjbagbgaa

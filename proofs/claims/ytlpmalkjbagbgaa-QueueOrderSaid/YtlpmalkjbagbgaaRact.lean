/- The reference's Active, Remove; queue.Remove. -/
import Derived.Test.YtlpmalkjbagbgaaIds
namespace Go.Proofs.Ytlpmalkjbagbgaa
open Go.RowKit Go.Shelf
/-- append of one hold that was built for it. -/
theorem wpList_push {ops : Array Oper} {rest : List Oper} {o : Oper} {a : Act} {Q : Exit → Act → World → Prop} (hgd : o.guard = none) (s x : Operand)
    (ho : o.op = .call { callee := .builtin .append, args := #[s, x], argTypes := #[22, 22] }) (w0 wr : World) (v : Value) (M : List Hold) (y : Hold) (cs : Array Value) (hcs' : cs = (hc y).toArray) (hs : a.eval s = v) (hx : a.eval x = .slice (some ⟨wr.heap.size, 0, none⟩) 1 1)
    (ho1 : HO wr v M) (hn1 : New w0 v) (hk1 : Keeps [] w0 wr) (hM : M.length ≤ 200)
    (h : ∀ v' w', Hid (HO w' v' (M ++ [y])) → Hid (New w0 v') → Hid (Keeps [] w0 w') → wpList Try.prog ops Q rest (a.put o.dst v') w') :
    wpList Try.prog ops Q (o :: rest) a (wr.alloc (.cells cs 28)) := by
  subst hcs'
  obtain ⟨i0, hi, hz0, hz1, hz2⟩ := info_parts Try.info28b
  refine wpList_append_src _ hgd _ _ _ ho 28 i0 _ 10 80 Try.und22 hi hz0 hz1 hz2 rfl (by omega) v _ _ hs (Own.alloc ho1 _) (.slice (some ⟨wr.heap.size, 0, none⟩) 1 1) 1 (hc y) hx (Src.built wr 28 (hc y).toArray 10 1 rfl _ rfl) (fun u hu => hcs_one [y] u (by simpa [hcs] using hu)) (by unfold maxLen; omega) (by omega) ?_
  intro v' w2 hown hgrow hblk
  obtain ⟨hK2, hN2⟩ := step_own (hk1.alloc _) hn1 hgrow hblk
  refine h v' w2 ?_ hN2 hK2
  show HO w2 v' (M ++ [y])
  unfold HO
  rw [hcs_append, List.length_append]
  simpa [hcs] using hown
theorem filter_succ {L : List Hold} {k : Nat} (hk : k < L.length) (p : Hold → Bool) : (L.take (k + 1)).filter p = (L.take k).filter p ++ (if p L[k] then [L[k]] else []) := by
  rw [List.take_succ_eq_append_getElem hk, List.filter_append]
  cases h : p L[k] <;> simp [h]
theorem filter_len {L : List Hold} {k : Nat} (hk : k ≤ L.length) (p : Hold → Bool) : ((L.take k).filter p).length ≤ k := Nat.le_trans (List.length_filter_le _ _) (by simp; omega)
set_option maxHeartbeats 1000000 in
theorem ract_any (A : Option Addr) (c : Nat) (L : List Hold) (day : Int) (w : World) (hL : L.length ≤ 64) (hs : HS w (.slice A L.length c) L) :
    Calls Try.prog 24 #[.slice A L.length c, .int .i64 day] w fun e w' => ∃ v, e = .returned v ∧ HO w' v (L.filter (act day)) ∧ New w v ∧ Keeps [] w w' := by
  go_enter Try.func24, Try.ntmps24
  go_wp2
  go_loopw [5, 6] (fun s5 s6 wr => ∃ k : Nat, k ≤ L.length ∧ s6 = .int .i64 k ∧ Hid (HO wr s5 ((L.take k).filter (act day))) ∧ Hid (New w s5) ∧ Hid (Keeps [] w wr)) (fun _ s6 _ => L.length - (intOf s6).toNat)
  case atStart => exact ⟨0, Nat.zero_le _, rfl, hide (by simpa using own_nil w), hide (new_nil w), hide (Keeps.refl _ _)⟩
  case round =>
    obtain ⟨k, hk, rfl, HOW, HN, HK⟩ := hrel
    by_cases hlt : k < L.length
    · have hltz : (k : Int) < (L.length : Int) := by omega
      have hk0 : (0 : Int) ≤ (k : Int) := by omega
      obtain ⟨b, o, rfl, hcell⟩ := (Src.keep hs HK.out (by simp)).headN (by omega) (by omega)
      obtain ⟨c0, c1, c2, c3, c4, c5, c6, c7, c8, c9⟩ := hold_cells hcell k hlt
      have HT := hide (filter_succ hlt (act day))
      have hfl := filter_len hk (act day)
      clear hcell hs
      generalize L[k] = y at c0 c1 c2 c3 c4 c5 c6 c7 c8 c9 HT
      by_cases hq : y.till ≤ day
      · have HT' := hide (show (L.take (k + 1)).filter (act day) = (L.take k).filter (act day) ++ [y] by rw [HT.out]; simp [act, hq])
        clear HT
        go_wp2_with (with_reducible refine Halt.append ?_)
        refine Halt.on ?_
        refine wpList_push rfl _ _ rfl w wr u5 _ y _ rfl rfl rfl HOW.out HN.out HK.out (by omega) ?_
        intro v' w2 HO2 HN2 HK2
        replace HO2 := hide (show HO w2 v' ((L.take (k + 1)).filter (act day)) by rw [HT'.out]; exact HO2.out)
        go_wp2
        go_roundw
        case measure => simp [intOf]; omega
        case rel => exact ⟨k + 1, by omega, by go_num, HO2, HN2, HK2⟩
      · have HO2 := hide (show HO wr u5 ((L.take (k + 1)).filter (act day)) by rw [HT.out]; simpa [act, hq] using HOW.out)
        clear HT
        go_wp2
        go_roundw
        case measure => simp [intOf]; omega
        case rel => exact ⟨k + 1, by omega, by go_num, HO2, HN, HK⟩
    · have hltz : ¬ (k : Int) < (L.length : Int) := by omega
      obtain rfl : k = L.length := by omega
      go_wp2
      go_ret
      have := HOW.out
      rw [List.take_length] at this
      exact ⟨_, rfl, this, HN.out, HK.out⟩
def hasId (L : List Hold) (id : Int) : Bool := L.any fun x => decide (x.id = id)
def remL (L : List Hold) (id : Int) : List Hold := if hasId L id then L.filter fun x => decide (x.id ≠ id) else []
theorem rem_pred (id : Int) (b : Nat) (w : World) (h : w.cell? ⟨b, 0, none⟩ = some (.int .i64 id)) : Pred 39 #[.pointer (some ⟨b, 0, none⟩)] (fun x => decide (x.id ≠ id)) w :=
  ⟨enters_of Try.func39 (by kernel_rfl) rfl, fun W x hb => by
    have hcW := hb.cell h
    have hbz : b < W.heap.size := World.block_lt_of_cell? W _ hcW
    have hne : b ≠ W.heap.size := by omega
    show Calls Try.prog 39 #[.agg #[.int .i64 x.id, .int .i64 x.patron, .int .i64 x.item, .int .i64 x.src, .int .i64 x.num, .int .i64 x.pickup, .int .i64 x.till, .int .i64 x.time, .int .i64 x.site, .int .i64 x.stamp], .pointer (some ⟨b, 0, none⟩)] W _
    by_cases he : x.id = id
    · have hb0 : (x.id != id) = false := by simp [he]
      have HE := hide (show decide (x.id ≠ id) = false by simp [he])
      go_enter Try.func39, Try.ntmps39
      go_wp2
      go_ret
      exact ⟨by rw [HE.out]; simp [he], (Keeps.refl [] W).alloc _⟩
    · have hb0 : (x.id != id) = true := by simp [he]
      have HE := hide (show decide (x.id ≠ id) = true by simp [he])
      go_enter Try.func39, Try.ntmps39
      go_wp2
      go_ret
      exact ⟨by rw [HE.out]; simp, (Keeps.refl [] W).alloc _⟩⟩
set_option maxHeartbeats 1000000 in
theorem remove_any (A : Option Addr) (c : Nat) (L : List Hold) (id : Int) (w : World) (hL : L.length ≤ 64) (hs : HS w (.slice A L.length c) L) :
    Calls Try.prog 20 #[.slice A L.length c, .int .i64 id] w fun e w' => ∃ v, e = .returned (.tuple #[v, .bool (hasId L id)]) ∧ HO w' v (remL L id) ∧ New w v ∧ Keeps [] w w' := by
  have HB := hide (Bk.new w 3 #[.int .i64 id])
  have HK := hide ((Keeps.refl [] w).alloc (.cells #[.int .i64 id] 3))
  have HS := hide hs
  clear hs
  go_enter Try.func20, Try.ntmps20
  go_wp2_with fail
  generalize w.alloc (.cells #[Value.int .i64 id] 3) = w0 at HB HK ⊢
  refine (has_any id w0).mono ?_
  rintro e w1 ⟨rfl, h1⟩
  have hK1 := (Keeps.refl [] w0).alloc (.cells #[.int .i64 id] 3)
  have HP := hide (has_pred id w0.heap.size (w0.alloc (.cells #[.int .i64 id] 3)) (by simp))
  rw [h1] at hK1 HP
  clear h1
  replace HB := hide (HB.out.keep hK1 (by simp))
  replace HK := hide (HK.out.trans' hK1)
  have HS1 := hide (Src.keep HS.out HK.out (by simp))
  clear hK1
  go_wp2_with fail
  refine (contains_any 41 _ _ A c L w1 hL HS1.out HP.out).mono ?_
  rintro e w2 ⟨rfl, k2⟩
  replace HB := hide (HB.out.keep k2 (by simp))
  replace HK := hide (HK.out.trans' k2)
  replace HS1 := hide (Src.keep HS1.out k2 (by simp))
  clear k2 HP
  have e1 : L.any (fun x => decide (x.id = id)) = hasId L id := rfl
  rw [e1]
  clear e1
  have HR := hide (rem_pred id w.heap.size w2 (HB.out.cell 0))
  cases hh : hasId L id with
  | true =>
    have HRL := hide (show remL L id = L.filter (fun x => decide (x.id ≠ id)) by rw [remL, hh]; rfl)
    have HH := hide hh
    clear hh
    go_wp2_with fail
    refine (with_any 39 _ _ A c L w2 hL HS1.out HR.out).mono ?_
    rintro e w3 ⟨v3, rfl, ho3, hn3, k3⟩
    go_wp2
    go_ret2
    exact ⟨_, by rw [HH.out]; rfl, by rw [HRL.out]; exact ho3, fun g hg => Nat.le_trans HK.out.size (hn3 g hg), HK.out.trans' k3⟩
  | false =>
    have HRL := hide (show remL L id = [] by rw [remL, hh]; rfl)
    have HH := hide hh
    clear hh
    go_wp2
    go_ret2
    exact ⟨_, by rw [HH.out]; rfl, by rw [HRL.out]; exact own_nil _, new_nil _, HK.out⟩
theorem rem_len {L : List Hold} {id : Int} : (L.filter fun x => decide (x.id ≠ id)).length = L.length ↔ hasId L id = false := by
  unfold hasId
  rw [List.any_eq_false]
  constructor
  · intro h x hx
    have := List.filter_eq_self.1 (List.filter_sublist.eq_of_length h) x hx
    simpa using this
  · intro h
    rw [List.filter_eq_self.2]
    intro x hx
    simpa using h x hx
set_option maxHeartbeats 1000000 in
theorem rremove_any (A : Option Addr) (c : Nat) (L : List Hold) (id : Int) (w : World) (hL : L.length ≤ 64) (hs : HS w (.slice A L.length c) L) :
    Calls Try.prog 21 #[.slice A L.length c, .int .i64 id] w fun e w' => ∃ v, e = .returned (.tuple #[v, .bool (hasId L id)]) ∧ HO w' v (remL L id) ∧ New w v ∧ Keeps [] w w' := by
  obtain ⟨p, hp⟩ : ∃ p : Hold → Bool, p = fun x => decide (x.id ≠ id) := ⟨_, rfl⟩
  have HP := hide hp
  go_enter Try.func21, Try.ntmps21
  go_wp2
  clear hp
  go_loopw [6, 7] (fun s6 s7 wr => ∃ k : Nat, k ≤ L.length ∧ s7 = .int .i64 k ∧ Hid (HO wr s6 ((L.take k).filter p)) ∧ Hid (New w s6) ∧ Hid (Keeps [] w wr)) (fun _ s7 _ => L.length - (intOf s7).toNat)
  case atStart => exact ⟨0, Nat.zero_le _, rfl, hide (by simpa using own_nil w), hide (new_nil w), hide (Keeps.refl _ _)⟩
  case round =>
    obtain ⟨k, hk, rfl, HOW, HN, HK⟩ := hrel
    by_cases hlt : k < L.length
    · have hltz : (k : Int) < (L.length : Int) := by omega
      have hk0 : (0 : Int) ≤ (k : Int) := by omega
      obtain ⟨b, o, rfl, hcell⟩ := (Src.keep hs HK.out (by simp)).headN (by omega) (by omega)
      obtain ⟨c0, c1, c2, c3, c4, c5, c6, c7, c8, c9⟩ := hold_cells hcell k hlt
      have HT := hide (filter_succ hlt p)
      have hfl := filter_len hk p
      clear hcell hs
      generalize L[k] = y at c0 c1 c2 c3 c4 c5 c6 c7 c8 c9 HT
      by_cases hq : y.id = id
      · have HO2 := hide (show HO wr u6 ((L.take (k + 1)).filter p) by
          rw [HT.out, HP.out]; simp only [hq, ne_eq, not_true, decide_false, Bool.false_eq_true, if_false, List.append_nil]; have := HOW.out; rwa [HP.out] at this)
        have hb0 : (y.id != id) = false := by simp [hq]
        rw [hq] at hb0 c0
        clear HT hq
        go_wp2
        go_roundw
        case measure => simp [intOf]; omega
        case rel => exact ⟨k + 1, by omega, by go_num, HO2, HN, HK⟩
      · have HT' := hide (show (L.take (k + 1)).filter p = (L.take k).filter p ++ [y] by rw [HT.out, HP.out]; simp [hq])
        have hb0 : (y.id != id) = true := by simp [hq]
        clear HT hq
        go_wp2_with (with_reducible refine Halt.append ?_)
        refine Halt.on ?_
        refine wpList_push rfl _ _ rfl w wr u6 _ y _ rfl rfl rfl HOW.out HN.out HK.out (by omega) ?_
        intro v' w2 HO2 HN2 HK2
        replace HO2 := hide (show HO w2 v' ((L.take (k + 1)).filter p) by rw [HT'.out]; exact HO2.out)
        go_wp2
        go_roundw
        case measure => simp [intOf]; omega
        case rel => exact ⟨k + 1, by omega, by go_num, HO2, HN2, HK2⟩
    · have hltz : ¬ (k : Int) < (L.length : Int) := by omega
      obtain rfl : k = L.length := by omega
      have HO2 := hide (show HO wr u6 (L.filter p) by have := HOW.out; rwa [List.take_length] at this)
      have HLN := hide (rem_len (L := L) (id := id))
      clear HOW
      obtain ⟨A2, c2, hv2, hle2, hc2⟩ := HO.form HO2.out
      have HV := hide hv2
      clear hs
      cases hh : hasId L id with
      | true =>
        have hnl : ¬ (L.filter p).length = L.length := by
          rw [HP.out]
          intro e
          rw [HLN.out.1 e] at hh
          cases hh
        have HR := hide (show remL L id = L.filter p by rw [remL, hh, HP.out]; rfl)
        have HH := hide hh
        clear hh
        generalize (L.filter p).length = m at *
        have hb1 : ((m : Int) == (L.length : Int)) = false := by simp; omega
        have hb2 : (m == L.length) = false := by simp [hnl]
        subst hv2
        go_wp2
        go_ret2
        exact ⟨_, by rw [HH.out]; rfl, by rw [HR.out]; exact HO2.out, HN.out, HK.out⟩
      | false =>
        have hnl : (L.filter p).length = L.length := by
          rw [HP.out]
          exact HLN.out.2 hh
        have HR := hide (show remL L id = [] by rw [remL, hh]; rfl)
        have HH := hide hh
        clear hh
        rw [hnl] at hv2
        have hb1 : ((L.length : Int) == (L.length : Int)) = true := by simp
        subst hv2
        clear hnl HO2 hle2 hc2
        go_wp2
        go_ret2
        exact ⟨_, by rw [HH.out]; rfl, by rw [HR.out]; exact own_nil _, new_nil _, HK.out⟩
end Go.Proofs.Ytlpmalkjbagbgaa

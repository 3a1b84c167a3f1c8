/- The law QueueServes. -/
import Derived.Test.YtlpmalkjbagbgaaFors
import Derived.Deep.DeepCutAuto
namespace Go.Proofs.Ytlpmalkjbagbgaa
open Go.RowKit Go.Shelf
/-- How many of the first k are served. -/
def nAt (sv : Hold → Bool) (a : List Hold) (k : Nat) : Nat := ((a.take k).filter sv).length
theorem nAt_succ {sv : Hold → Bool} {a : List Hold} {k : Nat} (hk : k < a.length) : nAt sv a (k + 1) = nAt sv a k + if sv a[k] then 1 else 0 := by
  unfold nAt
  rw [filter_succ hk, List.length_append]
  cases sv a[k] <;> simp
theorem nAt_end (sv : Hold → Bool) (a : List Hold) : nAt sv a a.length = (a.filter sv).length := by simp [nAt]
theorem nAt_le (sv : Hold → Bool) (a : List Hold) (k : Nat) : nAt sv a k ≤ a.length := Nat.le_trans (List.length_filter_le _ _) (by simp; omega)
theorem served_at {sv : Hold → Bool} {a f : List Hold} {k : Nat} (hf : f = a.filter sv) (hk : k < a.length) (h : sv a[k] = true) : ∃ h' : nAt sv a k < f.length, f[nAt sv a k] = a[k] := by
  subst hf
  have e : a.filter sv = (a.take k).filter sv ++ a[k] :: (a.drop (k + 1)).filter sv := by
    conv => lhs; rw [← List.take_append_drop k a, List.filter_append, List.drop_eq_getElem_cons hk]
    rw [List.filter_cons, h]
    simp
  have hlt : nAt sv a k < (a.filter sv).length := by rw [e]; simp [nAt]
  refine ⟨hlt, ?_⟩
  simp only [e]
  rw [List.getElem_append_right (by simp [nAt])]
  simp [nAt]
theorem served_eq {sv : Hold → Bool} {a f : List Hold} {k : Nat} (hf : f = a.filter sv) (hk : k < a.length) (h : nAt sv a k < f.length) : decide (f[nAt sv a k] = a[k]) = sv a[k] := by
  cases hs : sv a[k] with
  | true =>
    obtain ⟨_, e⟩ := served_at hf hk hs
    rw [decide_eq_true e]
  | false =>
    rw [decide_eq_false]
    intro e
    have hm : f[nAt sv a k] ∈ f := List.getElem_mem _
    rw [e, hf, List.mem_filter] at hm
    rw [hs] at hm
    cases hm.2
theorem served_past {sv : Hold → Bool} {a f : List Hold} {k : Nat} (hf : f = a.filter sv) (hk : k < a.length) (h : ¬ nAt sv a k < f.length) : sv a[k] = false := by
  cases hs : sv a[k] with
  | true => exact absurd (served_at hf hk hs).1 h
  | false => rfl
theorem serve_cases (y : Hold) (item s n : Int) (T : List Sm) (b : Bool) (hb : b = serve item (titleOf s n T).1 (titleOf s n T).2 T y) :
    (0 < y.item ∧ y.item = item ∧ b = true) ∨ (0 < y.item ∧ y.item ≠ item ∧ b = false) ∨ (y.item = 0 ∧ (y.src = s ∧ y.num = n) ∧ b = true) ∨ (y.item = 0 ∧ ¬ (y.src = s ∧ y.num = n)) ∨ y.item < 0 := by
  subst hb
  unfold serve
  by_cases h1 : 0 < y.item
  · by_cases h2 : y.item = item
    · exact .inl ⟨h1, h2, by rw [if_pos h1, decide_eq_true h2]⟩
    · exact .inr (.inl ⟨h1, h2, by rw [if_pos h1, decide_eq_false h2]⟩)
  · by_cases h0 : y.item = 0
    · by_cases h2 : y.src = s ∧ y.num = n
      · exact .inr (.inr (.inl ⟨h0, h2, by rw [if_neg h1, h2.1, h2.2]; simp⟩))
      · exact .inr (.inr (.inr (.inl ⟨h0, h2⟩)))
    · exact .inr (.inr (.inr (.inr (by omega))))
set_option maxHeartbeats 8000000 in
set_option maxRecDepth 100000 in
theorem serves_walk (A : Option Addr) (c : Nat) (l : List Hold) (A' : Option Addr) (c' : Nat) (T : List Sm) (item s n day : Int) (w : World) (hl : Came w A c l) (ht : TS w (.slice A' T.length c') T) (hTc : T.length ≤ c') (hcm : c' ≤ 9223372036854775807) :
    Calls Try.prog 6 #[.slice A l.length c, .slice A' T.length c', .agg #[.int .i64 item, .int .i64 s, .int .i64 n, .int .i64 day]] w fun e w' => e = .returned (.bool true) ∧ Keeps [] w w' := by
  have k0 := (Keeps.refl [] w).alloc (.cells #[.int .i64 item, .int .i64 s, .int .i64 n, .int .i64 day] 39)
  obtain ⟨T2, hTl, hTe, hTs⟩ := TS.front (Src.keep ht k0 (by simp)) (min T.length 30) (by omega)
  have hminT : (if (30 : Int) < (T.length : Int) then (30 : Int) else (T.length : Int)) = (T2.length : Int) := by rw [hTl]; split <;> omega
  have hT30 : T2.length ≤ 30 := by omega
  have y1 : (0 : Int) ≤ (T2.length : Int) := by omega
  have y2 : (T2.length : Int) ≤ (c' : Int) := by omega
  have y3 : T2.length ≤ c' := by omega
  have HB := hide (Bk.new w 39 #[.int .i64 item, .int .i64 s, .int .i64 n, .int .i64 day])
  have HL := hide (hl.keep k0)
  have HT := hide hTs
  have HK := hide k0
  clear hl k0 hTl hTe hTs ht hTc hcm
  go_enter Try.func6, Try.ntmps6
  go_wp2_with fail
  generalize w.alloc (.cells #[Value.int .i64 item, .int .i64 s, .int .i64 n, .int .i64 day] 39) = w0 at HB HL HK HT ⊢
  refine (sanity_any w0).mono ?_
  rintro e w1 ⟨rfl, k1⟩
  replace HB := hide (HB.out.keep k1 (by simp))
  replace HL := hide (HL.out.keep k1)
  replace HT := hide (Src.keep HT.out k1 (by simp))
  replace HK := hide (HK.out.trans' k1)
  clear k1
  go_wp2_with fail
  refine (rqueue_any A c l w1 (Nat.le_trans HL.out.le HL.out.cm) HL.out.s).mono ?_
  rintro e w2 ⟨v2, rfl, ho2, hn2, k2⟩
  obtain ⟨A2, c2, hv2, hC2⟩ := Came.of ho2
  subst hv2
  have hql := que_length l
  have HC2 := hide hC2
  replace HB := hide (HB.out.keep k2 (by simp))
  replace HT := hide (Src.keep HT.out k2 (by simp))
  replace HK := hide (HK.out.trans' k2)
  clear ho2 hn2 k2 hC2 HL
  generalize que l = q at hql HC2 ⊢
  have d0 := HB.out.cell 0
  have d1 := HB.out.cell 1
  have d2 := HB.out.cell 2
  have d3 := HB.out.cell 3
  simp at d0 d1 d2 d3
  go_wp2_with fail
  refine (for_any A2 c2 q item s n A' c' T2 day w2 (by omega) (by omega) HC2.out.s HT.out).mono ?_
  rintro e w3 ⟨v3, rfl, ho3, hn3, k3⟩
  obtain ⟨sv, hsv⟩ : ∃ sv, sv = serve item (titleOf s n T2).1 (titleOf s n T2).2 T2 := ⟨_, rfl⟩
  obtain ⟨a, ha⟩ : ∃ a, a = q.filter (act day) := ⟨_, rfl⟩
  have hff : forL q item s n T2 day = a.filter sv := by rw [forL, ha, hsv]
  rw [hff] at ho3
  obtain ⟨f, hf⟩ : ∃ f, f = a.filter sv := ⟨_, rfl⟩
  rw [← hf] at ho3
  obtain ⟨A3, c3, hv3, hC3⟩ := Came.of ho3
  subst hv3
  have hal : a.length ≤ 30 := by rw [ha]; exact Nat.le_trans (List.length_filter_le _ _) hql
  have hfl : f.length ≤ 30 := by rw [hf]; exact Nat.le_trans (List.length_filter_le _ _) hal
  have HC3 := hide hC3
  replace HC2 := hide (HC2.out.keep k3)
  replace HB := hide (HB.out.keep k3 (by simp))
  replace HK := hide (HK.out.trans' k3)
  have HSV := hide hsv
  have HA := hide ha
  have HF := hide hf
  clear ho3 hn3 k3 hC3 HT hsv ha hf hff d0 d1 d2 d3
  have d2 := HB.out.cell 3
  simp at d2
  go_wp2_with fail
  refine (active_any A2 c2 q day w3 (by omega) HC2.out.s).mono ?_
  rintro e w4 ⟨v4, rfl, ho4, hn4, k4⟩
  rw [← HA.out] at ho4
  have HACT := hide (show ∀ x ∈ a, x.till ≤ day from fun x hx => by
    rw [HA.out, List.mem_filter] at hx
    simpa [act] using hx.2)
  obtain ⟨A4, c4, hv4, hC4⟩ := Came.of ho4
  subst hv4
  have HC4 := hide hC4
  replace HC3 := hide (HC3.out.keep k4)
  replace HB := hide (HB.out.keep k4 (by simp))
  replace HK := hide (HK.out.trans' k4)
  clear ho4 hn4 k4 hC4 HC2 HA d2 hql
  go_wp2
  go_loopw [10, 12, 13, 14, 15, 38] (fun s10 _ _ _ _ s38 wr => ∃ k : Nat, k ≤ a.length ∧ s38 = .int .i64 k ∧ s10 = .int .i64 (nAt sv a k : Nat) ∧ Hid (Keeps [] w4 wr)) (fun _ _ _ _ _ s38 _ => a.length - (intOf s38).toNat)
  case atStart => exact ⟨0, by omega, rfl, rfl, hide (Keeps.refl _ _)⟩
  case round =>
    obtain ⟨k, hk, rfl, rfl, HR⟩ := hrel
    by_cases hlt : k < a.length
    · have hltz : (k : Int) < (a.length : Int) := by omega
      have hk0 : (0 : Int) ≤ (k : Int) := by omega
      have hn0 := nAt_le sv a k
      obtain ⟨b, o, hA4, hcell⟩ := (HC4.out.keep HR.out).s.headN (by omega) (by omega)
      obtain ⟨e0, e1, e2, e3, e4, e5, e6, e7, e8, e9⟩ := hold_cells hcell k hlt
      have hact := HACT.out a[k] (List.getElem_mem _)
      have HEQ := hide (fun h => served_eq HF.out hlt h)
      have HPA := hide (fun h => served_past HF.out hlt h)
      have HNS := hide (nAt_succ (sv := sv) hlt)
      have hsc := serve_cases a[k] item s n T2 (sv a[k]) (by rw [HSV.out])
      clear hcell
      generalize a[k] = y at e0 e1 e2 e3 e4 e5 e6 e7 e8 e9 hact HEQ HPA HNS hsc
      generalize hat : nAt sv a k = at0 at *
      clear hat
      subst hA4
      have hka := (Keeps.refl [] wr).alloc (.cells (hc y).toArray 28)
      have HKA := hide (HR.out.trans' hka)
      have HBY := hide (Bk.new wr 28 (hc y).toArray)
      have hbb := (HB.out.keep HR.out (by simp)).keep hka (by simp)
      have HBB := hide hbb
      have d3 := hbb.cell 3
      simp at d3
      have HSC := hide hsc
      simp only [hc] at HKA HBY HBB d3
      clear hka hbb hsc
      go_wp2_with fail
      generalize wr.alloc (.cells #[Value.int .i64 y.id, .int .i64 y.patron, .int .i64 y.item, .int .i64 y.src, .int .i64 y.num, .int .i64 y.pickup, .int .i64 y.till, .int .i64 y.time, .int .i64 y.site, .int .i64 y.stamp] 28) = W1 at HKA HBY HBB d3 ⊢
      go_cut [13] (fun s13 wx => s13 = .bool (sv y) ∧ Hid (Keeps [] W1 wx))
      case first =>
        have hg := Try.guard28
        obtain ⟨b0, b1, b2, b3, b4, b5, b6, b7, b8, b9⟩ := box_cells (h := y) HBY.out
        clear HSC d3 HNS
        by_cases hin : at0 < f.length
        · obtain ⟨bf, o3, hA3, hfc⟩ := (HC3.out.keep HKA.out).s.headN (by omega) (by omega)
          obtain ⟨f0, f1, f2, f3, f4, f5, f6, f7, f8, f9⟩ := hold_cells hfc at0 hin
          have hE := eq28 f[at0] y
          rw [HEQ.out hin] at hE
          clear hfc HEQ HPA
          generalize f[at0] = z at f0 f1 f2 f3 f4 f5 f6 f7 f8 f9 hE
          have g0 : (0 : Int) ≤ (at0 : Int) := by omega
          have g1 : (at0 : Int) < (f.length : Int) := by omega
          have g2 : decide (at0 < f.length) = true := by simp [hin]
          subst hA3
          go_quiet (fail)
          go_wp2_with fail
          go_meet
          exact ⟨rfl, hide ((Keeps.refl [] W1).drewN _)⟩
        · have HF0 := hide (HPA.out hin)
          have g2 : decide (at0 < f.length) = false := by simp; omega
          clear HEQ HPA
          go_quiet (fail)
          go_wp2_with fail
          go_meet
          exact ⟨by rw [HF0.out], hide ((Keeps.refl [] W1).drewN _)⟩
      case rest =>
        obtain ⟨rfl, HKC⟩ := hcut
        have HKD := hide (HKA.out.trans' HKC.out)
        obtain ⟨b0, b1, b2, b3, b4, b5, b6, b7, b8, b9⟩ := box_cells (h := y) (HBY.out.keep HKC.out (by simp))
        have hbb := HBB.out.keep HKC.out (by simp)
        have d0 := hbb.cell 0
        have d1 := hbb.cell 1
        have d2 := hbb.cell 2
        simp at d0 d1 d2
        have hsc := HSC.out
        have hg := Try.guard24
        clear HEQ HPA HSC hbb HBY HBB HKA HKC d3
        generalize sv y = bv at HNS hsc ⊢
        rcases hsc with ⟨h1, h2, rfl⟩ | ⟨h1, h2, rfl⟩ | ⟨h1, h2, rfl⟩ | ⟨h1, h2⟩ | h1
        · have q1 : decide (0 < y.item) = true := by simp [h1]
          have q2 : (y.item == item) = true := by simp [h2]
          have q3 : (y.item != item) = false := by simp [h2]
          clear h2
          go_wp2
          go_roundw
          case measure => simp [intOf]; omega
          case rel => exact ⟨k + 1, by omega, by go_num, by rw [HNS.out]; simp, HKD⟩
        · have q1 : decide (0 < y.item) = true := by simp [h1]
          have q2 : (y.item == item) = false := by simp [h2]
          have q3 : (y.item != item) = true := by simp [h2]
          have q4 : (y.item == 0) = false := by simp; omega
          clear h2
          go_wp2
          go_roundw
          case measure => simp [intOf]; omega
          case rel => exact ⟨k + 1, by omega, by go_num, by rw [HNS.out]; simp, HKD⟩
        · have q1 : decide (0 < y.item) = false := by simp; omega
          have q4 : (y.item == 0) = true := by simp [h1]
          have hE : ∀ w, (Op.equalIn 10000 24 (.agg #[.int .i64 y.src, .int .i64 y.num]) (.agg #[.int .i64 s, .int .i64 n])).run Try.prog w = .ok true w := fun w => by rw [← decide_eq_true h2]; exact eq24 9998 _ _ _ _ w
          clear h1 h2
          go_wp2
          go_roundw
          case measure => simp [intOf]; omega
          case rel => exact ⟨k + 1, by omega, by go_num, by rw [HNS.out]; simp, HKD⟩
        · have q1 : decide (0 < y.item) = false := by simp; omega
          have q4 : (y.item == 0) = true := by simp [h1]
          have hE : ∀ w, (Op.equalIn 10000 24 (.agg #[.int .i64 y.src, .int .i64 y.num]) (.agg #[.int .i64 s, .int .i64 n])).run Try.prog w = .ok false w := fun w => by rw [← decide_eq_false h2]; exact eq24 9998 _ _ _ _ w
          clear h1 h2
          cases bv
          all_goals
            go_wp2
            go_roundw
            case measure => simp [intOf]; omega
            case rel => exact ⟨k + 1, by omega, by go_num, by rw [HNS.out]; simp, HKD⟩
        · have q1 : decide (0 < y.item) = false := by simp; omega
          have q4 : (y.item == 0) = false := by simp; omega
          clear h1
          cases bv
          all_goals
            go_wp2
            go_roundw
            case measure => simp [intOf]; omega
            case rel => exact ⟨k + 1, by omega, by go_num, by rw [HNS.out]; simp, HKD⟩
    · obtain rfl : k = a.length := by omega
      have HE := hide (show nAt sv a a.length = f.length by rw [nAt_end, HF.out])
      rw [HE.out]
      have hb : (f.length == f.length) = true := by simp
      have hltz : ¬ (a.length : Int) < (a.length : Int) := by omega
      go_wp2
      go_ret
      exact ⟨rfl, HK.out.trans' HR.out⟩
end Go.Proofs.Ytlpmalkjbagbgaa

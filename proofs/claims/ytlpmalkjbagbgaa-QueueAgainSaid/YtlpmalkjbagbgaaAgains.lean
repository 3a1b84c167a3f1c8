/- The law QueueAgain. -/
import Derived.Test.YtlpmalkjbagbgaaChanges
import Derived.Test.YtlpmalkjbagbgaaOrder
import Derived.Deep.DeepCutAuto
namespace Go.Proofs.Ytlpmalkjbagbgaa
open Go.RowKit Go.Shelf
/-- What becomes of a queue, one of whose holds is removed, put again, suspended. -/
theorem again_facts {q : List Hold} (hq : IsQ q) {j : Nat} (hj : j < q.length) (t : Int) : ∃ r : List Hold, r = remL q q[j].id ∧ hasId q q[j].id = true ∧ hasId r q[j].id = false ∧ putE r q[j] = 0 ∧ putL r q[j] = q ∧ susL q q[j].id t = q.map (susF q[j].id t) ∧ r.length + 1 = q.length := by
  have h1 : hasId q q[j].id = true := any_at hj
  have h2 : remL q q[j].id = q.filter fun x => decide (x.id ≠ q[j].id) := by rw [remL, h1]; rfl
  obtain ⟨h3, h4⟩ := back_put hq hj
  refine ⟨_, rfl, h1, ?_, ?_, ?_, ?_, ?_⟩
  · rw [h2]; exact filter_not q q[j].id
  · rw [h2]; exact h3
  · rw [h2]; exact h4
  · rw [susL, h1]; rfl
  · rw [h2]; exact back_length hq hj
set_option maxHeartbeats 8000000 in
set_option maxRecDepth 100000 in
theorem again_walk (A : Option Addr) (c : Nat) (l : List Hold) (b t : Int) (w : World) (hl : Came w A c l) (lo : 0 ≤ b) (hi : b ≤ 255) :
    Calls Try.prog 8 #[.slice A l.length c, .int .u8 b, .int .i64 t] w fun e w' => e = .returned (.bool true) ∧ Keeps [] w w' := by
  have HL := hide hl
  clear hl
  go_enter Try.func8, Try.ntmps8
  go_wp2_with fail
  refine (sanity_any w).mono ?_
  rintro e w1 ⟨rfl, k1⟩
  replace HL := hide (HL.out.keep k1)
  have HK := hide k1
  clear k1
  go_wp2_with fail
  refine (rqueue_any A c l w1 (Nat.le_trans HL.out.le HL.out.cm) HL.out.s).mono ?_
  rintro e w2 ⟨v2, rfl, ho2, hn2, k2⟩
  obtain ⟨A2, c2, hv2, hC2⟩ := Came.of ho2
  subst hv2
  have hql := que_length l
  have HC := hide hC2
  have HQ := hide (isQ_que l)
  replace HK := hide (HK.out.trans' k2)
  clear ho2 hn2 k2 hC2 HL
  generalize que l = q at hql HC HQ ⊢
  by_cases hz : q.length = 0
  · have h0 : (q.length == 0) = true := by simp [hz]
    have h1 : ((q.length : Int) == 0) = true := by simp [hz]
    clear hz
    go_wp2
    go_ret
    exact ⟨rfl, HK.out⟩
  · have h0 : (q.length == 0) = false := by rw [beq_eq_false_iff_ne]; exact hz
    have h1 : ((q.length : Int) == 0) = false := by rw [beq_eq_false_iff_ne]; omega
    obtain ⟨j, hjm⟩ : ∃ j : Nat, b % (q.length : Int) = (j : Int) := ⟨(b % (q.length : Int)).toNat, (Int.toNat_of_nonneg (Int.emod_nonneg b (by omega))).symm⟩
    have hj : j < q.length := by
      have := Int.emod_lt_of_pos b (b := (q.length : Int)) (by omega)
      rw [hjm] at this
      omega
    have hj0 : (0 : Int) ≤ (j : Int) := by omega
    have hj1 : (j : Int) < (q.length : Int) := by omega
    have hpos : (1 : Int) ≤ (q.length : Int) := by omega
    have hb8 : IntKind.i64.wrap b = b := by rw [IntKind.wrap_i64]; omega
    obtain ⟨r, hr, hh1, hh2, hp1, hp2, hs1, hrl⟩ := again_facts HQ.out hj t
    obtain ⟨bq, oq, hA2, hcell⟩ := HC.out.s.headN (by omega) (by omega)
    obtain ⟨e0, e1, e2, e3, e4, e5, e6, e7, e8, e9⟩ := hold_cells hcell j hj
    clear hcell hz
    subst hA2
    generalize q[j] = y at hr hh1 hh2 hp1 hp2 hs1 e0 e1 e2 e3 e4 e5 e6 e7 e8 e9
    have HR := hide hr
    have HH1 := hide hh1
    have HH2 := hide hh2
    have HP1 := hide hp1
    have HP2 := hide hp2
    have HS1 := hide hs1
    have hka := (Keeps.refl [] w2).alloc (.cells (hc y).toArray 28)
    replace HK := hide (HK.out.trans' hka)
    replace HC := hide (HC.out.keep hka)
    have HBY := hide (Bk.new w2 28 (hc y).toArray)
    simp only [hc] at HK HC HBY
    clear hr hh1 hh2 hp1 hp2 hs1 hka HQ
    go_wp2_with fail
    generalize w2.alloc (.cells #[Value.int .i64 y.id, .int .i64 y.patron, .int .i64 y.item, .int .i64 y.src, .int .i64 y.num, .int .i64 y.pickup, .int .i64 y.till, .int .i64 y.time, .int .i64 y.site, .int .i64 y.stamp] 28) = W1 at HK HC HBY ⊢
    refine (remove_any _ c2 q y.id W1 (by omega) HC.out.s).mono ?_
    rintro e w3 ⟨v3, rfl, ho3, hn3, k3⟩
    rw [HH1.out]
    rw [← HR.out] at ho3
    obtain ⟨A3, c3, hv3, hC3⟩ := Came.of ho3
    subst hv3
    have HC3 := hide hC3
    replace HC := hide (HC.out.keep k3)
    replace HBY := hide (HBY.out.keep k3 (by simp))
    replace HK := hide (HK.out.trans' k3)
    clear ho3 hn3 k3 hC3 HR HH1 hjm hb8 e0 e1 e2 e3 e4 e5 e6 e7 e8 e9
    obtain ⟨b0, b1, b2, b3, b4, b5, b6, b7, b8, b9⟩ := box_cells (h := y) HBY.out
    go_wp2_with fail
    refine (remove_any A3 c3 r y.id w3 (by omega) HC3.out.s).mono ?_
    rintro e w4 ⟨v4, rfl, ho4, hn4, k4⟩
    rw [HH2.out]
    obtain ⟨A4, c4, hv4, _⟩ := Came.of ho4
    subst hv4
    replace HC3 := hide (HC3.out.keep k4)
    replace HC := hide (HC.out.keep k4)
    replace HBY := hide (HBY.out.keep k4 (by simp))
    replace HK := hide (HK.out.trans' k4)
    clear ho4 hn4 k4 HH2 b0 b1 b2 b3 b4 b5 b6 b7 b8 b9
    generalize (remL r y.id).length = n4
    obtain ⟨b0, b1, b2, b3, b4, b5, b6, b7, b8, b9⟩ := box_cells (h := y) HBY.out
    go_wp2_with fail
    refine (put_any A3 c3 r y w4 (by omega) HC3.out.s HC3.out.le HC3.out.cm HC3.out.nil).mono ?_
    rintro e w5 ⟨v5, rfl, ho5, hn5, k5⟩
    rw [HP1.out]
    rw [HP2.out] at ho5
    obtain ⟨A5, c5, hv5, hC5⟩ := Came.of ho5
    subst hv5
    have HC5 := hide hC5
    replace HC := hide (HC.out.keep k5)
    replace HBY := hide (HBY.out.keep k5 (by simp))
    replace HK := hide (HK.out.trans' k5)
    clear ho5 hn5 k5 HP1 HP2 hC5 HC3 b0 b1 b2 b3 b4 b5 b6 b7 b8 b9
    obtain ⟨b0, b1, b2, b3, b4, b5, b6, b7, b8, b9⟩ := box_cells (h := y) HBY.out
    go_wp2_with fail
    refine (suspend_any _ c2 q y.id t w5 (by omega) HC.out.s).mono ?_
    rintro e w6 ⟨v6, rfl, ho6, hn6, k6⟩
    have hh1 : hasId q y.id = true := by
      cases hh : hasId q y.id with
      | true => rfl
      | false =>
        have := HS1.out
        rw [susL, hh] at this
        have := congrArg List.length this
        simp at this
        omega
    rw [hh1]
    rw [HS1.out] at ho6
    obtain ⟨A6, c6, hv6, hC6⟩ := Came.of ho6
    subst hv6
    have HC6 := hide hC6
    replace HC5 := hide (HC5.out.keep k6)
    replace HC := hide (HC.out.keep k6)
    replace HBY := hide (HBY.out.keep k6 (by simp))
    replace HK := hide (HK.out.trans' k6)
    clear ho6 hn6 k6 hC6 HS1 hh1 b0 b1 b2 b3 b4 b5 b6 b7 b8 b9
    rw [List.length_map]
    have hl1 : (q.length != q.length) = false := by simp
    have hl2 : ((r.length : Int) != (q.length : Int) - 1) = false := by simp; omega
    have hl3 : ((q.length : Int) != (q.length : Int)) = false := by simp
    go_wp2_with fail
    refine (same_self A5 _ c5 c2 q q w6 _ _ rfl rfl (by omega) rfl HC5.out.s HC.out.s).mono ?_
    rintro e w7 ⟨rfl, k7⟩
    replace HC6 := hide (HC6.out.keep k7)
    replace HC := hide (HC.out.keep k7)
    replace HBY := hide (HBY.out.keep k7 (by simp))
    replace HK := hide (HK.out.trans' k7)
    clear k7 HC5 hl1 hl2 hl3 hrl hj hj0 hj1 hpos h0 h1
    go_wp2
    go_loopw [18, 19, 99] (fun _ _ s99 wr => ∃ k : Nat, k ≤ q.length ∧ s99 = .int .i64 k ∧ Hid (Keeps [] w7 wr)) (fun _ _ s99 _ => q.length - (intOf s99).toNat)
    case atStart => exact ⟨0, by omega, rfl, hide (Keeps.refl _ _)⟩
    case round =>
      obtain ⟨k, hk, rfl, HRR⟩ := hrel
      by_cases hlt : k < q.length
      · have hltz : (k : Int) < (q.length : Int) := by omega
        have hk0 : (0 : Int) ≤ (k : Int) := by omega
        obtain ⟨bq', oq', hA2, hcell⟩ := (HC.out.keep HRR.out).s.headN (by omega) (by omega)
        injection hA2 with hA2
        injection hA2 with hA2 hA3 _
        subst hA2 hA3
        obtain ⟨e0, e1, e2, e3, e4, e5, e6, e7, e8, e9⟩ := hold_cells hcell k hlt
        have hkm : k < (q.map (susF y.id t)).length := by simpa using hlt
        have hka := (Keeps.refl [] wr).alloc (.cells (hc (susF y.id t q[k])).toArray 28)
        have HKA := hide (HRR.out.trans' hka)
        have HBN := hide (Bk.new wr 28 (hc (susF y.id t q[k])).toArray)
        obtain ⟨bs, os, hA6, hcs⟩ := (HC6.out.keep HKA.out).s.headN (by omega) (by omega)
        obtain ⟨f0, f1, f2, f3, f4, f5, f6, f7, f8, f9⟩ := hold_cells hcs k hkm
        have hby := HBY.out.keep HRR.out (by simp)
        have hne : w2.heap.size ≠ wr.heap.size := by have := hby.lt; omega
        have b0 : wr.cell? ⟨w2.heap.size, 0, none⟩ = some (.int .i64 y.id) := hby.cell 0
        have b0a : ∀ o, (wr.alloc o).cell? ⟨w2.heap.size, 0, none⟩ = some (.int .i64 y.id) := fun o => (hby.alloc o).cell 0
        have hg := Try.guard28
        simp only [List.getElem_map] at f0 f1 f2 f3 f4 f5 f6 f7 f8 f9
        clear hcell hcs hka
        subst hA6
        generalize q[k] = x at e0 e1 e2 e3 e4 e5 e6 e7 e8 e9 f0 f1 f2 f3 f4 f5 f6 f7 f8 f9 HKA HBN
        clear hkm
        by_cases hq : x.id = y.id
        · have hqb : (x.id == y.id) = true := by simp [hq]
          have hE := eq28 { x with till := t } { x with till := t }
          rw [decide_eq_true rfl] at hE
          dsimp only [hvl] at hE
          simp only [susF, if_pos hq, hc] at f0 f1 f2 f3 f4 f5 f6 f7 f8 f9 HKA HBN
          clear hq
          go_wp2
          generalize wr.alloc (.cells #[Value.int .i64 x.id, .int .i64 x.patron, .int .i64 x.item, .int .i64 x.src, .int .i64 x.num, .int .i64 x.pickup, .int .i64 t, .int .i64 x.time, .int .i64 x.site, .int .i64 x.stamp] 28) = W3 at HKA HBN f0 f1 f2 f3 f4 f5 f6 f7 f8 f9 ⊢
          obtain ⟨b0, b1, b2, b3, b4, b5, b6, b7, b8, b9⟩ := box_cells (h := { x with till := t }) HBN.out
          dsimp only at b0 b1 b2 b3 b4 b5 b6 b7 b8 b9
          go_quiet (fail)
          go_wp2
          go_roundw
          case measure => simp [intOf]; omega
          case rel => exact ⟨k + 1, by omega, by go_num, hide (HKA.out.drewN _)⟩
        · have hqb : (x.id == y.id) = false := by simp [hq]
          have hE := eq28 x x
          rw [decide_eq_true rfl] at hE
          dsimp only [hvl] at hE
          simp only [susF, if_neg hq, hc] at f0 f1 f2 f3 f4 f5 f6 f7 f8 f9 HKA HBN
          clear hq
          go_wp2
          generalize wr.alloc (.cells #[Value.int .i64 x.id, .int .i64 x.patron, .int .i64 x.item, .int .i64 x.src, .int .i64 x.num, .int .i64 x.pickup, .int .i64 x.till, .int .i64 x.time, .int .i64 x.site, .int .i64 x.stamp] 28) = W3 at HKA HBN f0 f1 f2 f3 f4 f5 f6 f7 f8 f9 ⊢
          obtain ⟨b0, b1, b2, b3, b4, b5, b6, b7, b8, b9⟩ := box_cells (h := x) HBN.out
          go_quiet (fail)
          go_wp2
          go_roundw
          case measure => simp [intOf]; omega
          case rel => exact ⟨k + 1, by omega, by go_num, hide (HKA.out.drewN _)⟩
      · obtain rfl : k = q.length := by omega
        have hltz : ¬ (q.length : Int) < (q.length : Int) := by omega
        go_wp2
        go_ret
        exact ⟨rfl, HK.out.trans' HRR.out⟩
end Go.Proofs.Ytlpmalkjbagbgaa

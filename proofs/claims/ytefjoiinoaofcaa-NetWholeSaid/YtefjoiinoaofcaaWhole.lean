/- NetWhole: what is sent arrives, in the order of sending; the law's walk. -/
import Derived.Test.YtefjoiinoaofcaaOwn
import Derived.Test.YtefjoiinoaofcaaOpen
import Derived.Test.YtefjoiinoaofcaaCap
namespace Go.Proofs.Ytefjoiinoaofcaa
open Go.RowKit

theorem ins_last (p : Par) : ∀ S : List Par, (∀ q ∈ S, ¬ p.lt q) → ins p S = S ++ [p]
  | [], _ => rfl
  | q :: S, h => by
    unfold ins
    rw [if_neg (by rw [lessB_iff]; exact h q (by simp)), ins_last p S (fun r hr => h r (by simp [hr]))]
    rfl
def Msg.par (m : Msg) (t s : Int) : Par := ⟨m.fr, m.to, m.num, m.tx, t, s⟩
/-- The copies of messages that are sent from number i on. -/
def whS (many d : Int) : Nat → List Msg → List Par
  | _, [] => []
  | i, m :: l => if 0 ≤ m.to ∧ m.to < many then m.par (10 * i + d) i :: whS many d (i + 1) l else whS many d (i + 1) l
theorem whS_snoc (many d : Int) (m : Msg) : ∀ (l : List Msg) (i : Nat), whS many d i (l ++ [m]) = whS many d i l ++ (if 0 ≤ m.to ∧ m.to < many then [m.par (10 * ((i + l.length : Nat) : Int) + d) ((i + l.length : Nat) : Int)] else [])
  | [], i => by
    unfold whS
    simp only [List.nil_append]
    unfold whS
    split <;> simp
  | x :: l, i => by
    have ih := whS_snoc many d m l (i + 1)
    rw [List.cons_append]
    unfold whS
    rw [ih, show i + 1 + l.length = i + (x :: l).length by simp; omega]
    split <;> simp
theorem whS_lt (many d : Int) : ∀ (l : List Msg) (i : Nat), ∀ q ∈ whS many d i l, q.time < 10 * ((i + l.length : Nat) : Int) + d
  | [], i, q, h => by simp [whS] at h
  | x :: l, i, q, h => by
    unfold whS at h
    have ih := whS_lt many d l (i + 1)
    have hl : i + 1 + l.length = i + (x :: l).length := by simp; omega
    split at h
    · rw [List.mem_cons] at h
      rcases h with rfl | h
      · simp [Msg.par]; omega
      · have := ih q h; rw [hl] at this; exact this
    · have := ih q h; rw [hl] at this; exact this
def whN (many d : Int) (l : List Msg) : NS := ⟨many, [⟨false, 0, d⟩], whS many d 0 l, l.length⟩
theorem whN_tr (many d : Int) (l : List Msg) : (whN many d l).tr = ⟨false, 0, d⟩ := by
  unfold NS.tr whN
  simp [trAt, Nat.mod_one]
theorem whN_send (many d : Int) (hd : 0 ≤ d) (l : List Msg) (m : Msg) : sendS (whN many d l) (10 * (l.length : Int)) m.fr m.to m.num m.tx = whN many d (l ++ [m]) := by
  have hm : max d 0 = d := by omega
  unfold sendS NS.drops
  rw [whN_tr]
  by_cases h : 0 ≤ m.to ∧ m.to < many
  · have e : (false || decide (m.to < 0) || decide ((whN many d l).nodes ≤ m.to)) = false := by
      show (false || decide (m.to < 0) || decide (many ≤ m.to)) = false
      simp only [Bool.or_eq_false_iff, decide_eq_false_iff_not]
      exact ⟨⟨trivial, by omega⟩, by omega⟩
    rw [if_neg (by rw [e]; simp)]
    have hc : copiesOf ⟨false, 0, d⟩ = 1 := rfl
    unfold whN
    rw [hc, whS_snoc, if_pos h]
    simp only [addC, hm, Nat.zero_add]
    rw [ins_last]
    · simp [Msg.par]
    · intro q hq
      have := whS_lt many d l 0 q hq
      unfold Par.lt
      simp at this ⊢
      omega
  · have e : (false || decide (m.to < 0) || decide ((whN many d l).nodes ≤ m.to)) = true := by
      show (false || decide (m.to < 0) || decide (many ≤ m.to)) = true
      simp only [Bool.or_eq_true, decide_eq_true_eq]
      omega
    rw [if_pos e]
    unfold whN
    rw [whS_snoc, if_neg h]
    simp
theorem msgs_at : ∀ (l : List Msg) (k : Nat) (m : Msg), l[k]? = some m → (l.flatMap Msg.cells)[k * 4]? = some (.int .i64 m.fr) ∧ (l.flatMap Msg.cells)[k * 4 + 1]? = some (.int .i64 m.to) ∧ (l.flatMap Msg.cells)[k * 4 + 2]? = some (.int .i64 m.num) ∧ (l.flatMap Msg.cells)[k * 4 + 3]? = some (.string m.tx)
  | [], k, m, h => by simp at h
  | q :: l, 0, m, h => by
    simp at h; subst h
    exact ⟨rfl, rfl, rfl, rfl⟩
  | q :: l, k + 1, m, h => by
    have ih := msgs_at l k m (by simpa using h)
    have e : (q :: l).flatMap Msg.cells = .int .i64 q.fr :: .int .i64 q.to :: .int .i64 q.num :: .string q.tx :: l.flatMap Msg.cells := rfl
    rw [e, show (k + 1) * 4 = k * 4 + 4 by omega]
    exact ⟨by simpa using ih.1, by simpa using ih.2.1, by simpa using ih.2.2.1, by simpa using ih.2.2.2⟩
theorem whS_step (many d : Int) (l : List Msg) (k : Nat) (h : k < l.length) : whS many d k (l.drop k) = (if 0 ≤ (l[k]).to ∧ (l[k]).to < many then [(l[k]).par (10 * k + d) k] else []) ++ whS many d (k + 1) (l.drop (k + 1)) := by
  rw [List.drop_eq_getElem_cons h]
  conv => lhs; unfold whS
  split <;> simp

set_option maxRecDepth 100000 in
set_option maxHeartbeats 1600000 in
theorem whole_walk (A : Option Addr) (c : Nat) (l : List Msg) (nodes delay : Int) (w : World) (hl : Src w 4 (.slice A l.length c) l.length (l.flatMap Msg.cells)) (hok : ∀ m ∈ l, m.ok) (hlen : l.length ≤ 9223372036854775807) (hcap : l.length ≤ c)
    (hn0 : 0 ≤ nodes) (hn1 : nodes ≤ 255) (hd0 : 0 ≤ delay) (hd1 : delay ≤ 65535) :
    Calls Try.prog 6 #[.slice A l.length c, .int .u8 nodes, .int .u16 delay] w fun e w' => e = .returned (.bool true) ∧ Keeps [] w w' := by
  obtain ⟨many, hmany⟩ : ∃ many : Int, nodes % 5 = many := ⟨_, rfl⟩
  obtain ⟨d, hd⟩ : ∃ d : Int, delay % 1000 = d := ⟨_, rfl⟩
  have hm0 : 0 ≤ many := by omega
  have hm1 : many < 5 := by omega
  have hdd0 : 0 ≤ d := by omega
  have hdd1 : d < 1000 := by omega
  obtain ⟨n, hn⟩ : ∃ n : Nat, (if (30 : Int) < (l.length : Int) then (30 : Int) else (l.length : Int)) = (n : Int) := ⟨min l.length 30, by split <;> omega⟩
  have hnl : n ≤ l.length := by split at hn <;> omega
  have hn30 : n ≤ 30 := by split at hn <;> omega
  have hnc : n ≤ c := by omega
  have HL := hide hl
  have HOK := hide hok
  clear hl hok
  go_enter Try.func6, Try.ntmps6
  go_wp2_with fail
  refine (sanity_any _).mono ?_
  rintro e w1 ⟨rfl, hk1⟩
  have HK1 := hide hk1
  clear hk1
  go_wp2_with fail
  have hsrc : Src (w1.alloc (.cells (trs [⟨false, 0, d⟩]).toArray 42)) 3 (.slice (some ⟨w1.heap.size, 0, none⟩) 1 1) 1 (trs [⟨false, 0, d⟩]) := Src.built w1 42 (trs [⟨false, 0, d⟩]).toArray 3 1 rfl _ rfl
  have HK2 := hide ((Keeps.refl [] w1).alloc (.cells (trs [⟨false, 0, d⟩]).toArray 42))
  refine (new_any many _ _ [⟨false, 0, d⟩] _ hsrc (by show 1 ≤ 1000; omega)).mono ?_
  rintro e w3 ⟨g, rfl, hm3⟩
  have HM : Hid (MadeNet w1 (whN many d []) g w3) := hide (hm3.old HK2.out)
  clear hsrc hm3 HK2
  go_wp2_with fail
  have hL : (l.take n).length = n := by simp; omega
  have HSL : Hid (Src w 4 (.slice A n c) n ((l.take n).flatMap Msg.cells)) := by
    have hs := HL.out
    refine hide ⟨?_, A, c, rfl, fun hA => ?_, fun ad had j u hu => ?_⟩
    · have : ∀ L : List Msg, (L.flatMap Msg.cells).length = L.length * 4 := fun L => by
        induction L with
        | nil => rfl
        | cons m L ih => simp [List.flatMap_cons, ih, Msg.cells]; omega
      rw [this, hL]
    · obtain ⟨_, A', c', hA', h0, _⟩ := hs
      injection hA' with hA'
      have := h0 (hA'.symm.trans hA)
      omega
    · obtain ⟨_, A', c', hA', _, hc⟩ := hs
      injection hA' with hA'
      subst hA'
      refine hc ad had j u ?_
      have e : l.flatMap Msg.cells = (l.take n).flatMap Msg.cells ++ (l.drop n).flatMap Msg.cells := by
        rw [← List.flatMap_append, List.take_append_drop]
      rw [e, List.getElem?_append_left (List.getElem?_eq_some_iff.1 hu).1]
      exact hu
  have HOKL : Hid (∀ m ∈ l.take n, m.ok) := hide (fun m hm => HOK.out m (List.mem_of_mem_take hm))
  have HD := hide hd
  clear HL HOK hn hmany hd
  generalize hLL : l.take n = L at *
  clear hLL
  go_loopw [10] (fun xv wr => ∃ k : Nat, xv = .int .i64 k ∧ k ≤ n ∧ Hid (MadeNet w1 (whN many d (L.take k)) g wr)) (fun xv _ => n - (intOf xv).toNat)
  case atStart => exact ⟨0, rfl, Nat.zero_le _, HM⟩
  case round =>
    obtain ⟨k, rfl, hk, HR⟩ := hrel
    by_cases hlt : k < n
    · have hkL : k < L.length := by omega
      have kw := HK1.out.trans' HR.out.keeps
      obtain ⟨b, o, hA, hcells⟩ := (HSL.out.keep kw (by simp)).headN (by omega) (by omega)
      subst hA
      obtain ⟨x0, x1, x2, x3⟩ := msgs_at L k L[k] (List.getElem?_eq_getElem hkL)
      have q0 := hcells _ _ x0
      have q1 := hcells _ _ x1
      have q2 := hcells _ _ x2
      have q3 := hcells _ _ x3
      rw [← Nat.add_assoc] at q1 q2 q3
      have hlt2 : (L.take k).length = k := by simp; omega
      have hs := HR.out.send (10 * k) L[k].fr L[k].to L[k].num L[k].tx (by show (L.take k).length < 100000; omega) (fun _ => ⟨by omega, by omega, by rw [whN_tr]; show d ≤ _; omega⟩)
      have e1 := whN_send many d hdd0 (L.take k) L[k]
      rw [hlt2, ← List.take_succ_eq_append_getElem hkL] at e1
      rw [e1] at hs
      unfold msgV at hs
      have HS := hide hs
      have b1 : (0 : Int) ≤ (k : Int) := by omega
      have b2 : (k : Int) < (n : Int) := by omega
      clear hs e1 hcells x0 x1 x2 x3 kw hlt2
      generalize L[k] = m at *
      go_wp2_with fail
      refine HS.out.mono ?_
      rintro e w4 ⟨rfl, h4⟩
      have H4 := hide h4
      clear h4 HS q0 q1 q2 q3
      go_wp2_with fail
      go_roundw
      case rel => exact ⟨k + 1, by go_num, by omega, H4⟩
      case measure => simp [intOf]; omega
    · have hk' : k = n := by omega
      subst hk'
      have HN : Hid (∃ N, N.S = whS many d 0 (L.drop 0) ∧ MadeNet w1 N g wr) := hide ⟨_, by simp [whN, List.take_of_length_le (Nat.le_of_eq hL)], HR.out⟩
      clear HR HM
      have hdec : decide (k < k) = false := by simp
      go_wp2_with fail
      go_loopw [11] (fun xv wr => ∃ j : Nat, xv = .int .i64 j ∧ j ≤ k ∧ Hid (∃ N, N.S = whS many d j (L.drop j) ∧ MadeNet w1 N g wr)) (fun xv _ => k - (intOf xv).toNat)
      case atStart => exact ⟨0, rfl, Nat.zero_le _, HN⟩
      case round =>
        obtain ⟨j, rfl, hj, HR⟩ := hrel
        by_cases hlt : j < k
        · have hkL : j < L.length := by omega
          have kw : Keeps [] w wr := by
            obtain ⟨N, _, hm⟩ := HR.out
            exact HK1.out.trans' hm.keeps
          obtain ⟨b, o, hA, _⟩ := (HSL.out.keep kw (by simp)).headN (by omega) (by omega)
          subst hA
          have hq : ∀ W, Keeps [] w W → W.cell? ⟨b, o + j * 4, none⟩ = some (.int .i64 L[j].fr) ∧ W.cell? ⟨b, o + j * 4 + 1, none⟩ = some (.int .i64 L[j].to) ∧ W.cell? ⟨b, o + j * 4 + 2, none⟩ = some (.int .i64 L[j].num) ∧ W.cell? ⟨b, o + j * 4 + 3, none⟩ = some (.string L[j].tx) := by
            intro W hW
            obtain ⟨b', o', hA, hcells⟩ := (HSL.out.keep hW (by simp)).headN (by omega) (by omega)
            injection hA with hA
            injection hA with hb ho
            subst hb ho
            obtain ⟨x0, x1, x2, x3⟩ := msgs_at L j L[j] (List.getElem?_eq_getElem hkL)
            exact ⟨hcells _ _ x0, by have := hcells _ _ x1; rw [← Nat.add_assoc] at this; exact this, by have := hcells _ _ x2; rw [← Nat.add_assoc] at this; exact this, by have := hcells _ _ x3; rw [← Nat.add_assoc] at this; exact this⟩
          have hst := whS_step many d L j hkL
          have hto := (HOKL.out L[j] (List.getElem_mem hkL)).1
          have b1 : (0 : Int) ≤ (j : Int) := by omega
          have b2 : (j : Int) < (k : Int) := by omega
          generalize L[j] = m at *
          obtain ⟨q0, q1, q2, q3⟩ := hq wr kw
          have HQ := hide hq
          clear hq
          by_cases hv : 0 ≤ m.to ∧ m.to < many
          · rw [if_pos hv] at hst
            have hs : Calls Try.prog 16 #[.pointer (some ⟨g, 0, none⟩)] wr fun e w' => e = .returned (.tuple #[.agg #[.int .i64 m.fr, .int .i64 m.to, .int .i64 m.num, .string m.tx], .int .i64 (10 * j + d), .bool true]) ∧ ∃ N, N.S = whS many d (j + 1) (L.drop (j + 1)) ∧ MadeNet w1 N g w' := by
              obtain ⟨N, hNS, hN⟩ := HR.out
              rw [hst] at hNS
              exact (hN.next _ _ hNS).mono fun e w' h => ⟨h.1, _, rfl, h.2⟩
            have HS := hide hs
            have d1 : decide (m.to < 0) = false := by simp; omega
            have d2 : decide (many ≤ m.to) = false := by simp; omega
            clear hs hst hv kw q0 q2 q3
            go_wp2_with fail
            refine HS.out.mono ?_
            rintro e w4 ⟨rfl, h4⟩
            have kw4 : Keeps [] w w4 := by
              obtain ⟨N, _, hm⟩ := h4
              exact HK1.out.trans' hm.keeps
            obtain ⟨q0, q1, q2, q3⟩ := HQ.out w4 kw4
            have hbl := World.block_lt_of_cell? w4 _ q0
            have H4 := hide h4
            have hd := HD.out
            have v1 : IntKind.i64.wrap (10 * (j : Int)) = 10 * j := IntWalk.i64_in _ (by omega)
            have v2 : IntKind.i64.wrap (10 * (j : Int) + d) = 10 * j + d := IntWalk.i64_in _ (by omega)
            clear h4 HS kw4 HQ
            go_wp2_with fail
            go_quiet (fail)
            clear hd v1 v2
            go_wp2_with fail
            go_roundw
            case rel =>
              refine ⟨j + 1, by go_num, by omega, hide ?_⟩
              obtain ⟨N, h1, h2⟩ := H4.out
              exact ⟨N, h1, h2.keep (((Keeps.refl [] _).alloc _).drewN nq)⟩
            case measure => simp [intOf]; omega
          · rw [if_neg hv, List.nil_append] at hst
            have HST := hide hst
            clear hst kw HQ q0 q2 q3
            by_cases hv0 : m.to < 0
            · have d1 : decide (m.to < 0) = true := by simp; omega
              go_wp2_with fail
              go_roundw
              case rel => exact ⟨j + 1, by go_num, by omega, hide (by rw [← HST.out]; exact HR.out)⟩
              case measure => simp [intOf]; omega
            · have d1 : decide (m.to < 0) = false := by simp; omega
              have d2 : decide (many ≤ m.to) = true := by simp; omega
              go_wp2_with fail
              go_roundw
              case rel => exact ⟨j + 1, by go_num, by omega, hide (by rw [← HST.out]; exact HR.out)⟩
              case measure => simp [intOf]; omega
        · have hj' : j = k := by omega
          subst hj'
          obtain ⟨N, h1, h2⟩ := HR.out
          have hN0 : N.S.length = 0 := by rw [h1, List.drop_of_length_le (by omega)]; rfl
          have HW := hide (h2.waiting 0 hN0)
          have HK := hide h2.keeps
          clear h1 h2 hN0 HR
          go_wp2_with fail
          refine HW.out.mono ?_
          rintro e w5 ⟨rfl, rfl⟩
          go_wp2_with fail
          go_ret
          exact ⟨rfl, HK1.out.trans' HK.out⟩
end Go.Proofs.Ytefjoiinoaofcaa

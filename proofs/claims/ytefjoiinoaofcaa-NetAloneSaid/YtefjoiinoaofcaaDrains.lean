/- NetDrains: what waits, and the law's walk. -/
import Derived.Test.YtefjoiinoaofcaaOwn
import Derived.Test.YtefjoiinoaofcaaOpen
namespace Go.Proofs.Ytefjoiinoaofcaa
open Go.RowKit

/-- How many copies of the next message wait. -/
def NS.adds (N : NS) : Nat := if N.tr.lost then 0 else copiesOf N.tr
/-- What holds while messages are sent. -/
structure DrInv (s : List Tr) (ts : List Int) (k : Nat) (N : NS) : Prop where
  nodes : N.nodes = 1
  scr : N.scr = s
  sent : N.sent = k
  all : ∀ p, p ∈ N.S → p.num = p.sent ∧ 0 ≤ p.num ∧ p.num < k ∧ ts.getD p.num.toNat 0 ≤ p.time
theorem DrInv.start (s : List Tr) (ts : List Int) : DrInv s ts 0 (NS.new 1 s) := ⟨rfl, rfl, rfl, by simp [NS.new]⟩
theorem send_S {N : NS} (hn : N.nodes = 1) (t n : Int) (x : ByteArray) : (sendS N t 0 0 n x).S = addC N.S 0 0 n x (t + max N.tr.delay 0) N.sent N.adds := by
  unfold sendS NS.drops NS.adds
  rw [hn]
  cases N.tr.lost <;> simp [addC]
theorem DrInv.send {s : List Tr} {ts : List Int} {k : Nat} {N : NS} (h : DrInv s ts k N) (x : ByteArray) : DrInv s ts (k + 1) (sendS N (ts.getD k 0) 0 0 k x) ∧ (sendS N (ts.getD k 0) 0 0 k x).S.length = N.S.length + N.adds := by
  refine ⟨⟨by rw [sendS_nodes, h.nodes], by rw [sendS_scr, h.scr], by rw [sendS_sent, h.sent], fun p hp => ?_⟩, ?_⟩
  · rw [send_S h.nodes, mem_addC] at hp
    rcases hp with hp | ⟨j, hj, rfl⟩
    · obtain ⟨h1, h2, h3, h4⟩ := h.all p hp
      exact ⟨h1, h2, by omega, h4⟩
    · have := h.sent
      refine ⟨by simp; omega, by simp, by simp; omega, ?_⟩
      simp
      omega
  · rw [send_S h.nodes, addC_length]

/-- What holds while copies are taken. -/
def TkInv (ts : List Int) (k : Nat) (last first : Int) (N : NS) : Prop :=
  ∀ p, p ∈ N.S → p.num = p.sent ∧ 0 ≤ p.num ∧ p.num < k ∧ ts.getD p.num.toNat 0 ≤ p.time ∧ (last < p.time ∨ last = p.time ∧ first < p.sent)
theorem TkInv.next {ts : List Int} {k : Nat} {last first : Int} {N : NS} {q : Par} {S : List Par} (h : TkInv ts k last first N) (hs : Sorted N.S) (e : N.S = q :: S) : TkInv ts k q.time q.num { N with S := S } := by
  intro p hp
  have hp' : p ∈ N.S := by rw [e]; simp at hp ⊢; exact .inr hp
  obtain ⟨h1, h2, h3, h4, _⟩ := h p hp'
  refine ⟨h1, h2, h3, h4, ?_⟩
  rw [e] at hs
  have h5 := (List.pairwise_cons.1 hs).1 p hp
  have h6 := (h q (by rw [e]; simp)).1
  unfold Par.lt at h5
  omega
theorem uv_at (l : List Int) (k : Nat) (h : k < l.length) : (uv l)[k]? = some (.int .u16 (l.getD k 0)) := by
  unfold uv
  simp [h]

set_option maxRecDepth 100000 in
set_option maxHeartbeats 3200000 in
theorem drains_walk (A : Option Addr) (c : Nat) (l : List Tr) (A1 : Option Addr) (c1 : Nat) (ts : List Int) (w : World) (hl : Src w 3 (.slice A l.length c) l.length (trs l)) (hlen : l.length ≤ 9223372036854775807)
    (ht : Src w 1 (.slice A1 ts.length c1) ts.length (uv ts)) (hts : ∀ x ∈ ts, 0 ≤ x ∧ x ≤ 65535) (htl : ts.length ≤ 9223372036854775807) :
    Calls Try.prog 4 #[.slice A l.length c, .slice A1 ts.length c1] w fun e w' => e = .returned (.bool true) ∧ Keeps [] w w' := by
  have HL := hide hl
  have HT := hide ht
  have hts' : ∀ k, 0 ≤ ts.getD k 0 ∧ ts.getD k 0 ≤ 65535 := fun k => by
    by_cases hk : k < ts.length
    · have := hts _ (List.getElem_mem hk)
      simpa [hk] using this
    · simp [List.getElem?_eq_none (Nat.not_lt.1 hk)]
  have HTS := hide hts'
  clear hl ht hts hts'
  go_enter Try.func4, Try.ntmps4
  go_wp2_with fail
  refine (sanity_any _).mono ?_
  rintro e w1 ⟨rfl, hk1⟩
  have HK1 := hide hk1
  clear hk1
  go_wp2_with fail
  refine (script_any A c l w1 (HL.out.keep HK1.out (by simp)) hlen).mono ?_
  rintro e w2 ⟨v, rfl, hv, hk2, hnew⟩
  obtain ⟨n, hn⟩ : ∃ n, (scrL l).length = n := ⟨_, rfl⟩
  have hn12 : n ≤ 12 := by rw [← hn]; exact scrL_length l
  obtain ⟨A2, c2, hvs⟩ := hv.slice
  rw [hn] at hvs
  subst hvs
  have hsrc := hv.src
  have HV := hide hv
  have HN := hide hn
  have HK2 := hide (HK1.out.trans' hk2)
  clear hv hnew hk2 hn
  go_wp2_with fail
  have hnn := new_any 1 A2 c2 (scrL l) w2 (by rw [HN.out] at hsrc ⊢; exact hsrc) (by rw [HN.out]; omega)
  rw [HN.out] at hnn
  refine hnn.mono ?_
  rintro e w3 ⟨g, rfl, hm3⟩
  have HM3 := hide hm3
  clear hm3 hnn hsrc HL
  go_wp2_with fail
  go_loopw [8, 9] (fun mv kv wr => ∃ (k : Nat) (N : NS), mv = .int .i64 N.S.length ∧ kv = .int .i64 k ∧ k ≤ ts.length ∧ k ≤ 40 ∧ N.S.length ≤ 8 * k ∧ Hid (MadeNet w2 N g wr ∧ DrInv (scrL l) ts k N)) (fun _ kv _ => 40 - (intOf kv).toNat)
  case atStart => exact ⟨0, _, rfl, rfl, Nat.zero_le _, by omega, by simp [NS.new], hide ⟨HM3.out, DrInv.start _ _⟩⟩
  case round =>
    obtain ⟨k, N, rfl, rfl, hk, hk40, hml, HR⟩ := hrel
    by_cases hlt : k < ts.length ∧ k < 40
    · obtain ⟨hlt1, hlt2⟩ := hlt
      have d40 : decide ((k : Int) < 40) = true := by simp; omega
      have kw := HK2.out.trans' HR.out.1.keeps
      obtain ⟨b, o, hA, hcells⟩ := (HT.out.keep kw (by simp)).headN (by omega) (by omega)
      subst hA
      have q0 := hcells _ _ (uv_at ts k hlt1)
      have hb := HTS.out k
      have hb0 := hb.1
      have hb1 := hb.2
      have hs := HR.out.1.send (ts.getD k 0) 0 0 k ⟨#[]⟩ (by rw [HR.out.2.sent]; omega) (fun _ => ⟨by omega, by omega, scr_delay _ l HR.out.2.scr⟩)
      obtain ⟨hi2, hln⟩ := HR.out.2.send ⟨#[]⟩
      have had : N.adds ≤ 8 := by unfold NS.adds; split; omega; exact (copiesOf_le _).1
      have htr : N.tr = if n = 0 then ⟨false, 1, 1⟩ else trAt (scrL l) (k % n) := by unfold NS.tr; rw [HR.out.2.scr, HR.out.2.sent, HN.out]
      unfold msgV at hs
      have HS := hide hs
      have HI2 := hide hi2
      have HLN := hide hln
      have HTR := hide htr
      have b1 : (0 : Int) ≤ (k : Int) := by omega
      have b2 : (k : Int) < (ts.length : Int) := by omega
      clear hs hi2 hln hcells kw hb htr
      generalize hM : sendS N (ts.getD k 0) 0 0 k ⟨#[]⟩ = M at *
      have HMM := hide hM
      clear hM
      generalize ts.getD k 0 = tk at *
      go_wp2_with fail
      refine HS.out.mono ?_
      rintro e w4 ⟨rfl, h4⟩
      have H4 := hide h4
      clear HS q0
      have hmn : N.S.length + N.adds = M.S.length := HLN.out.symm
      have hm8 : M.S.length ≤ 8 * (k + 1) := by omega
      by_cases hz : n = 0
      · have hadd : N.adds = 1 := by unfold NS.adds; rw [HTR.out, if_pos hz]; rfl
        have hsum : (N.S.length : Int) + 1 = (M.S.length : Int) := by omega
        have HRL : Hid (MadeNet w2 M g w4 ∧ DrInv (scrL l) ts (k + 1) M) := hide ⟨h4, HI2.out⟩
        subst hz
        clear h4 HI2 HLN HTR hmn hadd
        go_wp2_with fail
        go_roundw
        case rel => exact ⟨k + 1, M, rfl, by go_num, by omega, by omega, hm8, HRL⟩
        case measure => simp [intOf]; omega
      · obtain ⟨r, hr⟩ : ∃ r, k % n = r := ⟨_, rfl⟩
        have hrn : r < n := by rw [← hr]; exact Nat.mod_lt _ (by omega)
        have hri : (k : Int) % (n : Int) = (r : Int) := by omega
        have hown4 : Own w4 42 3 (.slice A2 n c2) n (trs (scrL l)) := by
          have := HV.out.keep h4.keeps (by simp)
          rw [HN.out] at this
          exact this
        obtain ⟨b5, c5, _, hv5, _, _, _, _, _, hc5⟩ := hown4.head (by omega)
        injection hv5 with hv5 _ hcc5
        subst hv5 hcc5
        obtain ⟨x0, x1, x2⟩ := trs_at (scrL l) r (by rw [HN.out]; exact hrn)
        have p0 := hc5 _ _ x0
        have p1 := hc5 _ _ x1
        have htr2 : N.tr = trAt (scrL l) r := by rw [HTR.out, if_neg hz, hr]
        rw [← htr2] at p0 p1
        have c1 : (0 : Int) ≤ (r : Int) := by omega
        have c2' : (r : Int) < (n : Int) := by omega
        have HRL : Hid (MadeNet w2 M g w4 ∧ DrInv (scrL l) ts (k + 1) M) := hide ⟨h4, HI2.out⟩
        have hgt : decide ((0 : Int) < (n : Int)) = true := by simp; omega
        obtain ⟨m0, hm0⟩ : ∃ m : Int, (if N.tr.copies < 1 then 1 else N.tr.copies) = m := ⟨_, rfl⟩
        obtain ⟨cc, hcc⟩ : ∃ cc : Nat, (if 8 < m0 then 8 else m0) = (cc : Int) := ⟨copiesOf N.tr, by unfold copiesOf; split at hm0 <;> split <;> omega⟩
        have hcv : cc = copiesOf N.tr := by unfold copiesOf; split at hm0 <;> split at hcc <;> omega
        have hc8 : cc ≤ 8 := by rw [hcv]; exact (copiesOf_le _).1
        unfold NS.adds at hmn had
        clear h4 HI2 HLN HTR hown4 hc5 x0 x1 x2 htr2 hr
        generalize N.tr = t at *
        cases hlo : t.lost with
        | true =>
          rw [hlo] at p0 hmn
          have hsum : (N.S.length : Int) = (M.S.length : Int) := by simp at hmn; omega
          have HSM := hide hsum
          clear hsum hmn had hlo hcv
          go_wp2_with fail
          go_roundw
          case rel => exact ⟨k + 1, M, by rw [← HSM.out], by go_num, by omega, by omega, hm8, HRL⟩
          case measure => simp [intOf]; omega
        | false =>
          rw [hlo] at p0 hmn
          have hsum : (N.S.length : Int) + (cc : Int) = (M.S.length : Int) := by simp at hmn; omega
          clear hmn had hlo hcv
          go_wp2_with fail
          go_roundw
          case rel => exact ⟨k + 1, M, rfl, by go_num, by omega, by omega, hm8, HRL⟩
          case measure => simp [intOf]; omega
    · by_cases hlt1 : k < ts.length
      · have d40 : decide ((k : Int) < 40) = false := by simp; omega
        have d41 : decide (k < ts.length) = true := by simpa using hlt1
        go_wp2_with fail
        refine (HR.out.1.waiting _ rfl).mono ?_
        rintro e w4 ⟨rfl, rfl⟩
        have htk : TkInv ts ts.length (-1) (-1) N := fun p hp => by
          obtain ⟨h1, h2, h3, h4⟩ := HR.out.2.all p hp
          have := (HTS.out p.num.toNat).1
          exact ⟨h1, h2, by omega, h4, .inl (by omega)⟩
        obtain ⟨mm, hmm⟩ : ∃ mm, N.S.length = mm := ⟨_, rfl⟩
        rw [hmm]
        have HQ : Hid (∃ M, M.S.length + 0 = mm ∧ MadeNet w2 M g wr ∧ TkInv ts ts.length (-1) (-1) M) := hide ⟨N, by omega, HR.out.1, htk⟩
        have hm320 : mm ≤ 320 := by omega
        clear htk hmm HR hml HM3 HV HN
        go_wp2_with fail
        go_loopw [11, 12, 13] (fun lv fv jv wr => ∃ (j : Nat) (last first : Int), lv = .int .i64 last ∧ fv = .int .i64 first ∧ jv = .int .i64 j ∧ j ≤ mm ∧ Hid (∃ M, M.S.length + j = mm ∧ MadeNet w2 M g wr ∧ TkInv ts ts.length last first M)) (fun _ _ jv _ => mm - (intOf jv).toNat)
        case atStart => exact ⟨0, -1, -1, rfl, rfl, rfl, Nat.zero_le _, HQ⟩
        case round =>
          obtain ⟨j, last, first, rfl, rfl, rfl, hj, HR⟩ := hrel
          by_cases hlt : j < mm
          · obtain ⟨M, hM1, hM2, hM3⟩ := HR.out
            obtain ⟨q, S, hS⟩ : ∃ q S, M.S = q :: S := by
              cases hS : M.S with
              | nil => rw [hS] at hM1; simp at hM1; omega
              | cons q S => exact ⟨q, S, rfl⟩
            obtain ⟨t1, t2, t3, t4, t5⟩ := hM3 q (by rw [hS]; simp)
            obtain ⟨r, hr⟩ : ∃ r : Nat, q.num = (r : Int) := ⟨q.num.toNat, by omega⟩
            have hrt : ts.getD r 0 ≤ q.time := by rw [hr] at t4; simpa using t4
            have hs := hM2.next q S hS
            have hs' : Calls Try.prog 16 #[.pointer (some ⟨g, 0, none⟩)] wr fun e w' => e = .returned (.tuple #[.agg #[.int .i64 q.fr, .int .i64 q.to, .int .i64 r, .string q.tx], .int .i64 q.time, .bool true]) ∧ ∃ M, M.S.length + (j + 1) = mm ∧ MadeNet w2 M g w' ∧ TkInv ts ts.length q.time r M := by
              rw [← hr]
              refine hs.mono fun e w' h => ⟨h.1, _, ?_, h.2, hM3.next hM2.ok.sorted hS⟩
              rw [hS] at hM1
              simp at hM1 ⊢
              omega
            have hrl : r < ts.length := by omega
            have HS := hide hs'
            have c1 : decide (q.time < last) = false := by simp; omega
            have c3 : decide ((r : Int) < 0) = false := by simp
            have c4 : decide (ts.length ≤ r) = false := by simp; omega
            have hb0 := (HTS.out r).1
            have hb1 := (HTS.out r).2
            have c5 : decide (q.time < ts.getD r 0) = false := decide_eq_false (by omega)
            have b1 : (0 : Int) ≤ (r : Int) := by omega
            have b2 : (r : Int) < (ts.length : Int) := by omega
            have t5' : q.time = last → first < (r : Int) := fun h => by omega
            have kw : Keeps [] w wr := HK2.out.trans' hM2.keeps
            obtain ⟨b, o, hA, _⟩ := (HT.out.keep kw (by simp)).headN (by omega) (by omega)
            subst hA
            have hq : ∀ W, Keeps [] w W → W.cell? ⟨b, o + r, none⟩ = some (.int .u16 (ts.getD r 0)) := by
              intro W hW
              obtain ⟨b', o', hA, hcells⟩ := (HT.out.keep hW (by simp)).headN (by omega) (by omega)
              injection hA with hA
              injection hA with hb ho
              subst hb ho
              exact hcells _ _ (uv_at ts r hrl)
            have HQQ := hide hq
            generalize ts.getD r 0 = tr at *
            generalize q.time = qt at *
            clear hq kw hM1 hM2 hM3 hS t1 t2 t3 t4 t5 hr hrt hs hs' HR
            by_cases he : qt = last
            · have e1 : (qt == last) = true := by simpa using he
              have c2 : decide ((r : Int) < first) = false := by have := t5' he; simp; omega
              have HE := hide he
              clear he t5'
              go_wp2_with fail
              refine HS.out.mono ?_
              rintro e w5 ⟨rfl, h5⟩
              have kw5 : Keeps [] w w5 := by
                obtain ⟨M, _, hm, _⟩ := h5
                exact HK2.out.trans' hm.keeps
              have q0 := HQQ.out w5 kw5
              have hbl := World.block_lt_of_cell? w5 _ q0
              have H5 := hide h5
              clear h5 HS kw5 HQQ
              go_wp2_with fail
              go_quiet (fail)
              clear c1 c2 c3 c4 c5 e1
              go_wp2_with fail
              go_roundw
              case rel =>
                refine ⟨j + 1, qt, r, rfl, rfl, by go_num, by omega, hide ?_⟩
                obtain ⟨M, h1, h2, h3⟩ := H5.out
                exact ⟨M, h1, h2.keep (((Keeps.refl [] _).alloc _).drewN nq), h3⟩
              case measure => simp [intOf]; omega
            · have e1 : (qt == last) = false := by simpa using he
              clear t5'
              go_wp2_with fail
              refine HS.out.mono ?_
              rintro e w5 ⟨rfl, h5⟩
              have kw5 : Keeps [] w w5 := by
                obtain ⟨M, _, hm, _⟩ := h5
                exact HK2.out.trans' hm.keeps
              have q0 := HQQ.out w5 kw5
              have hbl := World.block_lt_of_cell? w5 _ q0
              have H5 := hide h5
              clear h5 HS kw5 HQQ
              go_wp2_with fail
              go_quiet (fail)
              clear c1 c3 c4 c5 e1
              go_wp2_with fail
              go_roundw
              case rel =>
                refine ⟨j + 1, qt, r, rfl, rfl, by go_num, by omega, hide ?_⟩
                obtain ⟨M, h1, h2, h3⟩ := H5.out
                exact ⟨M, h1, h2.keep (((Keeps.refl [] _).alloc _).drewN nq), h3⟩
              case measure => simp [intOf]; omega
          · obtain ⟨M, hM1, hM2, hM3⟩ := HR.out
            have hM0 : M.S = [] := List.eq_nil_of_length_eq_zero (by omega)
            have hs := hM2.empty hM0
            unfold msgV at hs
            have HS := hide hs
            have HM0 := hide hM0
            clear hs hM0 hM1 hM2 hM3 HR
            go_wp2_with fail
            refine HS.out.mono ?_
            rintro e w5 ⟨rfl, h5⟩
            have h5' := h5.keep ((Keeps.refl [] _).alloc (.cells #[.int .i64 0, .int .i64 0, .int .i64 0, .string ⟨#[]⟩] 31))
            have HW5 := hide (h5'.waiting 0 (by rw [HM0.out]; rfl))
            have HK5 := hide h5'.keeps
            clear h5 h5' HS
            go_wp2_with fail
            refine HW5.out.mono ?_
            rintro e w6 ⟨rfl, rfl⟩
            go_wp2_with fail
            go_ret
            exact ⟨rfl, HK2.out.trans' HK5.out⟩
      · have d41 : decide (k < ts.length) = false := by simpa using hlt1
        go_wp2_with fail
        refine (HR.out.1.waiting _ rfl).mono ?_
        rintro e w4 ⟨rfl, rfl⟩
        have htk : TkInv ts ts.length (-1) (-1) N := fun p hp => by
          obtain ⟨h1, h2, h3, h4⟩ := HR.out.2.all p hp
          have := (HTS.out p.num.toNat).1
          exact ⟨h1, h2, by omega, h4, .inl (by omega)⟩
        obtain ⟨mm, hmm⟩ : ∃ mm, N.S.length = mm := ⟨_, rfl⟩
        rw [hmm]
        have HQ : Hid (∃ M, M.S.length + 0 = mm ∧ MadeNet w2 M g wr ∧ TkInv ts ts.length (-1) (-1) M) := hide ⟨N, by omega, HR.out.1, htk⟩
        have hm320 : mm ≤ 320 := by omega
        clear htk hmm HR hml HM3 HV HN
        go_wp2_with fail
        go_loopw [11, 12, 13] (fun lv fv jv wr => ∃ (j : Nat) (last first : Int), lv = .int .i64 last ∧ fv = .int .i64 first ∧ jv = .int .i64 j ∧ j ≤ mm ∧ Hid (∃ M, M.S.length + j = mm ∧ MadeNet w2 M g wr ∧ TkInv ts ts.length last first M)) (fun _ _ jv _ => mm - (intOf jv).toNat)
        case atStart => exact ⟨0, -1, -1, rfl, rfl, rfl, Nat.zero_le _, HQ⟩
        case round =>
          obtain ⟨j, last, first, rfl, rfl, rfl, hj, HR⟩ := hrel
          by_cases hlt : j < mm
          · obtain ⟨M, hM1, hM2, hM3⟩ := HR.out
            obtain ⟨q, S, hS⟩ : ∃ q S, M.S = q :: S := by
              cases hS : M.S with
              | nil => rw [hS] at hM1; simp at hM1; omega
              | cons q S => exact ⟨q, S, rfl⟩
            obtain ⟨t1, t2, t3, t4, t5⟩ := hM3 q (by rw [hS]; simp)
            obtain ⟨r, hr⟩ : ∃ r : Nat, q.num = (r : Int) := ⟨q.num.toNat, by omega⟩
            have hrt : ts.getD r 0 ≤ q.time := by rw [hr] at t4; simpa using t4
            have hs := hM2.next q S hS
            have hs' : Calls Try.prog 16 #[.pointer (some ⟨g, 0, none⟩)] wr fun e w' => e = .returned (.tuple #[.agg #[.int .i64 q.fr, .int .i64 q.to, .int .i64 r, .string q.tx], .int .i64 q.time, .bool true]) ∧ ∃ M, M.S.length + (j + 1) = mm ∧ MadeNet w2 M g w' ∧ TkInv ts ts.length q.time r M := by
              rw [← hr]
              refine hs.mono fun e w' h => ⟨h.1, _, ?_, h.2, hM3.next hM2.ok.sorted hS⟩
              rw [hS] at hM1
              simp at hM1 ⊢
              omega
            have hrl : r < ts.length := by omega
            have HS := hide hs'
            have c1 : decide (q.time < last) = false := by simp; omega
            have c3 : decide ((r : Int) < 0) = false := by simp
            have c4 : decide (ts.length ≤ r) = false := by simp; omega
            have hb0 := (HTS.out r).1
            have hb1 := (HTS.out r).2
            have c5 : decide (q.time < ts.getD r 0) = false := decide_eq_false (by omega)
            have b1 : (0 : Int) ≤ (r : Int) := by omega
            have b2 : (r : Int) < (ts.length : Int) := by omega
            have t5' : q.time = last → first < (r : Int) := fun h => by omega
            have kw : Keeps [] w wr := HK2.out.trans' hM2.keeps
            obtain ⟨b, o, hA, _⟩ := (HT.out.keep kw (by simp)).headN (by omega) (by omega)
            subst hA
            have hq : ∀ W, Keeps [] w W → W.cell? ⟨b, o + r, none⟩ = some (.int .u16 (ts.getD r 0)) := by
              intro W hW
              obtain ⟨b', o', hA, hcells⟩ := (HT.out.keep hW (by simp)).headN (by omega) (by omega)
              injection hA with hA
              injection hA with hb ho
              subst hb ho
              exact hcells _ _ (uv_at ts r hrl)
            have HQQ := hide hq
            generalize ts.getD r 0 = tr at *
            generalize q.time = qt at *
            clear hq kw hM1 hM2 hM3 hS t1 t2 t3 t4 t5 hr hrt hs hs' HR
            by_cases he : qt = last
            · have e1 : (qt == last) = true := by simpa using he
              have c2 : decide ((r : Int) < first) = false := by have := t5' he; simp; omega
              have HE := hide he
              clear he t5'
              go_wp2_with fail
              refine HS.out.mono ?_
              rintro e w5 ⟨rfl, h5⟩
              have kw5 : Keeps [] w w5 := by
                obtain ⟨M, _, hm, _⟩ := h5
                exact HK2.out.trans' hm.keeps
              have q0 := HQQ.out w5 kw5
              have hbl := World.block_lt_of_cell? w5 _ q0
              have H5 := hide h5
              clear h5 HS kw5 HQQ
              go_wp2_with fail
              go_quiet (fail)
              clear c1 c2 c3 c4 c5 e1
              go_wp2_with fail
              go_roundw
              case rel =>
                refine ⟨j + 1, qt, r, rfl, rfl, by go_num, by omega, hide ?_⟩
                obtain ⟨M, h1, h2, h3⟩ := H5.out
                exact ⟨M, h1, h2.keep (((Keeps.refl [] _).alloc _).drewN nq), h3⟩
              case measure => simp [intOf]; omega
            · have e1 : (qt == last) = false := by simpa using he
              clear t5'
              go_wp2_with fail
              refine HS.out.mono ?_
              rintro e w5 ⟨rfl, h5⟩
              have kw5 : Keeps [] w w5 := by
                obtain ⟨M, _, hm, _⟩ := h5
                exact HK2.out.trans' hm.keeps
              have q0 := HQQ.out w5 kw5
              have hbl := World.block_lt_of_cell? w5 _ q0
              have H5 := hide h5
              clear h5 HS kw5 HQQ
              go_wp2_with fail
              go_quiet (fail)
              clear c1 c3 c4 c5 e1
              go_wp2_with fail
              go_roundw
              case rel =>
                refine ⟨j + 1, qt, r, rfl, rfl, by go_num, by omega, hide ?_⟩
                obtain ⟨M, h1, h2, h3⟩ := H5.out
                exact ⟨M, h1, h2.keep (((Keeps.refl [] _).alloc _).drewN nq), h3⟩
              case measure => simp [intOf]; omega
          · obtain ⟨M, hM1, hM2, hM3⟩ := HR.out
            have hM0 : M.S = [] := List.eq_nil_of_length_eq_zero (by omega)
            have hs := hM2.empty hM0
            unfold msgV at hs
            have HS := hide hs
            have HM0 := hide hM0
            clear hs hM0 hM1 hM2 hM3 HR
            go_wp2_with fail
            refine HS.out.mono ?_
            rintro e w5 ⟨rfl, h5⟩
            have h5' := h5.keep ((Keeps.refl [] _).alloc (.cells #[.int .i64 0, .int .i64 0, .int .i64 0, .string ⟨#[]⟩] 31))
            have HW5 := hide (h5'.waiting 0 (by rw [HM0.out]; rfl))
            have HK5 := hide h5'.keeps
            clear h5 h5' HS
            go_wp2_with fail
            refine HW5.out.mono ?_
            rintro e w6 ⟨rfl, rfl⟩
            go_wp2_with fail
            go_ret
            exact ⟨rfl, HK2.out.trans' HK5.out⟩
end Go.Proofs.Ytefjoiinoaofcaa

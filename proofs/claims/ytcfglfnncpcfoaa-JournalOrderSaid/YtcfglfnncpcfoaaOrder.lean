/- The walk of JournalOrder. -/
import Derived.Test.YtcfglfnncpcfoaaDbl
import Derived.Test.YtcfglfnncpcfoaaOpen
import Derived.Test.YtcfglfnncpcfoaaSame
namespace Go.Proofs.Ytcfglfnncpcfoaa
open Go.RowKit
theorem wpList_store_cell {w : World} {ops : Array Oper} {rest : List Oper} {o : Oper} {a : Act} {Q : Exit → Act → World → Prop} (hgd : o.guard = none) (p y : Operand) (ho : o.op = .store 3 p y) (b f : Nat) (x : Int) (u : Value) (hp : a.eval p = .pointer (some ⟨b, f, none⟩)) (hy : a.eval y = .int .i64 x) (hc : w.cell? ⟨b, f, none⟩ = some u) (hf : w.frozen? ⟨b, f, none⟩ = false)
    (h : wpList Try.prog ops Q rest (a.put o.dst undef) (w.setCell ⟨b, f, none⟩ (.int .i64 x))) : wpList Try.prog ops Q (o :: rest) a w := by
  refine wpList_plain hgd fun _ hK => ?_
  unfold Oper.wp execOp
  simp only [ho, hp, hy, Instr.storeAt, Instr.sureAddr, storeVar]
  go_simp
  exact hK _ _ h
theorem upd_upd (E : Nat → Ev) (i : Nat) (e f : Ev) : upd (upd E i e) i f = upd E i f := by
  funext k
  unfold upd
  split <;> rfl
/-- A row's event written at its time and its number. -/
theorem Rz.row2 {w0 w : World} {g h : Nat} {S M : Lg} {A : Option Addr} {n : Nat} {E : Nat → Ev} (r : Rz w0 w g h S M A n E) {k : Nat} (hk : k < n) (x : Int) :
    ∃ b, A = some ⟨b, 0, none⟩ ∧ w.cell? ⟨b, k * 18, none⟩ = some (.int .i64 (E k).t) ∧ (∀ i, w.frozen? ⟨b, i, none⟩ = false) ∧
      ∀ w', w' = w.setCell ⟨b, k * 18, none⟩ (.int .i64 x) → (∀ i, w'.frozen? ⟨b, i, none⟩ = false) ∧ w'.cell? ⟨b, k * 18 + 2, none⟩ = some (.int .i64 (E k).n) ∧
      ∀ (y : Int) (e : Ev), e = { E k with t := x, n := y } → EvAt (w'.setCell ⟨b, k * 18 + 2, none⟩ (.int .i64 y)) b (k * 18) e ∧ Rz w0 (w'.setCell ⟨b, k * 18 + 2, none⟩ (.int .i64 y)) g h S M A n (upd E k e) := by
  obtain ⟨b, rfl, h1, h2, h3⟩ := r.row hk
  refine ⟨b, rfl, h1 0 _ rfl, h2, fun w' hw => ?_⟩
  subst hw
  have r1 := h3 0 (.int .i64 x) { E k with t := x } (by omega) rfl
  obtain ⟨b', hb, q1, q2, q3⟩ := r1.row hk
  injection hb with hb
  injection hb with hb
  subst hb
  rw [upd_self] at q1 q3
  refine ⟨q2, q1 2 _ rfl, fun y e he => ?_⟩
  have r2 := q3 2 (.int .i64 y) e (by omega) (by rw [he]; rfl)
  rw [upd_upd] at r2
  obtain ⟨b', hb, p1, _⟩ := r2.row hk
  injection hb with hb
  injection hb with hb
  subst hb
  rw [upd_self] at p1
  exact ⟨p1, r2⟩
set_option maxHeartbeats 8000000 in
set_option maxRecDepth 100000 in
theorem order_walk (A : Option Addr) (c : Nat) (l : List Ev) (A' : Option Addr) (c' : Nat) (q : List Int) (w : World) (H : CameE w A c l) (H' : CameI w A' c' q) : Calls Try.prog 6 #[.slice A l.length c, .slice A' q.length c'] w fun r w' => r = .returned (.bool true) ∧ Keeps [] w w' := by
  have hs := H.s
  have HQ := hide H'.s
  have HOK := hide H.ok
  have HQZ := hide H'.sz
  have HSZ := hide (And.intro H.le H.cm)
  have HSQ := hide (And.intro H'.le H'.cm)
  clear H H'
  have HS := hide hs
  clear hs
  obtain ⟨n, hn⟩ : ∃ n : Nat, min l.length 60 = n := ⟨_, rfl⟩
  have hnz : min (l.length : Int) 60 = (n : Int) := by omega
  have hn1 : n ≤ l.length := by omega
  have hn2 : n ≤ 60 := by omega
  have hnc : n ≤ c := by have := HSZ.out; omega
  clear hn
  go_enter Try.func6, Try.ntmps6
  go_wp2_with fail
  refine (sanity_any w).mono ?_
  rintro r w1 ⟨rfl, k1⟩
  have HK := hide k1
  clear k1
  go_wp2_with fail
  refine (new_any w1).mono ?_
  rintro r w2 ⟨rfl, g1, k1⟩
  go_wp2_with fail
  refine (new_any w2).mono ?_
  rintro r w3 ⟨rfl, g2, k2⟩
  have HD := hide (Du.news g1 k1 (Nat.le_refl _) g2 k2 (Nat.le_refl _))
  clear g1 k1 g2 k2
  generalize w1.heap.size = g at HD ⊢
  generalize w2.heap.size = h at HD ⊢
  have HW := hide (HK.out.trans' HD.out.keeps)
  obtain ⟨i0, hi, hz0, hz1, hz2⟩ := info_parts Try.info27b
  have HI := hide (And.intro hi (And.intro hz0 (And.intro hz1 hz2)))
  have HE := hide (show Own (w3.alloc (.cells #[] 27)) 27 18 (.slice (some ⟨w3.heap.size, 0, none⟩) 0 0) 0 [] from own_of (Bk.new w3 27 #[]) rfl (Nat.le_refl _) (by unfold maxLen; omega) rfl rfl)
  have HN := hide (show New w3 (.slice (some ⟨w3.heap.size, 0, none⟩) 0 0) from fun g hg => by
    have : w3.heap.size = g := by simpa [Value.ownBlock] using hg
    omega)
  have HA := hide ((Keeps.refl [] w3).alloc (.cells #[] 27))
  have HSS := hide (ES.front (show ES (w3.alloc (.cells #[] 27)) (.slice A l.length c) l from Src.keep HS.out (HW.out.trans' HA.out) (by simp)) n hn1)
  clear hi hz0 hz1 hz2
  go_wp2_with (with_reducible refine Halt.append ?_)
  refine Halt.on ?_
  refine wpList_append_src _ rfl _ _ _ rfl 27 i0 _ 18 152 Try.underlying55 HI.out.1 HI.out.2.1 HI.out.2.2.1 HI.out.2.2.2 rfl (by omega) (.slice (some ⟨w3.heap.size, 0, none⟩) 0 0) 0 [] rfl HE.out (.slice A n c) n (ecs (l.take n)) rfl HSS.out (ecs_one _) (by unfold maxLen; omega) (by omega) ?_
  intro v w4 hown hgrow hblk
  obtain ⟨hK2, hN2⟩ := step_new HA.out HN.out hgrow hblk
  rw [Nat.zero_add, List.nil_append] at hown
  obtain ⟨A2, c2, rfl⟩ := Own.slice hown
  have HR := hide (Rz.mk HD.out hK2 hown hN2 (by rw [List.length_take]; omega) z0)
  have hEo : ∀ k, k < n → -9223372036854775808 ≤ ((l.take n).getD k z0).t ∧ ((l.take n).getD k z0).t ≤ 9223372036854775807 := fun k hk => by
    have e1 : (l.take n).getD k z0 = l[k]'(by omega) := by
      have : k < (l.take n).length := by rw [List.length_take]; omega
      simp [List.getD, List.getElem?_eq_getElem this]
    rw [e1]
    exact (HOK.out _ (List.getElem_mem _)).t
  have HO := hide (OInv.start (n := n) (E := fun k => (l.take n).getD k z0) hEo)
  clear hown hgrow hblk hK2 hN2 hEo HE HN HA HSS HI HD
  go_wp2
  go_loopw [10] (fun s10 wr => ∃ i : Nat, i ≤ n ∧ s10 = .int .i64 i ∧ Hid (∃ S E, Rz w1 wr g h S Lg.new A2 n E ∧ OInv n i E S)) (fun s10 _ => n - (intOf s10).toNat)
  case atStart => exact ⟨0, by omega, rfl, hide ⟨_, _, HR.out, HO.out⟩⟩
  case round =>
    obtain ⟨i, hi, rfl, HX⟩ := hrel
    clear HR HO
    have hi0 : (0 : Int) ≤ (i : Int) := by omega
    obtain ⟨S, E, hR, hO⟩ := HX.out
    have HR := hide hR
    have HO := hide hO
    clear hR hO HX
    by_cases hlt : i < n
    · have hltz : (i : Int) < (n : Int) := by omega
      obtain ⟨m, hm⟩ : ∃ m, (E i).t % 50 = m := ⟨_, rfl⟩
      have hm0 : 0 ≤ m ∧ m < 50 := by omega
      obtain ⟨b, rfl, c0, hfr, h1⟩ := HR.out.row2 hlt m
      have HF := hide hfr
      have hr1 := HO.out.r i hlt
      obtain ⟨e, he⟩ : ∃ e : Ev, e = { E i with t := m, n := (i : Int) } := ⟨_, rfl⟩
      have h2 := h1 _ rfl
      have HF2 := hide h2.1
      have HC2 := hide h2.2.1
      have HE2 := hide (h2.2.2 (i : Int) e he)
      have het : e.t = m := by rw [he]
      have hen : e.n = i := by rw [he]
      have hl60 : n ≤ 60 := hn2
      have HT := hide (HO.out.step hlt hn2 e hen (by omega))
      have HEB := hide (show -9223372036854775808 ≤ e.t ∧ e.t ≤ 9223372036854775807 by omega)
      have HR1 := hide hr1
      have HM := hide hm
      have HC0 := hide c0
      clear h1 h2 he het hen hfr HR HO hr1 hm hm0 c0
      generalize (E i).t = tt at HC0 HM HR1
      generalize (E i).n = nn at HC2
      have c0 := HC0.out
      go_wp2_with fail
      refine (mod_any tt 50 _ HR1.out.1 HR1.out.2 (by omega) (by omega)).mono ?_
      rintro r w' ⟨rfl, rfl⟩
      rw [HM.out]
      clear c0
      go_wp2_with (with_reducible refine Halt.store (t := 3) ?_)
      refine Halt.on ?_
      refine wpList_store_cell rfl _ _ rfl b (i * 18) m _ rfl rfl HC0.out (HF.out _) ?_
      generalize wr.setCell ⟨b, i * 18, none⟩ (.int .i64 m) = w5 at HF2 HC2 HE2 ⊢
      go_wp2_with (with_reducible refine Halt.store (t := 3) ?_)
      refine Halt.on ?_
      refine wpList_store_cell rfl _ _ rfl b (i * 18 + 2) (i : Int) _ rfl rfl HC2.out (HF2.out _) ?_
      generalize w5.setCell ⟨b, i * 18 + 2, none⟩ (.int .i64 (i : Int)) = w6 at HE2 ⊢
      clear HF HF2 HC0 HC2
      go_wp2_with (with_reducible refine Halt.load (t := 27) ?_)
      refine Halt.on ?_
      refine wpList_load_ev rfl _ rfl b (i * 18) e rfl HE2.out.1 ?_
      go_wp2_with fail
      refine (HE2.out.2.takeL e HEB.out.1 HEB.out.2).mono ?_
      rintro r w7 ⟨hr, h7⟩
      rw [HT.out.1] at hr
      subst hr
      have H7 := hide h7
      clear h7 HE2
      go_wp2
      go_roundw
      case measure => simp [intOf]; omega
      case rel => exact ⟨i + 1, by omega, by go_num, hide ⟨_, _, H7.out, HT.out.2⟩⟩
    · have hltz : ¬ (i : Int) < (n : Int) := by omega
      have hin : n = i := by omega
      subst hin
      clear hlt hltz hi
      have HOK2 := hide HR.out.du.okL
      have HB := hide (BInv.start n E)
      go_wp2
      go_loopw [11] (fun s11 wr => ∃ k : Nat, k ≤ 60 ∧ s11 = .int .i64 k ∧ Hid (∃ M, Rz w1 wr g h S M A2 n E ∧ BInv n E M k)) (fun s11 _ => 60 - (intOf s11).toNat)
      case atStart => exact ⟨0, by omega, rfl, hide ⟨_, HR.out, HB.out⟩⟩
      case round =>
        obtain ⟨k, hk, rfl, HX⟩ := hrel
        clear HR HB
        have hk0 : (0 : Int) ≤ (k : Int) := by omega
        obtain ⟨M, hR, hB⟩ := HX.out
        have HR := hide hR
        have HB := hide hB
        clear hR hB HX
        by_cases hgo : k < q.length ∧ k < 60 ∧ 0 < n
        · obtain ⟨hg1, hg2, hg3⟩ := hgo
          have hg1z : (k : Int) < (q.length : Int) := by omega
          have hg2z : (k : Int) < 60 := by omega
          have hg3z : (0 : Int) < (n : Int) := by omega
          have hqc := HSQ.out
          obtain ⟨b1, o1, rfl, hcell⟩ := (Src.keep HQ.out (HK.out.trans' HR.out.du.keeps) (by simp)).headN (by omega) (by omega)
          have cq : wr.cell? ⟨b1, o1 + k, none⟩ = some (.int .i64 q[k]) := hcell k _ (by simp [isv, hg1])
          have hq1 := HQZ.out _ (List.getElem_mem hg1)
          clear hcell
          generalize q[k] = x at cq hq1
          obtain ⟨m, hm⟩ : ∃ m : Nat, x % (n : Int) = (m : Int) := ⟨(x % n).toNat, by have := Int.emod_nonneg x (b := (n : Int)) (by omega); omega⟩
          have hmn : m < n := by have := Int.emod_lt_of_pos x hg3z; omega
          obtain ⟨b, rfl, hev, _, _⟩ := HR.out.row hmn
          have HEV := hide hev
          have hr1 := HO.out.r m hmn
          have HR1 := hide hr1
          have HM := hide hm
          have HX1 := hide hq1
          have HB2 := hide (HB.out.step hmn)
          have hm0 : (0 : Int) ≤ (m : Int) := by omega
          have hmnz : (m : Int) < (n : Int) := by omega
          clear hm hev hr1 hq1 HB
          go_wp2_with fail
          refine (mod_any x n _ HX1.out.1 HX1.out.2 (by omega) (by omega)).mono ?_
          rintro r w' ⟨rfl, rfl⟩
          rw [HM.out]
          clear cq
          go_wp2_with (with_reducible refine Halt.load (t := 27) ?_)
          refine Halt.on ?_
          refine wpList_load_ev rfl _ rfl b (m * 18) (E m) rfl HEV.out ?_
          go_wp2_with fail
          refine (HR.out.takeR (E m) HR1.out.1 HR1.out.2).mono ?_
          rintro r w7 ⟨rfl, h7⟩
          have H7 := hide h7
          clear h7 HR HEV
          go_wp2
          go_roundw
          case measure => simp [intOf]; omega
          case rel => exact ⟨k + 1, by omega, by go_num, hide ⟨_, H7.out, HB2.out⟩⟩
        · have HX2 := hide (And.intro HR.out HB.out)
          clear HR HB
          have v0 : IntKind.i64.wrap ((n : Int) - 1) = (n : Int) - 1 := IntWalk.i64_in _ (by omega)
          by_cases hg1 : k < q.length
          · have hg1z : (k : Int) < (q.length : Int) := by omega
            by_cases hg2 : k < 60
            · have hg2z : (k : Int) < 60 := by omega
              have hg3z : ¬ (0 : Int) < (n : Int) := by omega
              clear hgo hg1 hg2
              go_wp2
              go_loopw [12] (fun s12 wr => ∃ i : Nat, i ≤ n ∧ s12 = .int .i64 ((i : Int) - 1) ∧ Hid (∃ M c, Rz w1 wr g h S M A2 n E ∧ BInv n E M c ∧ c ≤ 60 + (n - i) ∧ ∀ j, i ≤ j → j < n → E j ∈ M.L)) (fun s12 _ => (intOf s12 + 1).toNat)
              case atStart => exact ⟨n, by omega, rfl, hide ⟨_, k, HX2.out.1, HX2.out.2, by omega, fun j h1 h2 => by omega⟩⟩
              case round =>
                obtain ⟨i, hi, rfl, HX⟩ := hrel
                clear HX2
                obtain ⟨M, cc, hR, hB, hcc, hall⟩ := HX.out
                have HR := hide hR
                have HB := hide (And.intro hB hall)
                clear hR hB hall HX
                by_cases hi0 : i = 0
                · subst hi0
                  have e0 : ((0 : Nat) : Int) - 1 = -1 := by omega
                  rw [e0]
                  have HEQ := hide (HB.out.1.same HO.out HOK2.out HR.out.du.okR (fun j hj => HB.out.2 j (by omega) hj))
                  have HLN := hide HO.out.len
                  clear e0 HB hcc hi
                  go_wp2_with fail
                  refine HR.out.du.eventsL.mono ?_
                  rintro r w8 ⟨v8, rfl, e8, _, k8⟩
                  obtain ⟨A8, c8, rfl⟩ := Own.slice e8
                  have E8 := hide e8
                  have H8 := hide (HR.out.du.keep k8)
                  clear e8 k8
                  go_wp2_with fail
                  refine H8.out.eventsR.mono ?_
                  rintro r w9 ⟨v9, rfl, e9, _, k9⟩
                  obtain ⟨A9, c9, rfl⟩ := Own.slice e9
                  have E9 := hide e9
                  have E8' := hide (Own.keep E8.out k9 (by simp))
                  have H9 := hide (H8.out.keep k9)
                  clear e9 k9 E8 H8
                  go_wp2_with fail
                  refine (same_any A8 A9 c8 c9 S.L M.L _ (by have := HOK2.out.len; omega) (by have := H9.out.okR.len; omega) (Own.src E8'.out) (Own.src E9.out)).mono ?_
                  rintro r w10 ⟨hr, k10⟩
                  rw [decide_eq_true HEQ.out] at hr
                  subst hr
                  have HA := hide (H9.out.keep k10)
                  clear k10 H9 E9 E8'
                  go_wp2_with fail
                  refine HA.out.eventsL.mono ?_
                  rintro r w11 ⟨v11, rfl, e11, _, k11⟩
                  obtain ⟨A11, c11, rfl⟩ := Own.slice e11
                  rw [HLN.out]
                  have HF := hide (HK.out.trans' (HA.out.keep k11).keeps)
                  clear e11 k11 HA HEQ HLN HR
                  go_wp2
                  go_ret
                  exact ⟨rfl, HF.out⟩
                · obtain ⟨j, rfl⟩ : ∃ j, i = j + 1 := ⟨i - 1, by omega⟩
                  have e0 : ((j + 1 : Nat) : Int) - 1 = (j : Int) := by omega
                  rw [e0]
                  have hj0 : (0 : Int) ≤ (j : Int) := by omega
                  have hjn : j < n := by omega
                  have hjnz : (j : Int) < (n : Int) := by omega
                  have v1 : IntKind.i64.wrap ((j : Int) - 1) = (j : Int) - 1 := IntWalk.i64_in _ (by omega)
                  obtain ⟨b, rfl, hev, _, _⟩ := HR.out.row hjn
                  have HEV := hide hev
                  have HR1 := hide (HO.out.r j hjn)
                  have hlast := HB.out.1.last HO.out HR.out.du.okR (by omega) hjn
                  have HB2 := hide (HB.out.1.step hjn)
                  have HAL := hide HB.out.2
                  have HLA := hide hlast.2
                  have h022 := hide hlast.1
                  clear hev hlast HB e0 hi0
                  go_wp2_with (with_reducible refine Halt.load (t := 27) ?_)
                  refine Halt.on ?_
                  refine wpList_load_evG (by rfl) _ rfl b (j * 18) (E j) rfl HEV.out ?_
                  go_wp2_with fail
                  refine (HR.out.takeR (E j) HR1.out.1 HR1.out.2).mono ?_
                  rintro r w7 ⟨rfl, h7⟩
                  have H7 := hide h7
                  clear h7 HR HEV
                  obtain ⟨b', hb, hev, _, _⟩ := H7.out.row hjn
                  injection hb with hb
                  injection hb with hb
                  subst hb
                  have HEV := hide hev
                  clear hev
                  obtain ⟨t, ht⟩ : ∃ t, takeE M (E j) = t := ⟨_, rfl⟩
                  rw [ht] at h022 ⊢
                  clear ht
                  rcases h022.out with rfl | rfl
                  · clear h022
                    go_wp2_with (with_reducible refine Halt.load (t := 27) ?_)
                    refine Halt.on ?_
                    refine wpList_load_evG (by rfl) _ rfl b (j * 18) (E j) rfl HEV.out ?_
                    go_wp2_with fail
                    refine (H7.out.takeR (E j) HR1.out.1 HR1.out.2).mono ?_
                    rintro r w8 ⟨hr, h8⟩
                    rw [HLA.out.2.2.1] at hr
                    rw [HLA.out.2.2.2] at h8
                    subst hr
                    have H8 := hide h8
                    clear h8 H7 HEV
                    go_wp2
                    go_roundw
                    case measure => simp [intOf]
                    case rel => exact ⟨j, by omega, by go_num, hide ⟨_, cc + 1, H8.out, HB2.out, by omega, fun y h1 h2 => by
                      by_cases hy : y = j
                      · subst hy; exact HLA.out.1
                      · exact HLA.out.2.1 _ (HAL.out y (by omega) h2)⟩⟩
                  · clear h022
                    go_wp2_with (with_reducible refine Halt.load (t := 27) ?_)
                    refine Halt.on ?_
                    refine wpList_load_evG (by rfl) _ rfl b (j * 18) (E j) rfl HEV.out ?_
                    go_wp2_with fail
                    refine (H7.out.takeR (E j) HR1.out.1 HR1.out.2).mono ?_
                    rintro r w8 ⟨hr, h8⟩
                    rw [HLA.out.2.2.1] at hr
                    rw [HLA.out.2.2.2] at h8
                    subst hr
                    have H8 := hide h8
                    clear h8 H7 HEV
                    go_wp2
                    go_roundw
                    case measure => simp [intOf]
                    case rel => exact ⟨j, by omega, by go_num, hide ⟨_, cc + 1, H8.out, HB2.out, by omega, fun y h1 h2 => by
                      by_cases hy : y = j
                      · subst hy; exact HLA.out.1
                      · exact HLA.out.2.1 _ (HAL.out y (by omega) h2)⟩⟩
            · have hg2z : ¬ (k : Int) < 60 := by omega
              clear hgo hg1 hg2
              go_wp2
              go_loopw [12] (fun s12 wr => ∃ i : Nat, i ≤ n ∧ s12 = .int .i64 ((i : Int) - 1) ∧ Hid (∃ M c, Rz w1 wr g h S M A2 n E ∧ BInv n E M c ∧ c ≤ 60 + (n - i) ∧ ∀ j, i ≤ j → j < n → E j ∈ M.L)) (fun s12 _ => (intOf s12 + 1).toNat)
              case atStart => exact ⟨n, by omega, rfl, hide ⟨_, k, HX2.out.1, HX2.out.2, by omega, fun j h1 h2 => by omega⟩⟩
              case round =>
                obtain ⟨i, hi, rfl, HX⟩ := hrel
                clear HX2
                obtain ⟨M, cc, hR, hB, hcc, hall⟩ := HX.out
                have HR := hide hR
                have HB := hide (And.intro hB hall)
                clear hR hB hall HX
                by_cases hi0 : i = 0
                · subst hi0
                  have e0 : ((0 : Nat) : Int) - 1 = -1 := by omega
                  rw [e0]
                  have HEQ := hide (HB.out.1.same HO.out HOK2.out HR.out.du.okR (fun j hj => HB.out.2 j (by omega) hj))
                  have HLN := hide HO.out.len
                  clear e0 HB hcc hi
                  go_wp2_with fail
                  refine HR.out.du.eventsL.mono ?_
                  rintro r w8 ⟨v8, rfl, e8, _, k8⟩
                  obtain ⟨A8, c8, rfl⟩ := Own.slice e8
                  have E8 := hide e8
                  have H8 := hide (HR.out.du.keep k8)
                  clear e8 k8
                  go_wp2_with fail
                  refine H8.out.eventsR.mono ?_
                  rintro r w9 ⟨v9, rfl, e9, _, k9⟩
                  obtain ⟨A9, c9, rfl⟩ := Own.slice e9
                  have E9 := hide e9
                  have E8' := hide (Own.keep E8.out k9 (by simp))
                  have H9 := hide (H8.out.keep k9)
                  clear e9 k9 E8 H8
                  go_wp2_with fail
                  refine (same_any A8 A9 c8 c9 S.L M.L _ (by have := HOK2.out.len; omega) (by have := H9.out.okR.len; omega) (Own.src E8'.out) (Own.src E9.out)).mono ?_
                  rintro r w10 ⟨hr, k10⟩
                  rw [decide_eq_true HEQ.out] at hr
                  subst hr
                  have HA := hide (H9.out.keep k10)
                  clear k10 H9 E9 E8'
                  go_wp2_with fail
                  refine HA.out.eventsL.mono ?_
                  rintro r w11 ⟨v11, rfl, e11, _, k11⟩
                  obtain ⟨A11, c11, rfl⟩ := Own.slice e11
                  rw [HLN.out]
                  have HF := hide (HK.out.trans' (HA.out.keep k11).keeps)
                  clear e11 k11 HA HEQ HLN HR
                  go_wp2
                  go_ret
                  exact ⟨rfl, HF.out⟩
                · obtain ⟨j, rfl⟩ : ∃ j, i = j + 1 := ⟨i - 1, by omega⟩
                  have e0 : ((j + 1 : Nat) : Int) - 1 = (j : Int) := by omega
                  rw [e0]
                  have hj0 : (0 : Int) ≤ (j : Int) := by omega
                  have hjn : j < n := by omega
                  have hjnz : (j : Int) < (n : Int) := by omega
                  have v1 : IntKind.i64.wrap ((j : Int) - 1) = (j : Int) - 1 := IntWalk.i64_in _ (by omega)
                  obtain ⟨b, rfl, hev, _, _⟩ := HR.out.row hjn
                  have HEV := hide hev
                  have HR1 := hide (HO.out.r j hjn)
                  have hlast := HB.out.1.last HO.out HR.out.du.okR (by omega) hjn
                  have HB2 := hide (HB.out.1.step hjn)
                  have HAL := hide HB.out.2
                  have HLA := hide hlast.2
                  have h022 := hide hlast.1
                  clear hev hlast HB e0 hi0
                  go_wp2_with (with_reducible refine Halt.load (t := 27) ?_)
                  refine Halt.on ?_
                  refine wpList_load_evG (by rfl) _ rfl b (j * 18) (E j) rfl HEV.out ?_
                  go_wp2_with fail
                  refine (HR.out.takeR (E j) HR1.out.1 HR1.out.2).mono ?_
                  rintro r w7 ⟨rfl, h7⟩
                  have H7 := hide h7
                  clear h7 HR HEV
                  obtain ⟨b', hb, hev, _, _⟩ := H7.out.row hjn
                  injection hb with hb
                  injection hb with hb
                  subst hb
                  have HEV := hide hev
                  clear hev
                  obtain ⟨t, ht⟩ : ∃ t, takeE M (E j) = t := ⟨_, rfl⟩
                  rw [ht] at h022 ⊢
                  clear ht
                  rcases h022.out with rfl | rfl
                  · clear h022
                    go_wp2_with (with_reducible refine Halt.load (t := 27) ?_)
                    refine Halt.on ?_
                    refine wpList_load_evG (by rfl) _ rfl b (j * 18) (E j) rfl HEV.out ?_
                    go_wp2_with fail
                    refine (H7.out.takeR (E j) HR1.out.1 HR1.out.2).mono ?_
                    rintro r w8 ⟨hr, h8⟩
                    rw [HLA.out.2.2.1] at hr
                    rw [HLA.out.2.2.2] at h8
                    subst hr
                    have H8 := hide h8
                    clear h8 H7 HEV
                    go_wp2
                    go_roundw
                    case measure => simp [intOf]
                    case rel => exact ⟨j, by omega, by go_num, hide ⟨_, cc + 1, H8.out, HB2.out, by omega, fun y h1 h2 => by
                      by_cases hy : y = j
                      · subst hy; exact HLA.out.1
                      · exact HLA.out.2.1 _ (HAL.out y (by omega) h2)⟩⟩
                  · clear h022
                    go_wp2_with (with_reducible refine Halt.load (t := 27) ?_)
                    refine Halt.on ?_
                    refine wpList_load_evG (by rfl) _ rfl b (j * 18) (E j) rfl HEV.out ?_
                    go_wp2_with fail
                    refine (H7.out.takeR (E j) HR1.out.1 HR1.out.2).mono ?_
                    rintro r w8 ⟨hr, h8⟩
                    rw [HLA.out.2.2.1] at hr
                    rw [HLA.out.2.2.2] at h8
                    subst hr
                    have H8 := hide h8
                    clear h8 H7 HEV
                    go_wp2
                    go_roundw
                    case measure => simp [intOf]
                    case rel => exact ⟨j, by omega, by go_num, hide ⟨_, cc + 1, H8.out, HB2.out, by omega, fun y h1 h2 => by
                      by_cases hy : y = j
                      · subst hy; exact HLA.out.1
                      · exact HLA.out.2.1 _ (HAL.out y (by omega) h2)⟩⟩
          · have hg1z : ¬ (k : Int) < (q.length : Int) := by omega
            clear hgo hg1
            go_wp2
            go_loopw [12] (fun s12 wr => ∃ i : Nat, i ≤ n ∧ s12 = .int .i64 ((i : Int) - 1) ∧ Hid (∃ M c, Rz w1 wr g h S M A2 n E ∧ BInv n E M c ∧ c ≤ 60 + (n - i) ∧ ∀ j, i ≤ j → j < n → E j ∈ M.L)) (fun s12 _ => (intOf s12 + 1).toNat)
            case atStart => exact ⟨n, by omega, rfl, hide ⟨_, k, HX2.out.1, HX2.out.2, by omega, fun j h1 h2 => by omega⟩⟩
            case round =>
              obtain ⟨i, hi, rfl, HX⟩ := hrel
              clear HX2
              obtain ⟨M, cc, hR, hB, hcc, hall⟩ := HX.out
              have HR := hide hR
              have HB := hide (And.intro hB hall)
              clear hR hB hall HX
              by_cases hi0 : i = 0
              · subst hi0
                have e0 : ((0 : Nat) : Int) - 1 = -1 := by omega
                rw [e0]
                have HEQ := hide (HB.out.1.same HO.out HOK2.out HR.out.du.okR (fun j hj => HB.out.2 j (by omega) hj))
                have HLN := hide HO.out.len
                clear e0 HB hcc hi
                go_wp2_with fail
                refine HR.out.du.eventsL.mono ?_
                rintro r w8 ⟨v8, rfl, e8, _, k8⟩
                obtain ⟨A8, c8, rfl⟩ := Own.slice e8
                have E8 := hide e8
                have H8 := hide (HR.out.du.keep k8)
                clear e8 k8
                go_wp2_with fail
                refine H8.out.eventsR.mono ?_
                rintro r w9 ⟨v9, rfl, e9, _, k9⟩
                obtain ⟨A9, c9, rfl⟩ := Own.slice e9
                have E9 := hide e9
                have E8' := hide (Own.keep E8.out k9 (by simp))
                have H9 := hide (H8.out.keep k9)
                clear e9 k9 E8 H8
                go_wp2_with fail
                refine (same_any A8 A9 c8 c9 S.L M.L _ (by have := HOK2.out.len; omega) (by have := H9.out.okR.len; omega) (Own.src E8'.out) (Own.src E9.out)).mono ?_
                rintro r w10 ⟨hr, k10⟩
                rw [decide_eq_true HEQ.out] at hr
                subst hr
                have HA := hide (H9.out.keep k10)
                clear k10 H9 E9 E8'
                go_wp2_with fail
                refine HA.out.eventsL.mono ?_
                rintro r w11 ⟨v11, rfl, e11, _, k11⟩
                obtain ⟨A11, c11, rfl⟩ := Own.slice e11
                rw [HLN.out]
                have HF := hide (HK.out.trans' (HA.out.keep k11).keeps)
                clear e11 k11 HA HEQ HLN HR
                go_wp2
                go_ret
                exact ⟨rfl, HF.out⟩
              · obtain ⟨j, rfl⟩ : ∃ j, i = j + 1 := ⟨i - 1, by omega⟩
                have e0 : ((j + 1 : Nat) : Int) - 1 = (j : Int) := by omega
                rw [e0]
                have hj0 : (0 : Int) ≤ (j : Int) := by omega
                have hjn : j < n := by omega
                have hjnz : (j : Int) < (n : Int) := by omega
                have v1 : IntKind.i64.wrap ((j : Int) - 1) = (j : Int) - 1 := IntWalk.i64_in _ (by omega)
                obtain ⟨b, rfl, hev, _, _⟩ := HR.out.row hjn
                have HEV := hide hev
                have HR1 := hide (HO.out.r j hjn)
                have hlast := HB.out.1.last HO.out HR.out.du.okR (by omega) hjn
                have HB2 := hide (HB.out.1.step hjn)
                have HAL := hide HB.out.2
                have HLA := hide hlast.2
                have h022 := hide hlast.1
                clear hev hlast HB e0 hi0
                go_wp2_with (with_reducible refine Halt.load (t := 27) ?_)
                refine Halt.on ?_
                refine wpList_load_evG (by rfl) _ rfl b (j * 18) (E j) rfl HEV.out ?_
                go_wp2_with fail
                refine (HR.out.takeR (E j) HR1.out.1 HR1.out.2).mono ?_
                rintro r w7 ⟨rfl, h7⟩
                have H7 := hide h7
                clear h7 HR HEV
                obtain ⟨b', hb, hev, _, _⟩ := H7.out.row hjn
                injection hb with hb
                injection hb with hb
                subst hb
                have HEV := hide hev
                clear hev
                obtain ⟨t, ht⟩ : ∃ t, takeE M (E j) = t := ⟨_, rfl⟩
                rw [ht] at h022 ⊢
                clear ht
                rcases h022.out with rfl | rfl
                · clear h022
                  go_wp2_with (with_reducible refine Halt.load (t := 27) ?_)
                  refine Halt.on ?_
                  refine wpList_load_evG (by rfl) _ rfl b (j * 18) (E j) rfl HEV.out ?_
                  go_wp2_with fail
                  refine (H7.out.takeR (E j) HR1.out.1 HR1.out.2).mono ?_
                  rintro r w8 ⟨hr, h8⟩
                  rw [HLA.out.2.2.1] at hr
                  rw [HLA.out.2.2.2] at h8
                  subst hr
                  have H8 := hide h8
                  clear h8 H7 HEV
                  go_wp2
                  go_roundw
                  case measure => simp [intOf]
                  case rel => exact ⟨j, by omega, by go_num, hide ⟨_, cc + 1, H8.out, HB2.out, by omega, fun y h1 h2 => by
                    by_cases hy : y = j
                    · subst hy; exact HLA.out.1
                    · exact HLA.out.2.1 _ (HAL.out y (by omega) h2)⟩⟩
                · clear h022
                  go_wp2_with (with_reducible refine Halt.load (t := 27) ?_)
                  refine Halt.on ?_
                  refine wpList_load_evG (by rfl) _ rfl b (j * 18) (E j) rfl HEV.out ?_
                  go_wp2_with fail
                  refine (H7.out.takeR (E j) HR1.out.1 HR1.out.2).mono ?_
                  rintro r w8 ⟨hr, h8⟩
                  rw [HLA.out.2.2.1] at hr
                  rw [HLA.out.2.2.2] at h8
                  subst hr
                  have H8 := hide h8
                  clear h8 H7 HEV
                  go_wp2
                  go_roundw
                  case measure => simp [intOf]
                  case rel => exact ⟨j, by omega, by go_num, hide ⟨_, cc + 1, H8.out, HB2.out, by omega, fun y h1 h2 => by
                    by_cases hy : y = j
                    · subst hy; exact HLA.out.1
                    · exact HLA.out.2.1 _ (HAL.out y (by omega) h2)⟩⟩
end Go.Proofs.Ytcfglfnncpcfoaa

/- The method Pop; heap.Push and heap.Pop over a net. -/
import Derived.Test.YtefjoiinoaofcaaPush
namespace Go.Proofs.Ytefjoiinoaofcaa
open Go.RowKit

set_option maxHeartbeats 800000 in
theorem pop_any (g n c : Nat) (A : Option Addr) (cs : Array Value) (L : List Par) (w : World) (hb : Bk w g 53 cs) (h : Wt w ⟨g, 2, none⟩ (.slice A L.length c) L) (hn : L.length = n + 1) (hm : L.length ≤ 1000000) :
    Calls Try.prog 46 #[.pointer (some ⟨g, 2, none⟩)] w fun e w' => e = .returned (.iface 67 (.agg (at_ L n).cells.toArray)) ∧ ∃ o, (w.setCell ⟨g, 2, none⟩ (.slice A n c)).alloc o = w' := by
  obtain ⟨b, c', cur, hv, hc, hmc, hbk, _, _, hcell⟩ := h.own.head (by omega)
  injection hv with hA _ hcc
  subst hA hcc
  obtain ⟨i0, i1, i2, i3, i4, i5⟩ := pcs_at L n (by omega)
  replace i0 := hcell _ _ i0
  replace i1 := hcell _ _ i1
  replace i2 := hcell _ _ i2
  replace i3 := hcell _ _ i3
  replace i4 := hcell _ _ i4
  replace i5 := hcell _ _ i5
  have c2 := h.cell
  have f2 := hb.free 2
  have hg := hb.lt
  have hbl := hbk.lt
  have hv1 : ((L.length : Int) - 1) = (n : Int) := by omega
  have hnb : (n : Int) < (L.length : Int) := by omega
  have hn0 : (0 : Int) ≤ (n : Int) := by omega
  have hnc : (n : Int) ≤ (c : Int) := by omega
  clear hcell hbk h hb hn
  unfold Par.cells
  go_enter Try.func46, Try.ntmps46
  go_wp2
  go_ret
  exact ⟨rfl, _, rfl⟩

theorem own_same (A : Option Addr) (n c m d : Nat) : (Value.slice A n c).ownBlock = (Value.slice A m d).ownBlock := by cases A <;> rfl
theorem NetAt.wt {w : World} {g : Nat} {F : List Nat} {N : NS} {vs vw : Value} {L : List Par} (h : NetAt w g F N vs vw L) : Wt w ⟨g, 2, none⟩ vw L := by
  have c := h.blk.cell 2
  refine ⟨by simpa using c, h.wai, fun b hb e => ?_⟩
  subst e
  exact h.wai.bk_ne h.blk (by decide) hb
/-- The net's block and its row have turned. -/
theorem NetAt.turn {w w3 : World} {g : Nat} {F : List Nat} {N N' : NS} {vs vw v' : Value} {L L' : List Par} (h : NetAt w g F N vs vw L) (k : Keeps (g :: vw.ownBlock.toList) w w3)
    (hb : Bk w3 g 53 #[.int .i64 N'.nodes, vs, v', .int .i64 N'.sent]) (hown : Own w3 67 6 v' L'.length (pcs L')) (hat : v'.ownBlock = vw.ownBlock ∨ ∃ b, v'.ownBlock = some b ∧ w.heap.size ≤ b)
    (hbag : Bag L' N'.S) (hok : N'.ok) (e : N'.scr = N.scr) : NetAt w3 g (v'.ownBlock.toList ++ F) N' vs v' L' ∧ Keeps F w w3 ∧ Adds w F (v'.ownBlock.toList ++ F) := by
  have n1 : vs.ownBlock ≠ some g := h.scr.bk_ne h.blk (by decide)
  have n2 := h.scr.ne h.wai (by decide)
  have hkF : Keeps F w w3 := k.mono (fun i hi => .inl (by
    rw [List.mem_cons] at hi
    rcases hi with rfl | hi
    · exact h.gin
    · exact h.win i (by simpa using hi)))
  have hadd : Adds w F (v'.ownBlock.toList ++ F) := by
    intro i hi
    rw [List.mem_append] at hi
    rcases hi with hi | hi
    · have hi' : v'.ownBlock = some i := by simpa using hi
      rcases hat with e | ⟨b, e, hb⟩
      · exact .inl (h.win i (by rw [← e]; exact hi'))
      · rw [hi'] at e; injection e with e; subst e; exact .inr hb
    · exact .inl hi
  refine ⟨⟨hb, by simp [h.gin], ?_, hown, fun b hb => by simp [h.sin b hb], fun b hb => by simp [hb], ?_, hbag, hok⟩, hkF, hadd⟩
  · rw [e]
    refine h.scr.keep k (fun b hq hm => ?_)
    rw [List.mem_cons] at hm
    rcases hm with rfl | hm
    · exact n1 hq
    · exact n2 b hq (by simpa using hm)
  · intro i hi
    rw [List.mem_append] at hi
    rcases hi with hi | hi
    · exact hown.lt i (by simpa using hi)
    · exact h.all.keep hkF i hi

theorem push_wt {w w1 : World} {g : Nat} {F : List Nat} {N : NS} {vs vw v' : Value} {L L' : List Par} (h : NetAt w g F N vs vw L) (hown : Own w1 67 6 v' L'.length (pcs L')) (hg : w.grownBy w1 vw.ownBlock) :
    Wt (w1.setCell ⟨g, 2, none⟩ v') ⟨g, 2, none⟩ v' L' ∧ Bk (w1.setCell ⟨g, 2, none⟩ v') g 53 #[.int .i64 N.nodes, vs, v', .int .i64 N.sent] ∧ Keeps (g :: vw.ownBlock.toList) w (w1.setCell ⟨g, 2, none⟩ v') := by
  have n1 : vw.ownBlock ≠ some g := h.wai.bk_ne h.blk (by decide)
  have hb1 := h.blk.grown hg (fun e => n1 e.symm)
  have n2 : v'.ownBlock ≠ some g := hown.bk_ne hb1 (by decide)
  have hb2 := hb1.set 2 v'
  have k1 : Keeps (g :: vw.ownBlock.toList) w w1 := Keeps.of_grown hg (fun b hb => by simp [hb])
  have k2 : Keeps [g] w1 (w1.setCell ⟨g, 2, none⟩ v') := (Keeps.refl _ _).setCell (.inl (by simp)) _
  refine ⟨⟨?_, ?_, fun b hb e => ?_⟩, by simpa using hb2, k1.setCell (.inl (by simp)) _⟩
  · have := hb2.cell 2
    simpa using this
  · exact hown.keep k2 (fun b hb => by
      simp only [List.mem_singleton]
      rintro rfl
      exact n2 hb)
  · subst e; exact n2 hb

set_option maxHeartbeats 800000 in
theorem hpush_any (g : Nat) (F : List Nat) (N : NS) (q : Par) (w : World) (h : IsNet w g F N) (hnew : New q N.S) (hok : ({ N with S := ins q N.S } : NS).ok) :
    Calls Try.prog 22 #[.iface 75 (.pointer (some ⟨g, 2, none⟩)), .iface 67 (.agg q.cells.toArray)] w fun e w' => e = .returned (.tuple #[]) ∧
      ∃ F', IsNet w' g F' { N with S := ins q N.S } ∧ Adds w F F' ∧ Keeps F w w' := by
  obtain ⟨vs, vw, L, hd⟩ := h
  have hlen : L.length ≤ 800000 := by
    have h1 := hd.bag.length
    have h2 := hd.ok.many
    have h3 := hd.ok.few
    omega
  have HD := hide hd
  have HP := hide (push_any g _ vw L q w hd.blk hd.wt (by omega))
  have HN := hide hnew
  have HK := hide hok
  clear hd hnew hok
  have hmp := m_push (.pointer (some ⟨g, 2, none⟩))
  go_enter Try.func22, Try.ntmps22
  go_wp2_with fail
  refine HP.out.mono ?_
  rintro e w2 ⟨rfl, v', w1, hw2, hown1, hg1, hat⟩
  obtain ⟨hwt, hb2, hk2⟩ := push_wt HD.out hown1 hg1
  rw [hw2] at hwt hb2 hk2
  obtain ⟨A, c, hv⟩ := hwt.slice
  have hml := m_len ⟨g, 2, none⟩ A (L ++ [q]).length c w2 (by rw [← hv]; exact hwt.cell)
  have hup := up_any ⟨g, 2, none⟩ v' (L ++ [q]) L.length w2 hwt (by simp) (by simp; omega) (by rw [List.length_append]; exact HD.out.bag.push_start q)
  have HU := hide hup
  have HW := hide hwt
  have HB := hide hb2
  have HKK := hide hk2
  have HA := hide hat
  clear hup hwt hb2 hk2 hat hown1 hg1 hw2 HP hmp
  rw [List.length_append, List.length_singleton] at hml
  have hv1 : ((L.length + 1 : Nat) : Int) - 1 = (L.length : Int) := by omega
  go_wp2_with fail
  refine (len_any A (L.length + 1) c w2).mono ?_
  rintro e w3 ⟨rfl, rfl⟩
  go_wp2_with fail
  refine HU.out.mono ?_
  rintro e w4 ⟨rfl, L', hwt', hperm, hheap, hk4⟩
  have HF := hide (And.intro hwt' (And.intro hperm (And.intro hheap hk4)))
  clear hwt' hperm hheap hk4
  go_wp2_with fail
  go_end0
  refine ⟨rfl, ?_⟩
  obtain ⟨hwt', hperm, hheap, hk4⟩ := HF.out
  have hlen' : L'.length = L.length + 1 := by simpa using hperm.length_eq
  have n2 : v'.ownBlock ≠ some g := fun e => HW.out.far g e rfl
  have hb4 := HB.out.keep hk4 (fun hm => n2 (by simpa using hm))
  have hkk : Keeps (g :: vw.ownBlock.toList) w w4 := HKK.out.trans hk4 (fun i hi => by
    have hi' : v'.ownBlock = some i := by simpa using hi
    rcases HA.out with e | ⟨b, e, hb⟩
    · exact .inl (by rw [e] at hi'; simp [hi'])
    · rw [hi'] at e; injection e with e; subst e; exact .inr hb)
  obtain ⟨t1, t2, t3⟩ := HD.out.turn (N' := { N with S := ins q N.S }) hkk hb4 hwt'.own HA.out (HD.out.bag.push_end q HN.out hperm (by rw [← hlen']; exact hheap)) HK.out rfl
  exact ⟨_, ⟨_, _, _, t1⟩, t3, t2⟩

set_option maxHeartbeats 800000 in
theorem hpop_any (g : Nat) (F : List Nat) (N : NS) (q : Par) (S : List Par) (w : World) (h : IsNet w g F N) (hS : N.S = q :: S) :
    Calls Try.prog 24 #[.iface 75 (.pointer (some ⟨g, 2, none⟩))] w fun e w' => e = .returned (.iface 67 (.agg q.cells.toArray)) ∧
      ∃ F', IsNet w' g F' { N with S := S } ∧ Adds w F F' ∧ Keeps F w w' := by
  obtain ⟨vs, vw, L, hd⟩ := h
  have hlen : L.length ≤ 800000 := by
    have h1 := hd.bag.length
    have h2 := hd.ok.many
    have h3 := hd.ok.few
    omega
  have hbag : Bag L (q :: S) := by rw [← hS]; exact hd.bag
  have hL : L.length = S.length + 1 := by simpa using hbag.length
  obtain ⟨n, hn⟩ : ∃ n, S.length = n := ⟨_, rfl⟩
  rw [hn] at hL
  obtain ⟨A, c, hv⟩ := hd.wt.slice
  have hml := m_len ⟨g, 2, none⟩ A L.length c w (by rw [← hv]; exact hd.wt.cell)
  have hms := m_swap ⟨g, 2, none⟩ A L.length c w (by rw [← hv]; exact hd.wt.cell)
  have hswap := swap_any vw L 0 n w hd.wai (by omega) (by omega)
  rw [hv] at hswap
  have HSW := hide hswap
  have hv1 : (L.length : Int) - 1 = (n : Int) := by omega
  have HD := hide hd
  have HL := hide hL
  have HV := hide hv
  have HN := hide hn
  have HBG := hide hbag
  have HSS := hide hS
  clear hd hL hv hn hbag hswap hS
  have hmp := m_pop (.pointer (some ⟨g, 2, none⟩))
  go_enter Try.func24, Try.ntmps24
  go_wp2_with fail
  refine (len_any A L.length c w).mono ?_
  rintro e w1 ⟨rfl, rfl⟩
  go_wp2_with fail
  refine HSW.out.mono ?_
  rintro e w2 ⟨rfl, ho2, hk2⟩
  rw [← HV.out] at ho2 hk2
  have hwt2 : Wt w2 ⟨g, 2, none⟩ vw (sw L 0 n) := HD.out.wt.swap (by rw [sw_length]; exact ho2) hk2
  have hdown := down_any ⟨g, 2, none⟩ vw (sw L 0 n) n w2 hwt2 (by rw [sw_length, HL.out]; omega) (by rw [sw_length]; omega) (by have := HBG.out.pop_start; rw [HN.out] at this; exact this)
  have HDN := hide hdown
  have HK2 := hide hk2
  clear hdown hk2 ho2 hwt2 HSW hms hml
  go_wp2_with fail
  refine HDN.out.mono ?_
  rintro e w3 ⟨b3, rfl, L', hwt3, hperm, hheap, hlast, hk3⟩
  have hlen' : L'.length = n + 1 := by rw [hperm.length_eq, sw_length, HL.out]
  have n2 : g ∉ vw.ownBlock.toList := fun hm => HD.out.wt.far g (by simpa using hm) rfl
  have hb3 := (HD.out.blk.keep HK2.out n2).keep hk3 n2
  have hv3 : vw = .slice A L'.length c := by rw [HV.out, HL.out, hlen']
  have hpop := pop_any g n c A _ L' w3 hb3 (by rw [← hv3]; exact hwt3) hlen' (by rw [hlen', ← HL.out]; omega)
  have HPP := hide hpop
  have HF := hide (And.intro hwt3 (And.intro hperm (And.intro hheap (And.intro hlast (And.intro hk3 hb3)))))
  have HL3 := hide hlen'
  have HV3 := hide hv3
  clear hpop hwt3 hperm hheap hlast hk3 hb3 HDN hlen' hv3
  go_wp2_with fail
  refine HPP.out.mono ?_
  rintro e w4 ⟨rfl, o, hw4⟩
  have HW4 := hide hw4
  clear hw4 HPP hmp
  go_wp2_with fail
  go_ret
  obtain ⟨hwt3, hperm, hheap, hlast, hk3, hb3⟩ := HF.out
  obtain ⟨hq, hbag'⟩ := HBG.out.pop_end (L' := L') (by rw [HN.out]; exact hperm) (by rw [HN.out]; exact hlast) (by rw [HN.out]; exact hheap)
  rw [HN.out] at hq hbag'
  refine ⟨by rw [hq]; rfl, ?_⟩
  have hk : Keeps (g :: vw.ownBlock.toList) w w3 := (HK2.out.mono (fun i hi => .inl (by simp at hi; simp [hi]))).trans hk3 (fun i hi => .inl (by simp at hi; simp [hi]))
  have hk4 : Keeps (g :: vw.ownBlock.toList) w w4 := by rw [← HW4.out]; exact (hk.setCell (.inl (by simp)) _).alloc o
  have k34 : Keeps [g] w3 w4 := by rw [← HW4.out]; exact ((Keeps.refl _ _).setCell (.inl (by simp)) _).alloc o
  have hb4 : Bk w4 g 53 #[.int .i64 N.nodes, vs, .slice A n c, .int .i64 N.sent] := by
    rw [← HW4.out]
    refine Bk.alloc ?_ o
    have := hb3.set 2 (.slice A n c)
    simpa using this
  have hcut : Own w4 67 6 (.slice A n c) (L'.take n).length (pcs (L'.take n)) := by
    have h1 := hwt3.own
    rw [HV3.out] at h1
    have h2 := h1.cut n (by rw [HL3.out]; omega)
    rw [pcs_take] at h2
    rw [List.length_take, HL3.out, Nat.min_eq_left (by omega)]
    refine h2.keep k34 (fun b hb hm => ?_)
    rw [List.mem_singleton] at hm
    subst hm
    have : vw.ownBlock = some b := by rw [HV.out]; exact (own_same A L.length c n c).trans hb
    exact HD.out.wt.far b this rfl
  have hok : ({ N with S := S } : NS).ok := by
    have := nextS_ok HD.out.ok
    unfold nextS at this
    rw [HSS.out] at this
    exact this
  obtain ⟨t1, t2, t3⟩ := HD.out.turn (N' := { N with S := S }) hk4 hb4 hcut (.inl (by rw [HV.out]; exact own_same A n c L.length c)) hbag' hok rfl
  exact ⟨_, ⟨_, _, _, t1⟩, t3, t2⟩
end Go.Proofs.Ytefjoiinoaofcaa

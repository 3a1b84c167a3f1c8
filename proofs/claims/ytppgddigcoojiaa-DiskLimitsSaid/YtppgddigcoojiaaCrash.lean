/- What survives a crash (crashL), and the contract of Crash. -/
import Derived.Test.YtppgddigcoojiaaWrite
namespace Go.Proofs.Ytppgddigcoojiaa
open Go.RowKit

/-- Does part k survive? -/
def surv (q : List Int) (k : Nat) : Bool := decide (0 < q.length) && ((q.getD (k % q.length) 0).tmod 2 != 0)
def crashFrom (q : List Int) : Nat → List UInt8 → List (Nat × List UInt8) → List UInt8
  | _, c, [] => c
  | k, c, p :: ps => crashFrom q (k + 1) (if surv q k then putL c p.1 p.2 else c) ps
def crashL (S : DS) (q : List Int) : List UInt8 := crashFrom q 0 S.synced S.pieces
def crashS (S : DS) (q : List Int) : DS := ⟨crashL S q, crashL S q, [], 0, false, 0⟩
def iv (q : List Int) : List Value := q.map (Value.int .i64)

theorem Src.head {w : World} {n c : Nat} {A : Option Addr} {xs : List Value} (h : Src w 1 (.slice A n c) n xs) (hn : 0 < n) : ∃ b o, A = some ⟨b, o, none⟩ ∧ ∀ j u, xs[j]? = some u → w.cell? ⟨b, o + j, none⟩ = some u := by
  obtain ⟨hl, A', c', hA, hnil, hc⟩ := h
  injection hA with hA _ _
  subst hA
  cases A with
  | none => exact absurd (hnil rfl) (by omega)
  | some ad =>
    obtain ⟨b, o, sp⟩ := ad
    have h0 := hc _ rfl 0 xs[0] (List.getElem?_eq_getElem (by omega))
    have hs : sp = none := by
      cases sp with
      | none => rfl
      | some z =>
        simp [Addr.add, World.cell?] at h0
        split at h0 <;> simp at h0
    subst hs
    refine ⟨b, o, rfl, fun j u hu => ?_⟩
    have := hc _ rfl j u hu
    have e : (⟨b, o, none⟩ : Addr).add j = ⟨b, o + j, none⟩ := by unfold Addr.add; split <;> simp_all
    rw [e] at this
    exact this

theorem crash_step (q : List Int) (k : Nat) (c : List UInt8) (ps : List (Nat × List UInt8)) (h : k < ps.length) : crashFrom q k c (ps.drop k) = crashFrom q (k + 1) (if surv q k then putL c ps[k].1 ps[k].2 else c) (ps.drop (k + 1)) := by
  rw [List.drop_eq_getElem_cons h]; rfl

theorem Own.empty (w : World) (e : TypeId) (sz : Nat) : Own (w.alloc (.cells #[] e)) e sz (.slice (some ⟨w.heap.size, 0, none⟩) 0 0) 0 [] := World.ownsRow_made w #[] 0 (Nat.zero_le _) (Nat.zero_le _) (by simp)

/-- The state of the disk that Crash returns. -/
theorem crash_end (w w1 wr w6 : World) (S : DS) (q : List Int) (c : List UInt8) (A : Option Addr) (cv : Nat) (A6 : Option Addr) (cv6 : Nat) (x1 x2 x3 : Value) (ocs : List Value) (k1 : Keeps [] w w1) (hs1 : w.heap.size < w1.heap.size)
    (hO : DiskAt wr w.heap.size [w.heap.size] DS.new x1 x2 x3 ocs)
    (hown : Own wr 5 1 (.slice A c.length cv) c.length (bv c)) (hb : ∀ b, (Value.slice A c.length cv).ownBlock = some b → w1.heap.size ≤ b) (k2 : Keeps [] w1 wr)
    (hcl : c.length ≤ 16777216) (hf : crashL S q = c) (hown6 : Own w6 5 1 (.slice A6 c.length cv6) c.length (bv c)) (hg6 : ((wr.setCell ⟨w.heap.size, 0, none⟩ (.slice A c.length cv)).alloc (.cells #[] 5)).grownBy w6 (Value.slice (some ⟨wr.heap.size, 0, none⟩) 0 0).ownBlock)
    (hat6 : (Value.slice A6 c.length cv6).ownBlock = (Value.slice (some ⟨wr.heap.size, 0, none⟩) 0 0).ownBlock ∨ (Value.slice A6 c.length cv6).ownBlock = some ((wr.setCell ⟨w.heap.size, 0, none⟩ (.slice A c.length cv)).alloc (.cells #[] 5)).heap.size) :
    ∃ F', IsDisk (w6.setCell ⟨w.heap.size, 1, none⟩ (.slice A6 c.length cv6)) w.heap.size F' (crashS S q) ∧ Adds w [] F' ∧ Keeps [] w (w6.setCell ⟨w.heap.size, 1, none⟩ (.slice A6 c.length cv6)) := by
  have hgo : w.heap.size < wr.heap.size := hO.blk.lt
  have hsz := k2.size
  have hneA : (Value.slice A c.length cv).ownBlock ≠ some w.heap.size := Own.bk_ne hown hO.blk (by decide)
  have kA : Keeps [w.heap.size] wr ((wr.setCell ⟨w.heap.size, 0, none⟩ (.slice A c.length cv)).alloc (.cells #[] 5)) := ((Keeps.refl _ _).setCell (.inl (by simp)) _).alloc _
  have kB : Keeps [wr.heap.size] ((wr.setCell ⟨w.heap.size, 0, none⟩ (.slice A c.length cv)).alloc (.cells #[] 5)) w6 := Keeps.of_grown hg6 (fun b hb => by simp [Value.ownBlock] at hb; simp [hb])
  have kAB : Keeps [w.heap.size] wr w6 := kA.trans kB (fun i hi => by simp at hi; exact .inr (by omega))
  have kC : Keeps [w.heap.size] w6 (w6.setCell ⟨w.heap.size, 1, none⟩ (.slice A6 c.length cv6)) := (Keeps.refl _ _).setCell (.inl (by simp)) _
  have kABC : Keeps [w.heap.size] wr (w6.setCell ⟨w.heap.size, 1, none⟩ (.slice A6 c.length cv6)) := kAB.trans' kC
  have hb6 : Bk w6 w.heap.size 62 _ := ((hO.blk.set 0 (.slice A c.length cv)).alloc (.cells #[] 5)).grown hg6 (by simp [Value.ownBlock]; omega)
  have h6 : ∀ b, (Value.slice A6 c.length cv6).ownBlock = some b → wr.heap.size ≤ b := by
    intro b hb
    rcases hat6 with e | e
    · rw [hb] at e; simp [Value.ownBlock] at e; omega
    · rw [hb] at e; simp at e; omega
  have hx3 : ∀ b, x3.ownBlock ≠ some b := by
    intro b hb
    have := hO.pin b hb
    simp at this
    subst this
    exact hO.pcs.bk_ne hO.blk (by decide) hb
  refine ⟨w.heap.size :: ((Value.slice A c.length cv).ownBlock.toList ++ (Value.slice A6 c.length cv6).ownBlock.toList), ⟨.slice A c.length cv, .slice A6 c.length cv6, x3, ocs, ?_⟩, ?_, ?_⟩
  · unfold crashS
    rw [hf]
    refine ⟨hb6.set 1 _, by simp, ?_, ?_, ?_, by simp, fun b hq => by simp [hq], ?_, fun b hq => absurd hq (hx3 b), ?_, ?_⟩
    · exact Own.keep hown kABC (fun z hz => by simp; rintro rfl; exact hneA hz)
    · exact Own.keep hown6 kC (fun z hz => by simp; have := h6 z hz; omega)
    · exact Own.keep hO.pcs kABC (fun z hz => absurd hz (hx3 z))
    · intro b hq
      refine ⟨by simp [hq], fun e => ?_⟩
      have h1 := h6 b hq
      have h2 := Own.lt hown b e
      omega
    · intro z hz
      simp only [List.mem_cons, List.mem_append] at hz
      rcases hz with rfl | hz | hz
      · exact Nat.lt_of_lt_of_le hgo kABC.size
      · exact Nat.lt_of_lt_of_le (Own.lt hown z (by simpa using hz)) kABC.size
      · have := Own.lt hown6 z (by simpa using hz)
        simpa using this
    · exact ⟨hcl, hcl, by simp, by simp, by simp, by simp, by simp, by simp⟩
  · intro z hz
    simp only [List.mem_cons, List.mem_append] at hz
    rcases hz with rfl | hz | hz
    · exact .inr (Nat.le_refl _)
    · have := hb z (by simpa using hz)
      exact .inr (by omega)
    · have := h6 z (by simpa using hz)
      exact .inr (by omega)
  · exact (k1.trans' k2).trans kABC (fun i hi => by simp at hi; exact .inr (by omega))

set_option maxHeartbeats 800000 in
theorem crash_any (g : Nat) (F : List Nat) (S : DS) (Aq : Option Addr) (cq : Nat) (q : List Int) (w : World) (hd : IsDisk w g F S) (hq : Src w 1 (.slice Aq q.length cq) q.length (iv q)) (hql : q.length ≤ 9223372036854775807) (hqr : ∀ x, x ∈ q → -9223372036854775808 ≤ x ∧ x ≤ 9223372036854775807) :
    Calls Try.prog 23 #[.pointer (some ⟨g, 0, none⟩), .slice Aq q.length cq] w fun e w' => e = .returned (.pointer (some ⟨w.heap.size, 0, none⟩)) ∧ ∃ F', IsDisk w' w.heap.size F' (crashS S q) ∧ Adds w [] F' ∧ Keeps [] w w' := by
  obtain ⟨i0, hi, hz0, hz1, hz2⟩ := info_parts Try.info5
  have hgl : g < w.heap.size := by
    obtain ⟨vn, vs, vp, cs, h⟩ := hd
    exact h.blk.lt
  go_enter Try.func23, Try.ntmps23
  go_wp2_with fail
  refine (new_any w).mono ?_
  rintro e w1 ⟨rfl, hd1, hk1⟩
  have hs1 : w.heap.size < w1.heap.size := hd1.all _ (by simp)
  have hd0 := hd.keep hk1 (apart_nil F)
  obtain ⟨vn, vs, vp, cs, hd0⟩ := hd0
  obtain ⟨As, cc, rfl⟩ := hd0.syn.slice
  obtain ⟨Ap, cp, rfl⟩ := hd0.pcs.slice
  have hg1 : g < w1.heap.size := hd0.blk.lt
  have c1 := hd0.blk.cell 1
  have c2 := hd0.blk.cell 2
  simp at c1 c2
  have HD := hide hd0
  have HN := hide hd1
  have HK1 := hide hk1
  have HQ := hide hq
  clear hd0 hd1 hk1 hd hq
  go_wp2_with (first | (with_reducible refine Halt.append ?_))
  refine Halt.on ?_
  have hsl := HD.out.ok.synced
  have hpl := HD.out.ok.many
  refine wpList_append_src _ rfl (.tmp 13) (.tmp 17) 56 rfl 5 i0 _ 1 1 Try.underlying56 hi hz0 hz1 hz2 rfl (by omega) (.slice (some ⟨w1.heap.size, 0, none⟩) 0 0) 0 [] (by rfl) (Own.empty w1 5 1) (.slice As S.synced.length cc) S.synced.length (bv S.synced) (by rfl) (HD.out.syn.src.keep ((Keeps.refl [] w1).alloc _) (by simp)) (bv_one _) (by unfold maxLen; omega) (by omega) ?_
  intro v2 w2 hown2 hg2 hat2
  simp only [Nat.zero_add, List.nil_append] at hown2
  obtain ⟨A2, cA2, rfl⟩ := hown2.slice
  have hk2 : Keeps [] w1 w2 := (((Keeps.refl [] w1).alloc (.cells #[] 5)).trans (G := [w1.heap.size]) (Keeps.of_grown hg2 (fun b hb => by simp [Value.ownBlock] at hb; simp [hb])) (fun i hi => by simp at hi; exact .inr (by omega)))
  have hat3 : ∀ b, (Value.slice A2 S.synced.length cA2).ownBlock = some b → w1.heap.size ≤ b := by
    intro b hb
    rcases hat2 with e | e
    · rw [hb] at e; simp [Value.ownBlock] at e; omega
    · rw [hb] at e; simp at e; omega
  have hd2 := HD.out.keep hk2 (apart_nil F)
  have c22 := hd2.blk.cell 2
  simp at c22
  have HW2 := hide (And.intro hown2 (And.intro hat3 hk2))
  clear hown2 hg2 hat2 hk2 hat3 hd2
  go_wp2_with fail
  go_loopw [6, 25] (fun v i wr => ∃ (k : Nat) (c : List UInt8) (A : Option Addr) (cv : Nat), v = .slice A c.length cv ∧ i = .int .i64 k ∧ k ≤ S.pieces.length ∧ c.length ≤ 16777216 ∧
      Hid (crashFrom q k c (S.pieces.drop k) = crashL S q ∧ Own wr 5 1 (.slice A c.length cv) c.length (bv c) ∧ (∀ b, (Value.slice A c.length cv).ownBlock = some b → w1.heap.size ≤ b) ∧ Keeps [] w1 wr)) (fun _ i _ => S.pieces.length - (intOf i).toNat)
  case atStart =>
    exact ⟨0, S.synced, A2, cA2, rfl, rfl, Nat.zero_le _, hsl, hide ⟨by simp [crashL], HW2.out⟩⟩
  case round =>
    obtain ⟨k, c, A, cv, rfl, rfl, hk, hcl, HR⟩ := hrel
    by_cases hlt : k < S.pieces.length
    · have hd3 := HD.out.keep HR.out.2.2.2 (apart_nil F)
      obtain ⟨bp, cp', hbp, _⟩ := own_form hd3.pcs (by omega)
      injection hbp with hbp _ hcp
      subst hbp hcp
      obtain ⟨hx1, v, b, hx2, ht, hbF, _, _⟩ := hd3.txt k S.pieces[k] (List.getElem?_eq_getElem hlt)
      have hcl3 := hd3.pcs.1
      have q1 := World.ownsRow.cellAt hd3.pcs (2 * k) (by omega)
      have q2 := World.ownsRow.cellAt hd3.pcs (2 * k + 1) (by omega)
      rw [hx1, Nat.mul_comm 2 k] at q1
      rw [hx2, Nat.mul_comm 2 k] at q2
      obtain ⟨ct, curt, frt, hv, hbt, htt⟩ := ht
      subst hv
      have HT3 := hide (And.intro hbt htt)
      have HD3 := hide hd3
      clear hx1 hx2 hbt htt hd3
      have hbp : bp < wr.heap.size := World.block_lt_of_cell? wr _ q1
      by_cases hq0 : q = []
      · subst hq0
        go_wp2_with fail
        go_roundw
        case rel => exact ⟨k + 1, c, A, cv, rfl, by go_num, by omega, hcl, hide ⟨by rw [← HR.out.1, crash_step [] k c S.pieces hlt]; rfl, (HR.out.2.1.alloc _), HR.out.2.2.1, HR.out.2.2.2.alloc _⟩⟩
        case measure => simp [intOf]; omega
      · have hqp : 0 < q.length := List.length_pos_iff.2 hq0
        obtain ⟨qb, qo, hAq, hqc⟩ := (HQ.out.keep (HK1.out.trans' HR.out.2.2.2) (by simp)).head hqp
        subst hAq
        have hml : k % q.length < q.length := Nat.mod_lt _ hqp
        have hx := hqc (k % q.length) (.int .i64 (q.getD (k % q.length) 0)) (by simp [iv, List.getD, hml])
        have hxr := hqr (q.getD (k % q.length) 0) (by simp [List.getD, hml])
        have hqb : qb < wr.heap.size := World.block_lt_of_cell? wr _ hx
        have hsv : surv q k = ((q.getD (k % q.length) 0).tmod 2 != 0) := by simp [surv, hqp]
        have HSV := hide hsv
        clear hqc hsv hqr
        generalize q.getD (k % q.length) 0 = x at hx hxr HSV
        by_cases hxo : x.tmod 2 = 0
        · go_wp2_with fail
          go_roundw
          case rel => exact ⟨k + 1, c, A, cv, rfl, by go_num, by omega, hcl, hide ⟨by rw [← HR.out.1, crash_step q k c S.pieces hlt, HSV.out, hxo]; rfl, (HR.out.2.1.alloc _), HR.out.2.2.1, HR.out.2.2.2.alloc _⟩⟩
          case measure => simp [intOf]; omega
        · have hxo' : (x.tmod 2 != 0) = true := by simpa using hxo
          have hpo := HD3.out.ok.pieces S.pieces[k] (List.getElem_mem hlt)
          have hput := put_any (.slice A c.length cv) c S.pieces[k].1 (some ⟨b, 0, none⟩) ct S.pieces[k].2 (wr.alloc (.cells #[.int .i64 S.pieces[k].1, .slice (some ⟨b, 0, none⟩) S.pieces[k].2.length ct] 69)) (HR.out.2.1.alloc _)
            ((Txt.src ⟨ct, curt, frt, rfl, HT3.out.1, HT3.out.2⟩).keep ((Keeps.refl [] wr).alloc _) (by simp)) (fun _ e => by
              have h1 := HR.out.2.2.1 b e.symm
              have h2 := HD.out.all b hbF
              omega) hpo hcl
          have HP := hide hput
          have hputl := putL_length c S.pieces[k].1 S.pieces[k].2
          have HPL := hide hputl
          clear hput hputl
          generalize hpk : S.pieces[k] = pk at q1 q2 HP HT3 HPL hpo
          have HPK := hide hpk
          clear hpk
          go_wp2_with fail
          refine HP.out.mono ?_
          rintro e w5 ⟨v5, rfl, hown5, hg5, hat5⟩
          obtain ⟨A5, cv5, rfl⟩ := hown5.slice
          have hk5 : Keeps [] w1 w5 := by
            refine (HR.out.2.2.2.alloc (.cells #[.int .i64 pk.1, .slice (some ⟨b, 0, none⟩) pk.2.length ct] 69)).trans (G := (Value.slice A c.length cv).ownBlock.toList) (Keeps.of_grown hg5 (fun z hz => by simp [hz])) (fun z hz => ?_)
            have := HR.out.2.2.1 z (by simpa using hz)
            exact .inr this
          have h5b : ∀ z, (Value.slice A5 (putL c pk.1 pk.2).length cv5).ownBlock = some z → w1.heap.size ≤ z := by
            intro z hz
            rcases hat5 with e | ⟨y, e, hy⟩
            · rw [hz] at e; exact HR.out.2.2.1 z e.symm
            · rw [hz] at e; injection e with e; subst e
              have := HR.out.2.2.2.size
              simp at hy; omega
          have H5 := hide (And.intro hown5 (And.intro h5b hk5))
          clear hown5 hg5 hat5 hk5 h5b
          go_wp2_with fail
          go_roundw
          case rel => exact ⟨k + 1, putL c pk.1 pk.2, A5, cv5, rfl, by go_num, by omega, by rw [HPL.out]; omega, hide ⟨by rw [← HR.out.1, crash_step q k c S.pieces hlt, HSV.out, hxo', HPK.out]; rfl, H5.out⟩⟩
          case measure => simp [intOf]; omega
    · obtain ⟨on, os_, op, ocs, ho⟩ := HN.out.keep HR.out.2.2.2 (apart_nil _)
      have o0 := ho.blk.cell 0
      have o1 := ho.blk.cell 1
      have e0 := ho.blk.free 0
      have e1 := ho.blk.free 1
      have hol := ho.blk.lt
      simp at o0 o1
      have HO := hide ho
      clear ho
      go_wp2_with (first | (with_reducible refine Halt.append ?_))
      refine Halt.on ?_
      have hk' : k = S.pieces.length := by omega
      have hfin : crashL S q = c := by rw [← HR.out.1, hk', List.drop_length]; rfl
      have HF := hide hfin
      clear hfin hk'
      have hne : (Value.slice A c.length cv).ownBlock ≠ some w.heap.size := Own.bk_ne HR.out.2.1 HO.out.blk (by decide)
      have hkw : Keeps [w.heap.size] wr (wr.setCell ⟨w.heap.size, 0, none⟩ (.slice A c.length cv)) := (Keeps.refl _ _).setCell (.inl (by simp)) _
      have hownc : Own ((wr.setCell ⟨w.heap.size, 0, none⟩ (.slice A c.length cv)).alloc (.cells #[] 5)) 5 1 (.slice A c.length cv) c.length (bv c) :=
        (Own.keep HR.out.2.1 hkw (fun z hz => by simp; rintro rfl; exact hne hz)).alloc _
      have hb4 := (HO.out.blk.set 0 (.slice A c.length cv)).alloc (.cells #[] 5)
      refine wpList_append_src _ rfl (.tmp 56) (.tmp 57) 56 rfl 5 i0 _ 1 1 Try.underlying56 hi hz0 hz1 hz2 rfl (by omega) (.slice (some ⟨wr.heap.size, 0, none⟩) 0 0) 0 [] (by first | rfl | simp) (by have := Own.empty (wr.setCell ⟨w.heap.size, 0, none⟩ (.slice A c.length cv)) 5 1; simpa using this) (.slice A c.length cv) c.length (bv c) (by rfl) hownc.src (bv_one _) (by unfold maxLen; omega) (by omega) ?_
      intro v6 w6 hown6 hg6 hat6
      simp only [Nat.zero_add, List.nil_append] at hown6
      obtain ⟨A6, cv6, rfl⟩ := hown6.slice
      have hb6 := hb4.grown hg6 (by simp [Value.ownBlock]; omega)
      have o16 := hb6.cell 1
      have e16 := hb6.free 1
      simp at o16
      have hcr := crash_end w w1 wr w6 S q c A cv A6 cv6 _ _ _ _ HK1.out hs1 HO.out HR.out.2.1 HR.out.2.2.1 HR.out.2.2.2 hcl HF.out hown6 hg6 hat6
      have HC := hide hcr
      clear hcr hb6 hown6 hg6 hat6 hb4 hownc hkw hne
      go_wp2_with fail
      go_ret
      exact ⟨rfl, HC.out⟩
end Go.Proofs.Ytppgddigcoojiaa

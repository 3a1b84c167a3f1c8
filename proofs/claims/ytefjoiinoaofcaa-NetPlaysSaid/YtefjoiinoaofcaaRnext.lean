/- The contract of the reference's Next. -/
import Derived.Test.YtefjoiinoaofcaaRef
namespace Go.Proofs.Ytefjoiinoaofcaa
open Go.RowKit

theorem RefAt.turn2 {w w3 : World} {g : Nat} {F : List Nat} {N N' : NS} {vs vw v' : Value} {L L' : List Par} (h : RefAt w g F N vs vw L) (k : Keeps [g] w w3)
    (hb : Bk w3 g 60 #[.int .i64 N'.nodes, vs, v', .int .i64 N'.sent]) (hown : Own w3 69 6 v' L'.length (pcs L')) (hat : ∀ b, v'.ownBlock = some b → w.heap.size < b)
    (hperm : L'.Perm N'.S) (hok : N'.ok) (e : N'.scr = N.scr) : ∃ F', IsRef w3 g F' N' ∧ Adds w F F' ∧ Keeps F w w3 ∧ w.heap.size ∉ F' := by
  have n1 : vs.ownBlock ≠ some g := h.scr.bk_ne h.blk (by decide)
  have hkF : Keeps F w w3 := k.mono (fun i hi => .inl (by
    rw [List.mem_singleton] at hi
    subst hi
    exact h.gin))
  refine ⟨v'.ownBlock.toList ++ F, ⟨vs, v', L', hb, by simp [h.gin], ?_, hown, fun b hb => by simp [h.sin b hb], fun b hb => by simp [hb], ?_, hperm, hok⟩, ?_, hkF, ?_⟩
  · rw [e]
    refine h.scr.keep k (fun b hq hm => ?_)
    rw [List.mem_singleton] at hm
    subst hm
    exact n1 hq
  · intro i hi
    rw [List.mem_append] at hi
    rcases hi with hi | hi
    · exact hown.lt i (by simpa using hi)
    · exact h.all.keep hkF i hi
  · intro i hi
    rw [List.mem_append] at hi
    rcases hi with hi | hi
    · exact .inr (Nat.le_of_lt (hat i (by simpa using hi)))
    · exact .inl hi
  · intro hi
    rw [List.mem_append] at hi
    rcases hi with hi | hi
    · exact Nat.lt_irrefl _ (hat _ (by simpa using hi))
    · exact Nat.lt_irrefl _ (h.all _ hi)
theorem rnext_end {w w3 : World} {g : Nat} {F : List Nat} {N : NS} (h : ∃ F', IsRef w3 g F' N ∧ Adds w F F' ∧ Keeps F w w3 ∧ w.heap.size ∉ F') (v0 v1 v2 v3 : Value) :
    ∃ F', IsRef (((((w3.setCell ⟨w.heap.size, 0, none⟩ v0).setCell ⟨w.heap.size, 1, none⟩ v1).setCell ⟨w.heap.size, 2, none⟩ v2).setCell ⟨w.heap.size, 3, none⟩ v3).drew) g F' N ∧ Adds w F F' ∧
      Keeps F w (((((w3.setCell ⟨w.heap.size, 0, none⟩ v0).setCell ⟨w.heap.size, 1, none⟩ v1).setCell ⟨w.heap.size, 2, none⟩ v2).setCell ⟨w.heap.size, 3, none⟩ v3).drew) := by
  obtain ⟨F', h1, h2, h3, h4⟩ := h
  have kk : Keeps [w.heap.size] w3 (((((w3.setCell ⟨w.heap.size, 0, none⟩ v0).setCell ⟨w.heap.size, 1, none⟩ v1).setCell ⟨w.heap.size, 2, none⟩ v2).setCell ⟨w.heap.size, 3, none⟩ v3).drew) :=
    (((((Keeps.refl _ _).setCell (.inl (by simp)) _).setCell (.inl (by simp)) _).setCell (.inl (by simp)) _).setCell (.inl (by simp)) _).drew
  refine ⟨F', h1.keep kk (fun i hi hm => ?_), h2, h3.trans kk (fun i hi => .inr (by simp at hi; omega))⟩
  rw [List.mem_singleton] at hm
  subst hm
  exact h4 hi

/-- A slice that came in, cut behind. -/
theorem Src.cutN {w : World} {sz L c : Nat} {A : Option Addr} {xs : List Value} (h : Src w sz (.slice A L c) L xs) (n : Nat) (hn : n ≤ L) : Src w sz (.slice A n c) n (xs.take (n * sz)) := by
  obtain ⟨hl, A', c', hA, h0, hc⟩ := h
  injection hA with hA _ _
  subst hA
  refine ⟨by rw [List.length_take, hl]; exact Nat.min_eq_left (Nat.mul_le_mul_right _ hn), A, c, rfl, fun e => by have := h0 e; omega, fun ad had j u hu => hc ad had j u ?_⟩
  rw [List.getElem?_take] at hu
  split at hu
  · exact hu
  · cases hu
theorem src_drop {w : World} {g n c k : Nat} {L : List Par} {t : TypeId} (h : Own w t 6 (.slice (some ⟨g, 0, none⟩) n c) n (pcs L)) (hk : k ≤ n) (hn : L.length = n) :
    Src w 6 (.slice (if c = k then some ⟨g, 0, none⟩ else some ⟨g, k * 6, none⟩) (n - k) (c - k)) (n - k) (pcs (L.drop k)) := by
  have hs := h.src
  obtain ⟨hl, A, c', hA, h0, hc⟩ := hs
  injection hA with hA _ _
  subst hA
  refine ⟨by rw [pcs_length, List.length_drop, hn], _, _, rfl, (fun e => by split at e <;> cases e), fun ad had j u hu => ?_⟩
  have hcap := h.cap
  have hj : j < (L.drop k).length * 6 := by rw [← pcs_length]; exact (List.getElem?_eq_some_iff.1 hu).1
  rw [List.length_drop, hn] at hj
  have hck : ¬ c = k := by
    intro e
    have : n - k = 0 := by omega
    rw [this] at hj
    omega
  rw [if_neg hck] at had
  injection had with had
  subst had
  rw [← pcs_drop, List.getElem?_drop] at hu
  have := hc _ rfl _ _ hu
  have e1 : (⟨g, 0, none⟩ : Addr).add (k * 6 + j) = ⟨g, k * 6 + j, none⟩ := by unfold Addr.add; split <;> simp_all
  have e2 : (⟨g, k * 6, none⟩ : Addr).add j = ⟨g, k * 6 + j, none⟩ := by unfold Addr.add; split <;> simp_all
  rw [e1] at this
  rw [e2]
  exact this

theorem rnext_perm {L : List Par} {q : Par} {S : List Par} (hp : L.Perm (q :: S)) (hs : Sorted (q :: S)) (b : Nat) (hb : b < L.length) (hl : ∀ i, i < L.length → ¬ (at_ L i).lt (at_ L b)) : at_ L b = q ∧ (L.take b ++ L.drop (b + 1)).Perm S := by
  have h1 : at_ L b = q := by
    refine least_head hp hs _ (by rw [at_eq L b hb]; exact List.getElem_mem _) fun r hr => ?_
    obtain ⟨k, hk, rfl⟩ := List.getElem_of_mem hr
    rw [← at_eq L k hk]
    exact hl k hk
  refine ⟨h1, ?_⟩
  have h2 := perm_eraseIdx L b hb
  rw [← at_eq L b hb, h1] at h2
  rw [← List.eraseIdx_eq_take_drop_succ]
  exact (List.perm_cons q).1 (h2.symm.trans hp)

set_option maxHeartbeats 400000 in
theorem rnext_none (g : Nat) (F : List Nat) (N : NS) (w : World) (h : IsRef w g F N) (h0 : N.S = []) :
    Calls Try.prog 17 #[.pointer (some ⟨g, 0, none⟩)] w fun e w' => e = .returned (.tuple #[msgV 0 0 0 ⟨#[]⟩, .int .i64 0, .bool false]) ∧ Keeps [] w w' := by
  obtain ⟨vs, vw, L, hd⟩ := h
  obtain ⟨A, c, hv⟩ := hd.wai.slice
  have hL : L.length = 0 := by rw [hd.perm.length_eq, h0]; rfl
  have c2 := hd.blk.cell 2
  have hg := hd.blk.lt
  simp at c2
  rw [hv, hL] at c2
  have HK := hide ((Keeps.refl [] w).alloc (.cells #[.int .i64 0, .int .i64 0, .int .i64 0, .string ⟨#[]⟩] 31))
  clear hd hv hL h0
  unfold msgV
  go_enter Try.func17, Try.ntmps17
  go_wp2_with fail
  exact bodyPost_ret (v := .tuple #[.agg #[.int .i64 0, .int .i64 0, .int .i64 0, .string ⟨#[]⟩], .int .i64 0, .bool false]) (by simp [results, Try.results17, go_sem]) rfl ⟨rfl, HK.out⟩

set_option maxRecDepth 100000 in
set_option maxHeartbeats 3200000 in
theorem rnext_some (g : Nat) (F : List Nat) (N : NS) (q : Par) (S : List Par) (w : World) (h : IsRef w g F N) (hS : N.S = q :: S) :
    Calls Try.prog 17 #[.pointer (some ⟨g, 0, none⟩)] w fun e w' => e = .returned (.tuple #[msgV q.fr q.to q.num q.tx, .int .i64 q.time, .bool true]) ∧ ∃ F', IsRef w' g F' { N with S := S } ∧ Adds w F F' ∧ Keeps F w w' := by
  obtain ⟨vs, vw, L, hd⟩ := h
  have hlen : L.length ≤ 800000 := by
    have h1 := hd.perm.length_eq
    have h2 := hd.ok.many
    have h3 := hd.ok.few
    omega
  have hL : L.length = S.length + 1 := by rw [hd.perm.length_eq, hS]; rfl
  obtain ⟨n, hn⟩ : ∃ n, L.length = n := ⟨_, rfl⟩
  obtain ⟨gl, c, cur, hv, hc, hcm, hbk, _, _, hcell⟩ := hd.wai.head (by omega)
  rw [hn] at hv hc
  subst hv
  have hown : Own w 69 6 (.slice (some ⟨gl, 0, none⟩) n c) n (pcs L) := by have := hd.wai; rw [hn] at this; exact this
  have kb := (Keeps.refl [] w).alloc (.cells #[.int .i64 0, .int .i64 0, .int .i64 0, .string ⟨#[]⟩] 31)
  have c2 := hd.blk.cell 2
  have f2 := hd.blk.free 2
  have hg := hd.blk.lt
  have hgl := hbk.lt
  simp at c2
  have hgg : gl ≠ g := fun e => hd.wai.bk_ne hd.blk (by decide) (by rw [e]; rfl)
  have hq : ∀ W, Keeps [] w W → ∀ i, i < n → W.cell? ⟨gl, i * 6, none⟩ = some (.int .i64 (at_ L i).fr) ∧ W.cell? ⟨gl, i * 6 + 1, none⟩ = some (.int .i64 (at_ L i).to) ∧ W.cell? ⟨gl, i * 6 + 2, none⟩ = some (.int .i64 (at_ L i).num) ∧
      W.cell? ⟨gl, i * 6 + 3, none⟩ = some (.string (at_ L i).tx) ∧ W.cell? ⟨gl, i * 6 + 4, none⟩ = some (.int .i64 (at_ L i).time) ∧ W.cell? ⟨gl, i * 6 + 5, none⟩ = some (.int .i64 (at_ L i).sent) := by
    intro W hW i hi
    obtain ⟨x0, x1, x2, x3, x4, x5⟩ := pcs_at L i (by omega)
    exact ⟨hW.cell (hcell _ _ x0), hW.cell (hcell _ _ x1), hW.cell (hcell _ _ x2), hW.cell (hcell _ _ x3), hW.cell (hcell _ _ x4), hW.cell (hcell _ _ x5)⟩
  have hcells2 : ∀ W, Keeps [] w W → W.cell? ⟨g, 2, none⟩ = some (.slice (some ⟨gl, 0, none⟩) n c) := fun W hW => hW.cell c2
  have HQ := hide hq
  have HC2 := hide hcells2
  have HD := hide hd
  have HKB := hide kb
  have HN := hide hn
  have HOW := hide hown
  have HS := hide hS
  have hn1 : 1 ≤ n := by omega
  have hnn : n ≤ 800000 := by omega
  have hne : ((n : Int) == 0) = false := by simp; omega
  clear hq hcells2 hd kb hcell hbk hown hS hL hlen hn
  unfold msgV
  go_enter Try.func17, Try.ntmps17
  go_wp2_with fail
  go_loopw [5, 6] (fun bv kv wr => ∃ b k : Nat, bv = .int .i64 b ∧ kv = .int .i64 k ∧ b < k ∧ k ≤ n ∧ Hid (Keeps [] (w.alloc (.cells #[.int .i64 0, .int .i64 0, .int .i64 0, .string ⟨#[]⟩] 31)) wr ∧ ∀ i, i < k → ¬ (at_ L i).lt (at_ L b))) (fun _ kv _ => n - (intOf kv).toNat)
  case atStart => exact ⟨0, 1, rfl, rfl, by omega, hn1, hide ⟨Keeps.refl _ _, fun i hi => by have : i = 0 := by omega
                                                                                             subst this; unfold Par.lt; omega⟩⟩
  case round =>
    obtain ⟨b, k, rfl, rfl, hbk, hkn, HR⟩ := hrel
    have kw := HKB.out.trans' HR.out.1
    have g2 := HC2.out wr kw
    by_cases hlt : k < n
    · obtain ⟨_, _, _, _, k4, k5⟩ := HQ.out wr kw k hlt
      obtain ⟨_, _, _, _, j4, j5⟩ := HQ.out wr kw b (by omega)
      have z1 : (0 : Int) ≤ (k : Int) := by omega
      have z2 : (k : Int) < (n : Int) := by omega
      have z3 : (0 : Int) ≤ (b : Int) := by omega
      have z4 : (b : Int) < (n : Int) := by omega
      clear kw
      generalize hp : at_ L k = p at *
      generalize hr : at_ L b = r at *
      have HP := hide hp
      have HRR := hide hr
      clear hp hr
      have hstay : ¬ p.lt r → ∀ i, i < k + 1 → ¬ (at_ L i).lt (at_ L b) := fun hnl i hi => by
        by_cases e : i = k
        · subst e; rw [HP.out, HRR.out]; exact hnl
        · rw [HRR.out]; exact HR.out.2 i (by omega)
      have hturn : p.lt r → ∀ i, i < k + 1 → ¬ (at_ L i).lt (at_ L k) := fun hl i hi => by
        by_cases e : i = k
        · subst e; unfold Par.lt; omega
        · have := HR.out.2 i (by omega)
          rw [HP.out]
          unfold Par.lt at *; omega
      have HST := hide hstay
      have HTU := hide hturn
      have HRK := hide HR.out.1
      clear hstay hturn
      by_cases e1 : p.time < r.time
      · have d1 : decide (p.time < r.time) = true := by simpa using e1
        go_wp2_with fail
        go_quiet (fail)
        go_wp2_with fail
        go_roundw
        case rel => exact ⟨k, k + 1, rfl, by go_num, by omega, by omega, hide ⟨HRK.out.drewN nq, HTU.out (.inl e1)⟩⟩
        case measure => simp [intOf]; omega
      · have d1 : decide (p.time < r.time) = false := by simpa using e1
        by_cases e2 : p.time = r.time
        · have d2 : (p.time == r.time) = true := by simpa using e2
          by_cases e3 : p.sent < r.sent
          · have d3 : decide (p.sent < r.sent) = true := by simpa using e3
            have E2 := hide e2
            clear e2
            go_wp2_with fail
            go_quiet (fail)
            go_wp2_with fail
            go_roundw
            case rel => exact ⟨k, k + 1, rfl, by go_num, by omega, by omega, hide ⟨HRK.out.drewN nq, HTU.out (.inr ⟨E2.out, e3⟩)⟩⟩
            case measure => simp [intOf]; omega
          · have d3 : decide (p.sent < r.sent) = false := by simpa using e3
            have E2 := hide e2
            clear e2
            go_wp2_with fail
            go_quiet (fail)
            go_wp2_with fail
            go_roundw
            case rel => exact ⟨b, k + 1, rfl, by go_num, by omega, by omega, hide ⟨HRK.out.drewN nq, HST.out (by have := E2.out; unfold Par.lt; omega)⟩⟩
            case measure => simp [intOf]; omega
        · have d2 : (p.time == r.time) = false := by simpa using e2
          go_wp2_with fail
          go_quiet (fail)
          go_wp2_with fail
          go_roundw
          case rel => exact ⟨b, k + 1, rfl, by go_num, by omega, by omega, hide ⟨HRK.out.drewN nq, HST.out (by unfold Par.lt; omega)⟩⟩
          case measure => simp [intOf]; omega
    · have hkn' : k = n := by omega
      subst hkn'
      obtain ⟨hpq, hperm⟩ := rnext_perm (L := L) (by rw [← HS.out]; exact HD.out.perm) (by rw [← HS.out]; exact HD.out.ok.sorted) b (by rw [HN.out]; exact hbk) (fun i hi => HR.out.2 i (by rw [HN.out] at hi; exact hi))
      obtain ⟨p0, p1, p2, p3, p4, p5⟩ := HQ.out wr kw b hbk
      rw [hpq] at p0 p1 p2 p3 p4 p5
      have HPM := hide hperm
      have HRK := hide HR.out.1
      have hglr : gl < wr.heap.size := by have := kw.size; omega
      have hgr : g < wr.heap.size := by have := kw.size; omega
      have z3 : (0 : Int) ≤ (b : Int) := by omega
      have z4 : (b : Int) < (k : Int) := by omega
      have z5 : (b : Int) ≤ (c : Int) := by omega
      have z6 : (b : Int) + 1 ≤ (k : Int) := by omega
      have z7 : (k : Int) ≤ (c : Int) := by omega
      have z8 : (0 : Int) ≤ (b : Int) + 1 := by omega
      have hdn : decide (k < k) = false := by simp
      obtain ⟨i0, hi, hz0, hz1, hz2⟩ := info_parts Try.info69
      have HI := hide (And.intro hi (And.intro hz0 (And.intro hz1 hz2)))
      have HKW := hide kw
      clear hpq hperm HR kw hi hz0 hz1 hz2 HQ
      go_wp2_with (first | (with_reducible refine Halt.append ?_))
      refine Halt.on ?_
      have kw0 := HKW.out.alloc (.cells #[.int .i64 q.fr, .int .i64 q.to, .int .i64 q.num, .string q.tx, .int .i64 q.time, .int .i64 q.sent] 69)
      have bx0 : Bk (wr.alloc (.cells #[.int .i64 q.fr, .int .i64 q.to, .int .i64 q.num, .string q.tx, .int .i64 q.time, .int .i64 q.sent] 69)) wr.heap.size 69 #[.int .i64 q.fr, .int .i64 q.to, .int .i64 q.num, .string q.tx, .int .i64 q.time, .int .i64 q.sent] := Bk.new _ _ _
      have br0 : Bk (wr.alloc (.cells #[.int .i64 q.fr, .int .i64 q.to, .int .i64 q.num, .string q.tx, .int .i64 q.time, .int .i64 q.sent] 69)) w.heap.size 31 #[.int .i64 0, .int .i64 0, .int .i64 0, .string ⟨#[]⟩] := ((Bk.new w 31 _).keep HRK.out (by simp)).alloc _
      clear g2 p0 p1 p2 p3 p4 p5
      generalize hW0 : wr.alloc (.cells #[.int .i64 q.fr, .int .i64 q.to, .int .i64 q.num, .string q.tx, .int .i64 q.time, .int .i64 q.sent] 69) = W0 at kw0 bx0 br0 ⊢
      have hsz0 : wr.heap.size < W0.heap.size := bx0.lt
      have hwsz : w.heap.size < wr.heap.size := by have := HRK.out.size; simp at this; omega
      clear hW0
      have hown0 := HOW.out.keep kw0 (by simp)
      have hs1 := hown0.src.cutN b (by omega)
      rw [pcs_take] at hs1
      refine wpList_append_src _ rfl _ _ _ rfl 69 i0 _ 6 56 Try.underlying58 HI.out.1 HI.out.2.1 HI.out.2.2.1 HI.out.2.2.2 rfl (by omega) (.slice none 0 0) 0 [] rfl (World.ownsRow_nil _ _ _ _) (.slice (some ⟨gl, 0, none⟩) b c) b (pcs (L.take b)) rfl hs1 (pcs_one _) (by unfold maxLen; omega) (by omega) ?_
      intro v1 w1 hown1 hg1 hat1
      rw [Nat.zero_add, List.nil_append] at hown1
      have k01 : Keeps [] W0 w1 := Keeps.of_grown hg1 (fun k hk => by simp [Value.ownBlock] at hk)
      have hnew1 : ∀ x, v1.ownBlock = some x → W0.heap.size ≤ x := fun x hx => by
        rcases hat1 with e | e
        · rw [hx] at e; simp [Value.ownBlock] at e
        · rw [hx] at e; simp at e; omega
      have kw1 := kw0.trans' k01
      have g2 := HC2.out w1 kw1
      have hs2 := src_drop (hown0.keep k01 (by simp)) (show b + 1 ≤ k by omega) HN.out
      have bx1 := bx0.keep k01 (by simp)
      have br1 := br0.keep k01 (by simp)
      obtain ⟨A1, c1, hv1⟩ := hown1.slice
      subst hv1
      have HO1 := hide hown1
      have HNW1 := hide hnew1
      have HS2 := hide hs2
      have HKW1 := hide kw1
      have HBX1 := hide bx1
      have HBR1 := hide br1
      have hsz1 : W0.heap.size ≤ w1.heap.size := k01.size
      clear hown1 hg1 hat1 k01 hnew1 kw1 hs2 bx1 br1 hown0 hs1 kw0 bx0 br0 HKW HRK
      have hglw : gl < w1.heap.size := by omega
      have hgw : g < w1.heap.size := by omega
      by_cases hcb : c = b + 1
      · rw [if_pos hcb] at HS2
        have hcbi : (c : Int) = (b : Int) + 1 := by omega
        subst hcb
        have hk1 : k = b + 1 := by omega
        have HS2' : Hid (Src w1 6 (.slice (some ⟨gl, 0, none⟩) 0 0) 0 (pcs (L.drop (b + 1)))) := by
          have := HS2.out
          rw [show k - (b + 1) = 0 by omega, show b + 1 - (b + 1) = 0 by omega] at this
          exact hide this
        clear HS2
        have HS2 := HS2'
        clear HS2' hk1 hcbi
        go_wp2_with (first | (with_reducible refine Halt.append ?_))
        refine Halt.on ?_
        refine wpList_append_src _ rfl _ _ _ rfl 69 i0 _ 6 56 Try.underlying58 HI.out.1 HI.out.2.1 HI.out.2.2.1 HI.out.2.2.2 rfl (by omega) (.slice A1 b c1) b (pcs (L.take b)) rfl HO1.out (.slice (some ⟨gl, 0, none⟩) 0 0) 0 (pcs (L.drop (b + 1))) rfl HS2.out (pcs_one _) (by unfold maxLen; omega) (by omega) ?_
        intro v2 w2 hown2 hg2 hat2
        obtain ⟨A2, c2', hv2⟩ := hown2.slice
        subst hv2
        have k12 : Keeps (Value.slice A1 b c1).ownBlock.toList w1 w2 := Keeps.of_grown hg2 (fun k hk => by simp [hk])
        have hnw1 := HNW1.out
        have nb1 : ∀ x, x < W0.heap.size → x ∉ (Value.slice A1 b c1).ownBlock.toList := fun x hx hm => by
          have := hnw1 x (by simpa using hm); omega
        have bx2 := HBX1.out.keep k12 (nb1 _ hsz0)
        have br2 := HBR1.out.keep k12 (nb1 _ (by omega))
        have kw2 : Keeps [] w w2 := HKW1.out.trans k12 (fun i hi => .inr (by have := hnw1 i (by simpa using hi); omega))
        have hnew2 : ∀ x, (Value.slice A2 (b + 0) c2').ownBlock = some x → w.heap.size < x := fun x hx => by
          rcases hat2 with e | e
          · rw [hx] at e; have := hnw1 x e.symm; omega
          · rw [hx] at e; simp at e; omega
        have g2' := HC2.out w2 kw2
        have hbk2 := HD.out.blk.keep kw2 (by simp)
        have f2' := hbk2.free 2
        have hl2 : (L.take b ++ L.drop (b + 1)).length = b + 0 := by
          have := HN.out
          simp
          omega
        have hfin : ∃ F', IsRef (w2.setCell ⟨g, 2, none⟩ (.slice A2 (b + 0) c2')) g F' { N with S := S } ∧ Adds w F F' ∧ Keeps F w (w2.setCell ⟨g, 2, none⟩ (.slice A2 (b + 0) c2')) ∧ w.heap.size ∉ F' := by
          have k3 : Keeps [g] w2 (w2.setCell ⟨g, 2, none⟩ (.slice A2 (b + 0) c2')) := (Keeps.refl _ _).setCell (.inl (by simp)) _
          refine HD.out.turn2 (N' := { N with S := S }) (L' := L.take b ++ L.drop (b + 1)) (kw2.nil.trans' k3) ?_ ?_ hnew2 HPM.out ?_ rfl
          · have := hbk2.set 2 (.slice A2 (b + 0) c2')
            simpa using this
          · rw [hl2, pcs_append]
            exact hown2.keep k3 (fun x hx hm => by
              rw [List.mem_singleton] at hm
              subst hm
              have := hnew2 x hx
              omega)
          · have := nextS_ok HD.out.ok
            unfold nextS at this
            rw [HS.out] at this
            exact this
        have x0 := bx2.cell 0
        have x1 := bx2.cell 1
        have x2 := bx2.cell 2
        have x3 := bx2.cell 3
        have x4 := bx2.cell 4
        have r0 := br2.cell 0
        have r1 := br2.cell 1
        have r2 := br2.cell 2
        have r3 := br2.cell 3
        have e0 := br2.free 0
        have e1 := br2.free 1
        have e2 := br2.free 2
        have e3 := br2.free 3
        simp at x0 x1 x2 x3 x4 r0 r1 r2 r3
        have HFIN := hide hfin
        have hgne : g ≠ w.heap.size := by omega
        have hgne2 : g ≠ wr.heap.size := by omega
        have hwne : w.heap.size ≠ wr.heap.size := by omega
        have hbl := br2.lt
        clear hfin hown2 hg2 hat2 k12 hnw1 nb1 bx2 br2 kw2 hnew2 hbk2 hl2 g2 HS2 HO1 HNW1 HKW1 HBX1 HBR1 HI HPM HC2 HOW HD HS
        go_wp2_with fail
        go_region
        all_goals
          go_wp2_with fail
          refine bodyPost_ret (v := .tuple #[.agg #[.int .i64 q.fr, .int .i64 q.to, .int .i64 q.num, .string q.tx], .int .i64 q.time, .bool true]) (by simp [results, Try.results17, go_sem, r0, r1, r2, r3]) rfl ⟨rfl, ?_⟩
          exact rnext_end HFIN.out _ _ _ _
      · rw [if_neg hcb] at HS2
        go_wp2_with (first | (with_reducible refine Halt.append ?_))
        refine Halt.on ?_
        refine wpList_append_src _ rfl _ _ _ rfl 69 i0 _ 6 56 Try.underlying58 HI.out.1 HI.out.2.1 HI.out.2.2.1 HI.out.2.2.2 rfl (by omega) (.slice A1 b c1) b (pcs (L.take b)) rfl HO1.out (.slice (some ⟨gl, (b + 1) * 6, none⟩) (k - (b + 1)) (c - (b + 1))) (k - (b + 1)) (pcs (L.drop (b + 1))) rfl HS2.out (pcs_one _) (by unfold maxLen; omega) (by omega) ?_
        intro v2 w2 hown2 hg2 hat2
        obtain ⟨A2, c2', hv2⟩ := hown2.slice
        subst hv2
        have k12 : Keeps (Value.slice A1 b c1).ownBlock.toList w1 w2 := Keeps.of_grown hg2 (fun k hk => by simp [hk])
        have hnw1 := HNW1.out
        have nb1 : ∀ x, x < W0.heap.size → x ∉ (Value.slice A1 b c1).ownBlock.toList := fun x hx hm => by
          have := hnw1 x (by simpa using hm); omega
        have bx2 := HBX1.out.keep k12 (nb1 _ hsz0)
        have br2 := HBR1.out.keep k12 (nb1 _ (by omega))
        have kw2 : Keeps [] w w2 := HKW1.out.trans k12 (fun i hi => .inr (by have := hnw1 i (by simpa using hi); omega))
        have hnew2 : ∀ x, (Value.slice A2 (b + (k - (b + 1))) c2').ownBlock = some x → w.heap.size < x := fun x hx => by
          rcases hat2 with e | e
          · rw [hx] at e; have := hnw1 x e.symm; omega
          · rw [hx] at e; simp at e; omega
        have g2' := HC2.out w2 kw2
        have hbk2 := HD.out.blk.keep kw2 (by simp)
        have f2' := hbk2.free 2
        have hl2 : (L.take b ++ L.drop (b + 1)).length = b + (k - (b + 1)) := by
          have := HN.out
          simp
          omega
        have hfin : ∃ F', IsRef (w2.setCell ⟨g, 2, none⟩ (.slice A2 (b + (k - (b + 1))) c2')) g F' { N with S := S } ∧ Adds w F F' ∧ Keeps F w (w2.setCell ⟨g, 2, none⟩ (.slice A2 (b + (k - (b + 1))) c2')) ∧ w.heap.size ∉ F' := by
          have k3 : Keeps [g] w2 (w2.setCell ⟨g, 2, none⟩ (.slice A2 (b + (k - (b + 1))) c2')) := (Keeps.refl _ _).setCell (.inl (by simp)) _
          refine HD.out.turn2 (N' := { N with S := S }) (L' := L.take b ++ L.drop (b + 1)) (kw2.nil.trans' k3) ?_ ?_ hnew2 HPM.out ?_ rfl
          · have := hbk2.set 2 (.slice A2 (b + (k - (b + 1))) c2')
            simpa using this
          · rw [hl2, pcs_append]
            exact hown2.keep k3 (fun x hx hm => by
              rw [List.mem_singleton] at hm
              subst hm
              have := hnew2 x hx
              omega)
          · have := nextS_ok HD.out.ok
            unfold nextS at this
            rw [HS.out] at this
            exact this
        have x0 := bx2.cell 0
        have x1 := bx2.cell 1
        have x2 := bx2.cell 2
        have x3 := bx2.cell 3
        have x4 := bx2.cell 4
        have r0 := br2.cell 0
        have r1 := br2.cell 1
        have r2 := br2.cell 2
        have r3 := br2.cell 3
        have e0 := br2.free 0
        have e1 := br2.free 1
        have e2 := br2.free 2
        have e3 := br2.free 3
        simp at x0 x1 x2 x3 x4 r0 r1 r2 r3
        have HFIN := hide hfin
        have hgne : g ≠ w.heap.size := by omega
        have hgne2 : g ≠ wr.heap.size := by omega
        have hwne : w.heap.size ≠ wr.heap.size := by omega
        have hbl := br2.lt
        clear hfin hown2 hg2 hat2 k12 hnw1 nb1 bx2 br2 kw2 hnew2 hbk2 hl2 g2 HS2 HO1 HNW1 HKW1 HBX1 HBR1 HI HPM HC2 HOW HD HS
        go_wp2_with fail
        go_region
        all_goals
          go_wp2_with fail
          refine bodyPost_ret (v := .tuple #[.agg #[.int .i64 q.fr, .int .i64 q.to, .int .i64 q.num, .string q.tx], .int .i64 q.time, .bool true]) (by simp [results, Try.results17, go_sem, r0, r1, r2, r3]) rfl ⟨rfl, ?_⟩
          exact rnext_end HFIN.out _ _ _ _
end Go.Proofs.Ytefjoiinoaofcaa

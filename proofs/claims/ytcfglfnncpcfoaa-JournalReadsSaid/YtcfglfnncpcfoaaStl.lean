/- Settle. -/
import Derived.Test.YtcfglfnncpcfoaaLog
import Derived.Test.YtcfglfnncpcfoaaBst
namespace Go.Proofs.Ytcfglfnncpcfoaa
open Go.RowKit
/-- How many events come up to time x. -/
def upto (L : List Ev) (x : Int) : Nat := cutN (fun z => decide (z.t ≤ x)) L
def settleS (S : Lg) (x : Int) : Lg := if x < S.op then S else ⟨S.L.drop (upto S.L x), (x + 1).toNat⟩
def settleR (S : Lg) (x : Int) : List Ev := if x < S.op then [] else S.L.take (upto S.L x)
theorem upto_le (L : List Ev) (x : Int) : upto L x ≤ L.length := cutN_le _ _
theorem settle_ok {S : Lg} (h : S.ok) (x : Int) (hx : x ≤ 9223372036854775807) : (settleS S x).ok := by
  unfold settleS
  split
  · exact h
  · rename_i hlt
    refine ⟨List.Pairwise.sublist (List.drop_sublist _ _) h.srt, ?_, by show (x + 1).toNat ≤ _; omega, fun e he => ?_⟩
    · show (S.L.drop _).length ≤ _
      rw [List.length_drop]; have := h.len; omega
    · show (((x + 1).toNat : Nat) : Int) ≤ e.t
      obtain ⟨i, hi, rfl⟩ := List.getElem_of_mem he
      rw [List.length_drop] at hi
      have hp := (cutN_parts _ _ (h.srt.mono_t x)).2 (upto S.L x + i) (by omega)
      have h2 : ¬ (upto S.L x + i < cutN (fun z => decide (z.t ≤ x)) S.L) := by unfold upto; omega
      have h3 := mt hp.1 h2
      simp only [decide_eq_true_eq] at h3
      have h4 : (S.L.drop (upto S.L x))[i]'(by rw [List.length_drop]; exact hi) = S.L[upto S.L x + i]'(by omega) := List.getElem_drop
      show _ ≤ ((S.L.drop (upto S.L x))[i]'(by rw [List.length_drop]; exact hi)).t
      rw [h4]
      omega
/-- What a Settle leaves: the result, and the log. -/
def Settled (T : TypeId) (w : World) (g : Nat) (F : List Nat) (S : Lg) (x : Int) (v : Value) (w' : World) : Prop :=
  EO w' v (settleR S x) ∧ New w v ∧ ∃ F', IsLg T w' g F' (settleS S x) ∧ Adds w F F' ∧ Keeps F w w' ∧ ∀ b, v.ownBlock = some b → b ∉ F'
/-- Behind the last store. -/
theorem settled_mk {T : TypeId} {w w2 w3 w4 : World} {g : Nat} {F : List Nat} {S : Lg} {x : Int} {v0 v3 v4 : Value} (hT : (27 : Nat) ≠ T) (h : LgAt T w g F S v0) (hx : ¬ x < S.op) (hx2 : x ≤ 9223372036854775807)
    (hb2 : Bk w2 g T #[v0, .int .u64 (((x + 1).toNat : Nat) : Int)]) (k2 : Keeps [g] w w2)
    (e3 : EO w3 v3 (S.L.take (upto S.L x))) (n3 : New w2 v3) (k3 : Keeps [] w2 w3) (e4 : EO w4 v4 (S.L.drop (upto S.L x))) (n4 : New w3 v4) (k4 : Keeps [] w3 w4) :
    Settled T w g F S x v3 (w4.setCell ⟨g, 0, none⟩ v4) := by
  have hb4 : Bk w4 g T #[v0, .int .u64 (((x + 1).toNat : Nat) : Int)] := (hb2.keep k3 (by simp)).keep k4 (by simp)
  have q3 : v3.ownBlock ≠ some g := Own.bk_ne (Own.keep e3 k4 (by simp)) hb4 hT
  have q4 : v4.ownBlock ≠ some g := Own.bk_ne e4 hb4 hT
  have ks : Keeps [g] w4 (w4.setCell ⟨g, 0, none⟩ v4) := (Keeps.refl _ _).setCell (.inl (by simp)) _
  have kall : Keeps [g] w (w4.setCell ⟨g, 0, none⟩ v4) := ((k2.trans' k3.nil).trans' k4.nil).trans' ks
  have s1 := k2.size
  have s2 := k3.size
  have s3 := k4.size
  have hst : settleS S x = ⟨S.L.drop (upto S.L x), (x + 1).toNat⟩ := by unfold settleS; rw [if_neg hx]
  have hsr : settleR S x = S.L.take (upto S.L x) := by unfold settleR; rw [if_neg hx]
  refine ⟨?_, fun b hb => Nat.le_trans s1 (n3 b hb), g :: v4.ownBlock.toList, ⟨v4, ?_⟩, ?_, kall.mono (fun i hi => .inl (by simp at hi; subst hi; exact h.gin)), fun b hb => ?_⟩
  · rw [hsr]
    exact Own.keep (Own.keep e3 k4 (by simp)) ks (fun b hb hm => q3 (by simp at hm; subst hm; exact hb))
  · refine ⟨?_, ?_, by simp, fun b hb => by simp [hb], q4, fun i hi => ?_, settle_ok h.ok x hx2⟩
    · rw [hst]
      exact hb4.set 0 v4
    · rw [hst]
      exact Own.keep e4 ks (fun b hb hm => q4 (by simp at hm; subst hm; exact hb))
    · simp at hi
      rcases hi with rfl | hi
      · have := hb4.lt; simp; exact this
      · have := Own.lt e4 i hi; simp; exact this
  · intro i hi
    simp at hi
    rcases hi with rfl | hi
    · exact .inl h.gin
    · exact .inr (Nat.le_trans (Nat.le_trans s1 s2) (n4 i hi))
  · simp only [List.mem_cons, Option.mem_toList, not_or]
    refine ⟨fun e => q3 (by rw [← e]; exact hb), fun e => ?_⟩
    have h1 := Own.lt e3 b hb
    have h2 := n4 b e
    omega
theorem settle_none {T : TypeId} {w : World} {g : Nat} {F : List Nat} {S : Lg} {x : Int} (h : IsLg T w g F S) (hx : x < S.op) : Settled T w g F S x (.slice none 0 0) w := by
  refine ⟨by unfold settleR; rw [if_pos hx]; exact eo_nil w, new_nil w, F, by unfold settleS; rw [if_pos hx]; exact h, Adds.refl _ _, Keeps.refl _ _, fun b hb => by simp [Value.ownBlock] at hb⟩
set_option maxHeartbeats 1000000 in
set_option maxRecDepth 100000 in
theorem settle_any (g : Nat) (F : List Nat) (S : Lg) (x : Int) (w : World) (h : IsLg 66 w g F S) (hx1 : -9223372036854775808 ≤ x) (hx2 : x ≤ 9223372036854775807) :
    Calls Try.prog 28 #[.pointer (some ⟨g, 0, none⟩), .int .i64 x] w fun r w' => ∃ v, r = .returned v ∧ Settled 66 w g F S x v w' := by
  have HL := hide h
  obtain ⟨v0, h⟩ := h
  obtain ⟨A, c, rfl⟩ := Own.slice h.own
  have c1 := h.blk.cell 1
  simp at c1
  by_cases hlt : x < S.op
  · have HN := hide (settle_none HL.out hlt)
    by_cases h0 : x < 0
    · have hd : decide (x < 0) = true := by simp [h0]
      clear h hlt
      go_enter Try.func28, Try.ntmps28
      go_wp2
      go_ret
      exact ⟨_, rfl, HN.out⟩
    · have hd : decide (x < 0) = false := by simp; omega
      have hw : IntKind.u64.wrap x = x := by rw [IntKind.wrap_u64]; omega
      have hd2 : decide (x < (S.op : Int)) = true := by simp [hlt]
      clear h
      go_enter Try.func28, Try.ntmps28
      go_wp2
      go_ret
      exact ⟨_, rfl, HN.out⟩
  · have h0 : ¬ x < 0 := by omega
    have hd : decide (x < 0) = false := by simp; omega
    have hw : IntKind.u64.wrap x = x := by rw [IntKind.wrap_u64]; omega
    have hw2 : IntKind.u64.wrap (x + 1) = x + 1 := by rw [IntKind.wrap_u64]; omega
    have hd2 : decide (x < (S.op : Int)) = false := by simp; omega
    have c0 := h.blk.cell 0
    have f1 := h.blk.free 1
    have f0 := h.blk.free 0
    simp at c0
    have HA := hide h
    have hxn : (((x + 1).toNat : Nat) : Int) = x + 1 := by omega
    have HB := hide (show Bk (w.setCell ⟨g, 1, none⟩ (.int .u64 (x + 1))) g 66 #[.slice A S.L.length c, .int .u64 (((x + 1).toNat : Nat) : Int)] by rw [hxn]; exact h.blk.set 1 _)
    have HK := hide (show Keeps [g] w (w.setCell ⟨g, 1, none⟩ (.int .u64 (x + 1))) from (Keeps.refl _ _).setCell (.inl (by simp)) _)
    have HO := hide (show EO (w.setCell ⟨g, 1, none⟩ (.int .u64 (x + 1))) (.slice A S.L.length c) S.L from Own.keep h.own HK.out (fun b hb hm => h.ne (by simp at hm; subst hm; exact hb)))
    have hlen := h.ok.len
    have hcap := (Own.cap h.own).1
    have hcap2 := (Own.cap h.own).2
    have HM := hide (h.ok.srt.mono_t x)
    clear h hxn
    go_enter Try.func28, Try.ntmps28
    go_wp2_with fail
    clear c0 c1 f0 f1 hw hw2 hd hd2
    generalize w.setCell ⟨g, 1, none⟩ (.int .u64 (x + 1)) = w1 at HB HK HO ⊢
    refine (bst_any A c S.L x w1 (by omega) (Own.src HO.out) HM.out).mono ?_
    rintro r w2 ⟨rfl, k2⟩
    have HB2 := hide (HB.out.keep k2 (by simp))
    have HK2 := hide (HK.out.trans' k2.nil)
    have HO2 := hide (Own.keep HO.out k2 (by simp))
    have hul := upto_le S.L x
    have hK : cutN (fun z => decide (z.t ≤ x)) S.L = upto S.L x := rfl
    rw [hK]
    obtain ⟨k, hk⟩ : ∃ k, k = upto S.L x := ⟨_, rfl⟩
    rw [← hk] at hul ⊢
    have HKK := hide hk
    have d0 : w2.cell? ⟨g, 0, none⟩ = some (.slice A S.L.length c) := HB2.out.cell 0
    have z0 : (0 : Int) ≤ (k : Int) := by omega
    have z1 : (k : Int) ≤ (c : Int) := by omega
    have z2 : (k : Int) ≤ (S.L.length : Int) := by omega
    clear HB HK HO k2 hk hK
    go_wp2_with fail
    refine (clone_any A k c (S.L.take k) w2 (by rw [List.length_take]; omega) (ES.front (Own.src HO2.out) k hul) (by rw [List.length_take]; omega)).mono ?_
    rintro r w3 ⟨v3, rfl, e3, n3, k3⟩
    obtain ⟨A3, c3, rfl⟩ := Own.slice e3
    have HE3 := hide (And.intro e3 (And.intro n3 k3))
    have HO3 := hide (Own.keep HO2.out k3 (by simp))
    have HB3 := hide (HB2.out.keep k3 (by simp))
    have d0 : w3.cell? ⟨g, 0, none⟩ = some (.slice A S.L.length c) := HB3.out.cell 0
    clear e3 n3 k3
    by_cases hck : c = k
    · have HCL := hide (clone_any A (S.L.length - k) 0 (S.L.drop k) w3 (by rw [List.length_drop]) (by rw [show S.L.length - k = 0 by omega, show S.L.drop k = [] from List.drop_eq_nil_of_le (by omega)]; exact src_zero _ _ _ _) (by rw [List.length_drop]; omega))
      go_wp2_with fail
      refine HCL.out.mono ?_
      rintro r w4 ⟨v4, rfl, e4, n4, k4⟩
      obtain ⟨A4, c4, rfl⟩ := Own.slice e4
      have HB4 := hide (HB3.out.keep k4 (by simp))
      have HR := hide (settled_mk (by decide) HA.out (by omega) hx2 HB2.out HK2.out (by unfold EO; rw [← HKK.out, List.length_take, Nat.min_eq_left hul]; exact HE3.out.1) HE3.out.2.1 HE3.out.2.2 (by unfold EO; rw [← HKK.out, List.length_drop]; exact e4) n4 k4)
      have d0 : w4.cell? ⟨g, 0, none⟩ = some (.slice A S.L.length c) := HB4.out.cell 0
      have f0 : w4.frozen? ⟨g, 0, none⟩ = false := HB4.out.free 0
      clear e4 n4 k4 HCL HE3 HB2 HK2 HB3 HB4 HO2 HO3
      go_wp2
      go_ret
      exact ⟨_, rfl, HR.out⟩
    · rcases Own.addr HO3.out with ⟨_, _, h3⟩ | ⟨b, rfl⟩
      · omega
      have HCL := hide (clone_any (some ⟨b, k * 18, none⟩) (S.L.length - k) (c - k) (S.L.drop k) w3 (by rw [List.length_drop]) (by
        have h1 := ES.back (Own.src HO3.out) k
        rw [Addr.add_lit, Nat.zero_add] at h1
        exact h1) (by rw [List.length_drop]; omega))
      go_wp2_with fail
      refine HCL.out.mono ?_
      rintro r w4 ⟨v4, rfl, e4, n4, k4⟩
      obtain ⟨A4, c4, rfl⟩ := Own.slice e4
      have HB4 := hide (HB3.out.keep k4 (by simp))
      have HR := hide (settled_mk (by decide) HA.out (by omega) hx2 HB2.out HK2.out (by unfold EO; rw [← HKK.out, List.length_take, Nat.min_eq_left hul]; exact HE3.out.1) HE3.out.2.1 HE3.out.2.2 (by unfold EO; rw [← HKK.out, List.length_drop]; exact e4) n4 k4)
      have d0 : w4.cell? ⟨g, 0, none⟩ = some (.slice (some ⟨b, 0, none⟩) S.L.length c) := HB4.out.cell 0
      have f0 : w4.frozen? ⟨g, 0, none⟩ = false := HB4.out.free 0
      clear e4 n4 k4 HCL HE3 HB2 HK2 HB3 HB4 HO2 HO3
      go_wp2
      go_ret
      exact ⟨_, rfl, HR.out⟩
end Go.Proofs.Ytcfglfnncpcfoaa

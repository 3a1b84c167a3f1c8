/- Take, as plain data; what it leaves. -/
import Derived.Test.YtcfglfnncpcfoaaLog
import Derived.Test.YtcfglfnncpcfoaaBsf
import Derived.Test.YtcfglfnncpcfoaaEqv
namespace Go.Proofs.Ytcfglfnncpcfoaa
open Go.RowKit
def takeE (S : Lg) (e : Ev) : Int :=
  if e.t < S.op then 71 else if fnd S.L e (rank S.L e) = true then (if S.L[rank S.L e]? = some e then 22 else 30) else if 20000 ≤ S.L.length then 2 else 0
def takeS (S : Lg) (e : Ev) : Lg := if takeE S e = 0 then ⟨insL S.L (rank S.L e) e, S.op⟩ else S
theorem takeE_late {S : Lg} {e : Ev} (h : e.t < S.op) : takeE S e = 71 := if_pos h
theorem takeE_twice {S : Lg} {e : Ev} (h : ¬ e.t < S.op) (hf : fnd S.L e (rank S.L e) = true) (he : S.L[rank S.L e]? = some e) : takeE S e = 22 := by
  unfold takeE; rw [if_neg h, if_pos hf, if_pos he]
theorem takeE_old {S : Lg} {e : Ev} (h : ¬ e.t < S.op) (hf : fnd S.L e (rank S.L e) = true) (he : ¬ S.L[rank S.L e]? = some e) : takeE S e = 30 := by
  unfold takeE; rw [if_neg h, if_pos hf, if_neg he]
theorem takeE_many {S : Lg} {e : Ev} (h : ¬ e.t < S.op) (hf : fnd S.L e (rank S.L e) = false) (hl : 20000 ≤ S.L.length) : takeE S e = 2 := by
  unfold takeE; rw [if_neg h, if_neg (by simp [hf]), if_pos hl]
theorem takeE_ok {S : Lg} {e : Ev} (h : ¬ e.t < S.op) (hf : fnd S.L e (rank S.L e) = false) (hl : ¬ 20000 ≤ S.L.length) : takeE S e = 0 := by
  unfold takeE; rw [if_neg h, if_neg (by simp [hf]), if_neg hl]
theorem takeS_not {S : Lg} {e : Ev} (h : takeE S e ≠ 0) : takeS S e = S := if_neg h
theorem takeS_ok {S : Lg} {e : Ev} (h : takeE S e = 0) : takeS S e = ⟨insL S.L (rank S.L e) e, S.op⟩ := if_pos h
theorem rank_le (L : List Ev) (e : Ev) : rank L e ≤ L.length := cutN_le _ _
theorem rank_parts {L : List Ev} (h : Srt L) (e : Ev) : ∀ i, (hi : i < L.length) → (ltE L[i] e ↔ i < rank L e) := fun i hi => by
  have h1 := (cutN_parts _ _ (h.mono_lt e)).2 i hi
  simp only [decide_eq_true_eq] at h1
  exact h1
theorem behind {L : List Ev} (h : Srt L) (e : Ev) (hf : fnd L e (rank L e) = false) : ∀ i, (hi : i < L.length) → rank L e ≤ i → ltE e L[i] := fun i hi hk => by
  have hp := rank_parts h e
  have hk' : rank L e < L.length := by omega
  have h0 : ltE e L[rank L e] := by
    have h1 : ¬ ltE L[rank L e] e := fun hh => by have := (hp _ hk').1 hh; omega
    have h2 : ¬ eqE L[rank L e] e := fun hh => by
      rw [fnd_at L e _ hk', decide_eq_false_iff_not] at hf
      exact hf hh
    rcases ltE_tri L[rank L e] e with h3 | h3 | h3
    · exact absurd h3 h1
    · exact absurd h3 h2
    · exact h3
  by_cases he : rank L e = i
  · subst he; exact h0
  · exact h0.trans (h.at (by omega) hi hk')
theorem insL_srt {L : List Ev} (h : Srt L) (e : Ev) (hf : fnd L e (rank L e) = false) : Srt (insL L (rank L e) e) := by
  unfold Srt insL
  rw [List.pairwise_append]
  refine ⟨List.Pairwise.sublist (List.take_sublist _ _) h, ?_, ?_⟩
  · rw [List.pairwise_cons]
    refine ⟨fun a ha => ?_, List.Pairwise.sublist (List.drop_sublist _ _) h⟩
    obtain ⟨i, hi, rfl⟩ := List.getElem_of_mem ha
    rw [List.length_drop] at hi
    rw [List.getElem_drop]
    exact behind h e hf _ (by omega) (by omega)
  · intro a ha b hb
    obtain ⟨i, hi, rfl⟩ := List.getElem_of_mem ha
    rw [List.length_take] at hi
    rw [List.getElem_take]
    have h1 : ltE L[i] e := (rank_parts h e i (by omega)).2 (by omega)
    rw [List.mem_cons] at hb
    rcases hb with rfl | hb
    · exact h1
    · obtain ⟨j, hj, rfl⟩ := List.getElem_of_mem hb
      rw [List.length_drop] at hj
      rw [List.getElem_drop]
      exact h1.trans (behind h e hf _ (by omega) (by omega))
theorem take_ok {S : Lg} (h : S.ok) (e : Ev) : (takeS S e).ok := by
  by_cases h0 : takeE S e = 0
  · rw [takeS_ok h0]
    have h1 : ¬ e.t < S.op := fun hh => by rw [takeE_late hh] at h0; omega
    have h2 : fnd S.L e (rank S.L e) = false := by
      cases hf : fnd S.L e (rank S.L e) with
      | false => rfl
      | true =>
        unfold takeE at h0
        rw [if_neg h1, if_pos hf] at h0
        split at h0 <;> omega
    have h3 : ¬ 20000 ≤ S.L.length := fun hh => by rw [takeE_many h1 h2 hh] at h0; omega
    refine ⟨insL_srt h.srt e h2, ?_, h.op, fun x hx => ?_⟩
    · show (insL S.L (rank S.L e) e).length ≤ _
      rw [insL_length _ _ _ (rank_le _ _)]; omega
    · show (S.op : Int) ≤ x.t
      have hx' : x ∈ insL S.L (rank S.L e) e := hx
      unfold insL at hx'
      rw [List.mem_append, List.mem_cons] at hx'
      rcases hx' with hx' | rfl | hx'
      · exact h.low x (List.mem_of_mem_take hx')
      · omega
      · exact h.low x (List.mem_of_mem_drop hx')
  · rw [takeS_not h0]; exact h
/-- What a Take leaves. -/
def Took (T : TypeId) (w : World) (g : Nat) (F : List Nat) (S : Lg) (e : Ev) (w' : World) : Prop := ∃ F', IsLg T w' g F' (takeS S e) ∧ Adds w F F' ∧ Keeps F w w'
theorem took_none {T : TypeId} {w w' : World} {g : Nat} {F : List Nat} {S : Lg} {e : Ev} (h : IsLg T w g F S) (k : Keeps [] w w') (h0 : takeE S e ≠ 0) : Took T w g F S e w' :=
  ⟨F, by rw [takeS_not h0]; exact h.keep0 k, Adds.refl _ _, k.nil⟩
theorem took_mk {T : TypeId} {w wd w5 : World} {g : Nat} {F : List Nat} {S : Lg} {e : Ev} {v0 v : Value} (hT : (27 : Nat) ≠ T) (h : LgAt T w g F S v0) (kd : Keeps [] w wd) (h0 : takeE S e = 0)
    (ho : Own w5 27 18 v (S.L.length + 1) (ecs (insL S.L (rank S.L e) e))) (hb : v.ownBlock = v0.ownBlock ∨ ∃ b, v.ownBlock = some b ∧ w.heap.size ≤ b) (k5 : Keeps v0.ownBlock.toList wd w5) :
    Took T w g F S e (w5.setCell ⟨g, 0, none⟩ v) := by
  have hb5 : Bk w5 g T #[v0, .int .u64 (S.op : Int)] := (h.blk.keep kd (by simp)).keep k5 (fun hm => h.ne (by simpa using hm))
  have q : v.ownBlock ≠ some g := Own.bk_ne ho hb5 hT
  have ks : Keeps [g] w5 (w5.setCell ⟨g, 0, none⟩ v) := (Keeps.refl _ _).setCell (.inl (by simp)) _
  have hl : S.L.length + 1 = (insL S.L (rank S.L e) e).length := (insL_length _ _ _ (rank_le _ _)).symm
  rw [hl] at ho
  refine ⟨F ++ v.ownBlock.toList, ⟨v, ?_⟩, fun i hi => ?_, ?_⟩
  · rw [takeS_ok h0]
    refine ⟨hb5.set 0 v, Own.keep ho ks (fun b hb hm => q (by simp at hm; subst hm; exact hb)), by simp [h.gin], fun b hb => by simp [hb], q, fun i hi => ?_, ?_⟩
    · rw [List.mem_append] at hi
      rcases hi with hi | hi
      · have h1 := h.all i hi
        have h2 := kd.size
        have h3 := k5.size
        have h4 := ks.size
        omega
      · simp at hi
        have := Own.lt ho i hi
        have h4 := ks.size
        omega
    · have := take_ok h.ok e
      rw [takeS_ok h0] at this
      exact this
  · rw [List.mem_append] at hi
    rcases hi with hi | hi
    · exact .inl hi
    · simp at hi
      rcases hb with hb | ⟨b, hb, hb2⟩
      · exact .inl (h.vin i (by rw [← hb]; exact hi))
      · rw [hb] at hi
        injection hi with hi
        subst hi
        exact .inr hb2
  · refine ((kd.nil).trans k5 (fun i hi => .inl (h.vin i (by simpa using hi)))).trans ks (fun i hi => .inl (by simp at hi; subst hi; exact h.gin))
/-- Laws for steps of a drawn region. -/
theorem step_load_cell {ops : Array Oper} {o : Oper} {a : Act} {w : World} {K : Act → World → Prop} {Q : Exit → Act → World → Prop} {E : Prop} {v : Value} (t : TypeId) (p : Operand) (b f : Nat) (ho : o.op = .load t p) (hagg : ∀ w, (isAgg t).run Try.prog w = .ok false w) (hw : Region.wanted o (yielded ops a.tmps) = true) (hx : a.eval p = .pointer (some ⟨b, f, none⟩)) (h : w.cell? ⟨b, f, none⟩ = some v)
    (hk : K (a.put o.dst v) w) : if Region.wanted o (yielded ops a.tmps) = true then Oper.wp Try.prog o a w K Q else E := by
  rw [if_pos hw]
  unfold Oper.wp execOp
  simp [ho, hx, Instr.loadAt, Instr.sureAddr, loadVar, hagg, h]
  exact hk
theorem step_load_ev {ops : Array Oper} {o : Oper} {a : Act} {w : World} {K : Act → World → Prop} {Q : Exit → Act → World → Prop} {E : Prop} (p : Operand) (b f : Nat) (e : Ev) (ho : o.op = .load 27 p) (hw : Region.wanted o (yielded ops a.tmps) = true) (hx : a.eval p = .pointer (some ⟨b, f, none⟩)) (h : EvAt w b f e)
    (hk : K (a.put o.dst (ev e)) w) : if Region.wanted o (yielded ops a.tmps) = true then Oper.wp Try.prog o a w K Q else E := by
  rw [if_pos hw]
  exact wp_load_ev ho hx h hk
end Go.Proofs.Ytcfglfnncpcfoaa

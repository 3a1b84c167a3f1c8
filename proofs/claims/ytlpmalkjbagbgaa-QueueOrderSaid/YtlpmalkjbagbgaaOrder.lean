/- The order of holds, as plain data: a queue is in order, and does not depend on the order in which its holds were put. -/
import Derived.Test.YtlpmalkjbagbgaaQueue
namespace Go.Proofs.Ytlpmalkjbagbgaa
theorem befL_irrefl : ∀ s : List Int, befL s s = false
  | [] => rfl
  | x :: s => by simp [befL, befL_irrefl s]
theorem befL_trans : ∀ {s t u : List Int}, befL s t = true → befL t u = true → befL s u = true
  | [], _, _, h, _ => by simp [befL] at h
  | _ :: _, [], _, h, _ => by simp [befL] at h
  | _ :: _, _ :: _, [], _, h => by simp [befL] at h
  | x :: s, y :: t, z :: u, h, h' => by
    unfold befL at h h' ⊢
    by_cases e1 : x = y
    · subst e1
      rw [if_pos rfl] at h
      by_cases e2 : x = z
      · subst e2
        rw [if_pos rfl] at h' ⊢
        exact befL_trans h h'
      · rw [if_neg e2] at h' ⊢
        exact h'
    · rw [if_neg e1] at h
      by_cases e2 : y = z
      · subst e2
        rw [if_neg e1]
        exact h
      · rw [if_neg e2] at h'
        simp at h h'
        rw [if_neg (by omega)]
        simp; omega
theorem befL_total : ∀ {s t : List Int}, s.length = t.length → s ≠ t → befL s t = false → befL t s = true
  | [], [], _, h, _ => absurd rfl h
  | [], _ :: _, h, _, _ => by simp at h
  | _ :: _, [], h, _, _ => by simp at h
  | x :: s, y :: t, hl, hne, h => by
    unfold befL at h ⊢
    by_cases e : x = y
    · subst e
      rw [if_pos rfl] at h ⊢
      exact befL_total (by simpa using hl) (fun e => hne (by rw [e])) h
    · rw [if_neg e] at h
      rw [if_neg (Ne.symm e)]
      simp at h ⊢
      omega
theorem bef_trans {a b c : Hold} (h : beforeB a b = true) (h' : beforeB b c = true) : beforeB a c = true := by
  rw [befL_eq] at h h' ⊢
  exact befL_trans h h'
theorem bef_irrefl (a : Hold) : beforeB a a = false := by rw [befL_eq]; exact befL_irrefl _
theorem bef_asymm {a b : Hold} (h : beforeB a b = true) (h' : beforeB b a = true) : False := by
  have := bef_trans h h'
  rw [bef_irrefl] at this
  cases this
theorem bef_total {a b : Hold} (hne : a.id ≠ b.id) (h : beforeB a b = false) : beforeB b a = true := by
  rw [befL_eq] at h ⊢
  exact befL_total rfl (fun e => hne (by simp [hkey] at e; exact e.2.2.2)) h
/-- A list that is in order. -/
def Ord (L : List Hold) : Prop := L.Pairwise fun a b => beforeB a b = true
theorem ins_perm (h : Hold) : ∀ L : List Hold, (ins h L).Perm (h :: L)
  | [] => List.Perm.refl _
  | a :: t => by
    unfold ins
    split
    · exact List.Perm.refl _
    · exact ((ins_perm h t).cons a).trans (List.Perm.swap h a t)
theorem ins_ord (h : Hold) : ∀ {L : List Hold}, Ord L → (∀ x ∈ L, x.id ≠ h.id) → Ord (ins h L)
  | [], _, _ => by simp [ins, Ord]
  | a :: t, ho, hd => by
    unfold Ord at ho
    rw [List.pairwise_cons] at ho
    unfold ins
    split
    · rename_i hb
      refine List.pairwise_cons.2 ⟨fun x hx => ?_, List.pairwise_cons.2 ho⟩
      rcases List.mem_cons.1 hx with rfl | hx
      · exact hb
      · exact bef_trans hb (ho.1 x hx)
    · rename_i hb
      refine List.pairwise_cons.2 ⟨fun x hx => ?_, ins_ord h ho.2 (fun x hx => hd x (by simp [hx]))⟩
      rcases List.mem_cons.1 ((ins_perm h t).subset hx) with rfl | hx
      · exact bef_total (fun e => hd a (by simp) e.symm) (by simpa using hb)
      · exact ho.1 x hx
theorem ord_eq {L M : List Hold} (hL : Ord L) (hM : Ord M) (hp : L.Perm M) : L = M :=
  List.Perm.eq_of_pairwise (le := fun a b => beforeB a b = true) (fun _ _ _ _ h h' => (bef_asymm h h').elim) hL hM hp
/-- What a queue is: in order, its numbers different, its holds permitted. -/
structure IsQ (L : List Hold) : Prop where
  ord : Ord L
  ids : L.Pairwise fun a b => a.id ≠ b.id
  ok : ∀ x ∈ L, ¬ (x.id < 1 ∨ x.item < 0)
theorem any_id {L : List Hold} {i : Int} : L.any (fun x => decide (x.id = i)) = false ↔ ∀ x ∈ L, x.id ≠ i := by
  simp [List.any_eq_false]
theorem IsQ.ins {L : List Hold} (q : IsQ L) {h : Hold} (hok : ¬ (h.id < 1 ∨ h.item < 0)) (hn : ∀ x ∈ L, x.id ≠ h.id) : IsQ (ins h L) :=
  ⟨ins_ord h q.ord hn, (ins_perm h L).symm.pairwise (List.pairwise_cons.2 ⟨fun x hx e => hn x hx e.symm, q.ids⟩) (fun e => Ne.symm e), fun x hx => by
    rcases List.mem_cons.1 ((ins_perm h L).subset hx) with rfl | hx
    · exact hok
    · exact q.ok x hx⟩
theorem IsQ.putS {L : List Hold} (q : IsQ L) (h : Hold) : IsQ (putS L h) := by
  unfold Ytlpmalkjbagbgaa.putS putE putL
  by_cases hb : h.id < 1 ∨ h.item < 0
  · simp [hb]; exact q
  · cases ha : L.any (fun x => decide (x.id = h.id)) with
    | true => simp [hb]; exact q
    | false =>
      simp only [hb, if_false, Bool.false_eq_true, if_true]
      exact q.ins hb (any_id.1 ha)
theorem IsQ.nil : IsQ [] := ⟨List.Pairwise.nil, List.Pairwise.nil, fun _ h => by cases h⟩
theorem isQ_fold : ∀ (l : List Hold) {L : List Hold}, IsQ L → IsQ (l.foldl putS L)
  | [], _, q => q
  | a :: t, _, q => isQ_fold t (q.putS a)
theorem isQ_que (l : List Hold) : IsQ (que l) := isQ_fold _ IsQ.nil
/-- Holds that are permitted and have different numbers are all put. -/
theorem fold_perm : ∀ (l : List Hold) (L : List Hold), (∀ x ∈ l, ¬ (x.id < 1 ∨ x.item < 0)) → (L ++ l).Pairwise (fun a b => a.id ≠ b.id) → (l.foldl putS L).Perm (L ++ l)
  | [], L, _, _ => by simp
  | a :: t, L, hok, hd => by
    have ha := hok a (by simp)
    have hn : ∀ x ∈ L, x.id ≠ a.id := fun x hx => (List.pairwise_append.1 hd).2.2 x hx a (by simp)
    have e : putS L a = ins a L := by
      unfold putS putE putL
      simp only [ha, if_false, any_id.2 hn, Bool.false_eq_true, if_true]
    rw [List.foldl_cons, e]
    have hp : (ins a L ++ t).Perm (L ++ a :: t) := ((ins_perm a L).append_right t).trans (by simpa using (List.perm_middle (a := a) (l₁ := L) (l₂ := t)).symm)
    exact (fold_perm t (ins a L) (fun x hx => hok x (by simp [hx])) (hp.symm.pairwise hd (fun e => Ne.symm e))).trans hp
theorem que_perm {l : List Hold} (hl : l.length ≤ 30) (hok : ∀ x ∈ l, ¬ (x.id < 1 ∨ x.item < 0)) (hd : l.Pairwise fun a b => a.id ≠ b.id) : (que l).Perm l := by
  unfold que
  rw [List.take_of_length_le hl]
  simpa using fold_perm l [] hok (by simpa using hd)
theorem que_same {l m : List Hold} (hl : l.length ≤ 30) (hok : ∀ x ∈ l, ¬ (x.id < 1 ∨ x.item < 0)) (hd : l.Pairwise fun a b => a.id ≠ b.id) (hp : m.Perm l) : que m = que l :=
  ord_eq (isQ_que m).ord (isQ_que l).ord (((que_perm (by rw [hp.length_eq]; exact hl) (fun x hx => hok x (hp.subset hx)) (hp.symm.pairwise hd (fun e => Ne.symm e))).trans hp).trans (que_perm hl hok hd).symm)
theorem ord_next {L : List Hold} (ho : Ord L) {k : Nat} (hk : k + 1 < L.length) : beforeB (L[k]'(by omega)) L[k + 1] = true :=
  List.pairwise_iff_getElem.1 ho k (k + 1) (by omega) hk (by omega)
/-- A hold taken out of a queue and put again has its old place. -/
theorem back_perm : ∀ {L : List Hold} {k : Nat} (hk : k < L.length), L.Pairwise (fun a b => a.id ≠ b.id) → (L[k] :: L.filter (fun x => decide (x.id ≠ L[k].id))).Perm L
  | a :: t, 0, _, hd => by
    rw [List.pairwise_cons] at hd
    simp only [List.getElem_cons_zero, List.filter_cons]
    have : t.filter (fun x => decide (x.id ≠ a.id)) = t := List.filter_eq_self.2 fun x hx => by simpa using fun e => hd.1 x hx e.symm
    rw [if_neg (by simp), this]
  | a :: t, k + 1, hk, hd => by
    rw [List.pairwise_cons] at hd
    have hkt : k < t.length := by simpa using hk
    have hne : a.id ≠ t[k].id := hd.1 _ (List.getElem_mem _)
    simp only [List.getElem_cons_succ, List.filter_cons]
    simp only [hne, ne_eq, not_false_eq_true, decide_true, if_true]
    exact (List.Perm.swap a t[k] _).trans ((back_perm hkt hd.2).cons a)
theorem IsQ.filter {L : List Hold} (q : IsQ L) (p : Hold → Bool) : IsQ (L.filter p) := ⟨q.ord.filter p, q.ids.filter p, fun x hx => q.ok x (List.mem_filter.1 hx).1⟩
theorem filter_not (L : List Hold) (i : Int) : (L.filter fun x => decide (x.id ≠ i)).any (fun x => decide (x.id = i)) = false := by
  rw [any_id]
  intro x hx
  simpa using (List.mem_filter.1 hx).2
theorem back_put {L : List Hold} (q : IsQ L) {k : Nat} (hk : k < L.length) : putE (L.filter fun x => decide (x.id ≠ L[k].id)) L[k] = 0 ∧ putL (L.filter fun x => decide (x.id ≠ L[k].id)) L[k] = L := by
  have hok := q.ok L[k] (List.getElem_mem _)
  have hany := filter_not L L[k].id
  have hq := q.filter (fun x => decide (x.id ≠ L[k].id))
  refine ⟨by unfold putE; simp only [hok, if_false, hany, Bool.false_eq_true], ?_⟩
  unfold putL
  simp only [hok, if_false, hany, Bool.false_eq_true]
  exact ord_eq (hq.ins hok (any_id.1 hany)).ord q.ord ((ins_perm _ _).trans (back_perm hk q.ids))
theorem back_length {L : List Hold} (q : IsQ L) {k : Nat} (hk : k < L.length) : (L.filter fun x => decide (x.id ≠ L[k].id)).length + 1 = L.length := by
  have := (back_perm hk q.ids).length_eq
  simpa using this
theorem any_at {L : List Hold} {k : Nat} (hk : k < L.length) : L.any (fun x => decide (x.id = L[k].id)) = true := by
  rw [List.any_eq_true]
  exact ⟨L[k], List.getElem_mem _, by simp⟩
end Go.Proofs.Ytlpmalkjbagbgaa

/- Parcels, their order, a heap of them, and the sorted list that the heap stands for: plain Lean, no program. No condition. -/
import Derived.WalkKit
namespace Go.Proofs.Ytefjoiinoaofcaa

/-- A copy of a message that waits. -/
structure Par where
  fr : Int
  to : Int
  num : Int
  tx : ByteArray
  time : Int
  sent : Int

def Par.none : Par := ⟨0, 0, 0, ⟨#[]⟩, 0, 0⟩
/-- Comes before. -/
def Par.lt (a b : Par) : Prop := a.time < b.time ∨ a.time = b.time ∧ a.sent < b.sent
def lessB (a b : Par) : Bool := decide (a.time < b.time ∨ a.time = b.time ∧ a.sent < b.sent)
theorem lessB_iff (a b : Par) : lessB a b = true ↔ a.lt b := by simp [lessB, Par.lt]
theorem lessB_not (a b : Par) : lessB a b = false ↔ ¬ a.lt b := by simp [lessB, Par.lt]

def at_ (L : List Par) (i : Nat) : Par := L.getD i Par.none
def sw (L : List Par) (i j : Nat) : List Par := (L.set i (at_ L j)).set j (at_ L i)
theorem sw_length (L : List Par) (i j : Nat) : (sw L i j).length = L.length := by simp [sw]
theorem at_sw (L : List Par) (i j k : Nat) (hi : i < L.length) (hj : j < L.length) : at_ (sw L i j) k = if k = j then at_ L i else if k = i then at_ L j else at_ L k := by
  unfold at_ sw
  simp only [List.getD_eq_getElem?_getD, List.getElem?_set, List.length_set]
  by_cases h1 : j = k
  · subst h1; simp [hj, at_, List.getD_eq_getElem?_getD]
  · rw [if_neg h1, if_neg (Ne.symm h1)]
    by_cases h2 : i = k
    · subst h2; simp [hi, at_, List.getD_eq_getElem?_getD]
    · rw [if_neg h2, if_neg (Ne.symm h2)]
theorem at_eq (L : List Par) (i : Nat) (h : i < L.length) : at_ L i = L[i] := by simp [at_, h]
theorem sw_self (L : List Par) (i : Nat) (h : i < L.length) : sw L i i = L := by
  apply List.ext_getElem
  · simp [sw]
  · intro n h1 h2
    rw [← at_eq _ _ h1, ← at_eq _ _ h2, at_sw L i i n h h]
    split
    · rename_i e; rw [e]
    · rfl
theorem set_eq_at {α : Type} : ∀ (l : List α) (i : Nat) (x : α), i < l.length → (l.set i x).Perm (x :: l.eraseIdx i)
  | a :: l, 0, x, _ => by simp
  | a :: l, i + 1, x, h => by
    simp only [List.set_cons_succ, List.eraseIdx_cons_succ]
    have := set_eq_at l i x (by simpa using h)
    exact (List.Perm.cons a this).trans (List.Perm.swap x a _)
theorem perm_eraseIdx {α : Type} : ∀ (l : List α) (i : Nat) (h : i < l.length), l.Perm (l[i] :: l.eraseIdx i)
  | a :: l, 0, _ => by simp
  | a :: l, i + 1, h => by
    simp only [List.eraseIdx_cons_succ, List.getElem_cons_succ]
    have := perm_eraseIdx l i (by simpa using h)
    exact (List.Perm.cons a this).trans (List.Perm.swap _ a _)
theorem sw_perm (L : List Par) (i j : Nat) (hi : i < L.length) (hj : j < L.length) : (sw L i j).Perm L := by
  by_cases e : i = j
  · subst e; rw [sw_self L i hi]
  · unfold sw
    have hs : (L.set i (at_ L j))[j]'(by simpa using hj) = L[j] := by rw [List.getElem_set_ne e]
    have h1 := perm_eraseIdx (L.set i (at_ L j)) j (by simpa using hj)
    have h2 := set_eq_at (L.set i (at_ L j)) j (at_ L i) (by simpa using hj)
    have h3 := set_eq_at L i (at_ L j) hi
    have h4 := perm_eraseIdx L i hi
    rw [hs] at h1
    rw [← at_eq L i hi] at h4
    rw [← at_eq L j hj] at h1
    have h5 : (at_ L j :: (L.set i (at_ L j)).eraseIdx j).Perm (at_ L j :: L.eraseIdx i) := h1.symm.trans h3
    have h6 : ((L.set i (at_ L j)).eraseIdx j).Perm (L.eraseIdx i) := (List.perm_cons _).1 h5
    exact h2.trans ((List.Perm.cons _ h6).trans h4.symm)

/-- Heap order of the first n. -/
def Heap (L : List Par) (n : Nat) : Prop := ∀ k, 0 < k → k < n → ¬ (at_ L k).lt (at_ L ((k - 1) / 2))
/-- Heap order but at j, which may be too small. -/
def UpInv (L : List Par) (n j : Nat) : Prop :=
  (∀ k, 0 < k → k < n → k ≠ j → ¬ (at_ L k).lt (at_ L ((k - 1) / 2))) ∧ (∀ k, 0 < k → k < n → (k - 1) / 2 = j → 0 < j → ¬ (at_ L k).lt (at_ L ((j - 1) / 2)))
theorem up_step {L : List Par} {n i j : Nat} (hi : i = (j - 1) / 2) (hj0 : 0 < j) (hj : j < n) (hn : n ≤ L.length) (h : UpInv L n j) (hl : (at_ L j).lt (at_ L i)) : UpInv (sw L i j) n i := by
  subst hi
  have hij : (j - 1) / 2 < j := by omega
  refine ⟨fun k k0 kn ki => ?_, fun k k0 kn kp i0 => ?_⟩
  · rw [at_sw L _ _ _ (by omega) (by omega), at_sw L _ _ _ (by omega) (by omega)]
    by_cases e1 : k = j
    · subst e1
      rw [if_pos rfl, if_neg (by omega), if_pos rfl]
      unfold Par.lt at *; omega
    · rw [if_neg e1, if_neg ki]
      by_cases e2 : (k - 1) / 2 = j
      · rw [if_pos e2]
        exact h.2 k k0 kn e2 hj0
      · rw [if_neg e2]
        have hk := h.1 k k0 kn e1
        by_cases e3 : (k - 1) / 2 = (j - 1) / 2
        · rw [if_pos e3]
          rw [e3] at hk
          unfold Par.lt at *; omega
        · rw [if_neg e3]; exact hk
  · rw [at_sw L _ _ _ (by omega) (by omega), at_sw L _ _ _ (by omega) (by omega)]
    have hii := h.1 ((j - 1) / 2) i0 (by omega) (by omega)
    rw [if_neg (c := ((j - 1) / 2 - 1) / 2 = j) (by omega), if_neg (c := ((j - 1) / 2 - 1) / 2 = (j - 1) / 2) (by omega)]
    by_cases e1 : k = j
    · rw [if_pos e1]; exact hii
    · rw [if_neg e1, if_neg (by omega)]
      have hk := h.1 k k0 kn e1
      rw [kp] at hk
      unfold Par.lt at *; omega
theorem up_done {L : List Par} {n j : Nat} (h : UpInv L n j) (hd : j = 0 ∨ ¬ (at_ L j).lt (at_ L ((j - 1) / 2))) : Heap L n := by
  intro k k0 kn
  by_cases e : k = j
  · subst e
    rcases hd with h0 | h0
    · omega
    · exact h0
  · exact h.1 k k0 kn e
/-- Heap order but at i, which may be too great. -/
def DownInv (L : List Par) (n i : Nat) : Prop :=
  (∀ k, 0 < k → k < n → (k - 1) / 2 ≠ i → ¬ (at_ L k).lt (at_ L ((k - 1) / 2))) ∧ (∀ k, 0 < k → k < n → (k - 1) / 2 = i → 0 < i → ¬ (at_ L k).lt (at_ L ((i - 1) / 2)))
theorem down_step {L : List Par} {n i j : Nat} (hji : (j - 1) / 2 = i) (hj0 : 0 < j) (hj : j < n) (hn : n ≤ L.length) (h : DownInv L n i) (hl : (at_ L j).lt (at_ L i))
    (hm : ∀ c, 0 < c → c < n → (c - 1) / 2 = i → ¬ (at_ L c).lt (at_ L j)) : DownInv (sw L i j) n j := by
  subst hji
  have hij : (j - 1) / 2 < j := by omega
  refine ⟨fun k k0 kn ki => ?_, fun k k0 kn kp i0 => ?_⟩
  · rw [at_sw L _ _ _ (by omega) (by omega), at_sw L _ _ _ (by omega) (by omega)]
    rw [if_neg ki]
    by_cases e1 : k = j
    · subst e1
      rw [if_pos rfl, if_pos rfl]
      unfold Par.lt at *; omega
    · rw [if_neg e1]
      by_cases e2 : k = (j - 1) / 2
      · rw [if_pos e2, if_neg (by omega)]
        have := h.2 j hj0 hj rfl (by omega)
        rw [e2]; exact this
      · rw [if_neg e2]
        by_cases e3 : (k - 1) / 2 = (j - 1) / 2
        · rw [if_pos e3]; exact hm k k0 kn e3
        · rw [if_neg e3]; exact h.1 k k0 kn e3
  · rw [at_sw L _ _ _ (by omega) (by omega), at_sw L _ _ _ (by omega) (by omega)]
    rw [if_neg (by omega), if_neg (by omega), if_neg (by omega), if_pos rfl]
    have := h.1 k k0 kn (by omega)
    rw [kp] at this
    exact this
theorem down_done {L : List Par} {n i : Nat} (h : DownInv L n i) (hd : ∀ c, 0 < c → c < n → (c - 1) / 2 = i → ¬ (at_ L c).lt (at_ L i)) : Heap L n := by
  intro k k0 kn
  by_cases e : (k - 1) / 2 = i
  · rw [e]; exact hd k k0 kn e
  · exact h.1 k k0 kn e
theorem heap_least {L : List Par} {n : Nat} (h : Heap L n) : ∀ k, k < n → ¬ (at_ L k).lt (at_ L 0) := by
  intro k
  induction k using Nat.strongRecOn with
  | ind k ih =>
    intro kn
    by_cases e : k = 0
    · subst e; unfold Par.lt; omega
    · have h1 := h k (by omega) kn
      have h2 := ih ((k - 1) / 2) (by omega) (by omega)
      unfold Par.lt at *; omega

/-- A parcel goes to its place in a sorted list. -/
def ins (p : Par) : List Par → List Par
  | [] => [p]
  | q :: l => if lessB p q then p :: q :: l else q :: ins p l
theorem ins_perm (p : Par) : ∀ l, (ins p l).Perm (p :: l)
  | [] => by simp [ins]
  | q :: l => by
    unfold ins
    split
    · exact List.Perm.refl _
    · exact (List.Perm.cons q (ins_perm p l)).trans (List.Perm.swap p q l)
theorem ins_length (p : Par) (l : List Par) : (ins p l).length = l.length + 1 := by simpa using (ins_perm p l).length_eq
theorem mem_ins {p q : Par} {l : List Par} : q ∈ ins p l ↔ q = p ∨ q ∈ l := by rw [(ins_perm p l).mem_iff]; simp
/-- Sorted, no two alike. -/
def Sorted (S : List Par) : Prop := S.Pairwise Par.lt
def New (p : Par) (S : List Par) : Prop := ∀ q ∈ S, q.time ≠ p.time ∨ q.sent ≠ p.sent
theorem ins_sorted {p : Par} : ∀ {S : List Par}, Sorted S → New p S → Sorted (ins p S)
  | [], _, _ => by simp [ins, Sorted]
  | q :: l, h, hn => by
    have h' := List.pairwise_cons.1 h
    unfold ins
    split
    · rename_i hl
      rw [lessB_iff] at hl
      refine List.pairwise_cons.2 ⟨fun r hr => ?_, h⟩
      rw [List.mem_cons] at hr
      rcases hr with rfl | hr
      · exact hl
      · have := h'.1 r hr
        unfold Par.lt at *; omega
    · rename_i hl
      have hl' : ¬ p.lt q := by rw [← lessB_iff]; exact hl
      refine List.pairwise_cons.2 ⟨fun r hr => ?_, ins_sorted h'.2 (fun r hr => hn r (by simp [hr]))⟩
      rw [mem_ins] at hr
      rcases hr with rfl | hr
      · have := hn q (by simp)
        unfold Par.lt at *; omega
      · exact h'.1 r hr

/-- L is a heap of what the sorted list S holds. -/
structure Bag (L S : List Par) : Prop where
  perm : L.Perm S
  heap : Heap L L.length
  sorted : Sorted S
theorem Bag.nil : Bag [] [] := ⟨List.Perm.refl _, fun k _ h => by simp at h, List.Pairwise.nil⟩
theorem Bag.length {L S : List Par} (h : Bag L S) : L.length = S.length := h.perm.length_eq
theorem least_head {L : List Par} {p : Par} {S : List Par} (hp : L.Perm (p :: S)) (hs : Sorted (p :: S)) (q : Par) (hq : q ∈ L) (hl : ∀ r ∈ L, ¬ r.lt q) : q = p := by
  have h1 := hp.mem_iff.1 hq
  rw [List.mem_cons] at h1
  rcases h1 with h1 | h1
  · exact h1
  · have h2 := (List.pairwise_cons.1 hs).1 q h1
    exact absurd h2 (hl p (hp.mem_iff.2 (by simp)))
theorem Bag.first {L : List Par} {p : Par} {S : List Par} (h : Bag L (p :: S)) : at_ L 0 = p := by
  have hlen : 0 < L.length := by have := h.length; simp at this; omega
  refine least_head h.perm h.sorted _ (by rw [at_eq L 0 hlen]; exact List.getElem_mem _) fun r hr => ?_
  obtain ⟨k, hk, rfl⟩ := List.getElem_of_mem hr
  rw [← at_eq L k hk]
  exact heap_least h.heap k hk
/-- A push: the new one goes behind, then up. -/
theorem Bag.push_start {L S : List Par} (h : Bag L S) (p : Par) : UpInv (L ++ [p]) (L.length + 1) L.length := by
  have e : ∀ k, k < L.length → at_ (L ++ [p]) k = at_ L k := fun k hk => by simp [at_, List.getD_eq_getElem?_getD, List.getElem?_append_left hk]
  refine ⟨fun k k0 kn kj => ?_, fun k k0 kn kp j0 => by omega⟩
  rw [e k (by omega), e ((k - 1) / 2) (by omega)]
  exact h.heap k k0 (by omega)
theorem Bag.push_end {L S L' : List Par} (h : Bag L S) (p : Par) (hn : New p S) (hp : L'.Perm (L ++ [p])) (hh : Heap L' (L.length + 1)) : Bag L' (ins p S) := by
  refine ⟨hp.trans ?_, ?_, ins_sorted h.sorted hn⟩
  · exact (List.perm_append_comm.trans (List.Perm.cons p h.perm)).trans (ins_perm p S).symm
  · have : L'.length = L.length + 1 := by simpa using hp.length_eq
    rw [this]; exact hh
/-- A pop: first and last change places; then down. -/
theorem Bag.pop_start {L : List Par} {p : Par} {S : List Par} (h : Bag L (p :: S)) : DownInv (sw L 0 S.length) S.length 0 := by
  have hlen : L.length = S.length + 1 := by simpa using h.length
  refine ⟨fun k k0 kn kp => ?_, fun k k0 kn kp i0 => by omega⟩
  rw [at_sw L _ _ _ (by omega) (by omega), at_sw L _ _ _ (by omega) (by omega)]
  rw [if_neg (by omega), if_neg (by omega), if_neg (by omega), if_neg (by omega)]
  exact h.heap k k0 (by omega)
theorem take_last (L : List Par) (n : Nat) (h : L.length = n + 1) : L = L.take n ++ [at_ L n] := by
  rw [at_eq L n (by omega)]
  apply List.ext_getElem
  · simp; omega
  · intro i h1 h2
    rw [List.getElem_append]
    split
    · simp
    · rename_i h3
      simp at h3
      have : i = n := by simp at h2; omega
      subst this
      simp
theorem at_take (L : List Par) (n k : Nat) (h : k < n) : at_ (L.take n) k = at_ L k := by
  unfold at_
  simp [List.getD_eq_getElem?_getD, h]
theorem Bag.pop_end {L L' : List Par} {p : Par} {S : List Par} (h : Bag L (p :: S)) (hp : L'.Perm (sw L 0 S.length)) (hl : at_ L' S.length = at_ (sw L 0 S.length) S.length) (hh : Heap L' S.length) :
    at_ L' S.length = p ∧ Bag (L'.take S.length) S := by
  have hlen : L.length = S.length + 1 := by simpa using h.length
  have h1 : at_ (sw L 0 S.length) S.length = p := by
    rw [at_sw L _ _ _ (by omega) (by omega), if_pos rfl]; exact h.first
  rw [h1] at hl
  refine ⟨hl, ?_, ?_, (List.pairwise_cons.1 h.sorted).2⟩
  · have h2 : L'.Perm (p :: S) := hp.trans ((sw_perm L _ _ (by omega) (by omega)).trans h.perm)
    have h3 : L'.length = S.length + 1 := by simpa using h2.length_eq
    have h4 := take_last L' S.length h3
    rw [hl] at h4
    rw [h4] at h2
    exact (List.perm_cons p).1 ((List.perm_append_comm (l₁ := [p])).trans h2)
  · have h3 : L'.length = S.length + 1 := by simpa [sw_length, hlen] using hp.length_eq
    intro k k0 kn
    have kn' : k < S.length := by simp at kn; omega
    rw [at_take _ _ _ kn', at_take _ _ _ (by omega)]
    exact hh k k0 kn'
end Go.Proofs.Ytefjoiinoaofcaa

/- Lists in order, as plain data. -/
import Derived.Test.YtcfglfnncpcfoaaCmp
namespace Go.Proofs.Ytcfglfnncpcfoaa
/-- p holds at the head of L, up to k, and nowhere behind. -/
def Parts (p : Ev → Bool) (L : List Ev) (k : Nat) : Prop := k ≤ L.length ∧ ∀ i, (h : i < L.length) → (p L[i] = true ↔ i < k)
def cutN (p : Ev → Bool) (L : List Ev) : Nat := (L.takeWhile p).length
def Mono (p : Ev → Bool) (L : List Ev) : Prop := ∀ i j, i < j → (hj : j < L.length) → (hi : i < L.length) → p L[j] = true → p L[i] = true
theorem cutN_of : ∀ (p : Ev → Bool) (L : List Ev) (k : Nat), Parts p L k → cutN p L = k
  | p, [], k, h => by
    have := h.1
    simp at this
    simp [cutN, this]
  | p, a :: t, 0, h => by
    have h0 := (h.2 0 (by simp))
    have : p a = false := by
      cases hp : p a with
      | false => rfl
      | true => have := h0.1 hp; omega
    simp [cutN, this]
  | p, a :: t, k + 1, h => by
    have h0 : p a = true := (h.2 0 (by simp)).2 (by omega)
    have ih := cutN_of p t k ⟨by have := h.1; simp at this; exact this, fun i hi => by
      have := h.2 (i + 1) (by simp; exact hi)
      simp at this
      exact this⟩
    unfold cutN at ih ⊢
    rw [List.takeWhile_cons, if_pos h0, List.length_cons, ih]
theorem parts_of (p : Ev → Bool) (L : List Ev) (k : Nat) (hk : k ≤ L.length) (h1 : ∀ i, i < k → (h : i < L.length) → p L[i] = true) (h2 : ∀ i, k ≤ i → (h : i < L.length) → p L[i] = false) : Parts p L k :=
  ⟨hk, fun i h => ⟨(fun hp => by
    by_cases hi : i < k
    · exact hi
    · rw [h2 i (by omega) h] at hp; cases hp), (fun hi => h1 i hi h)⟩⟩
theorem cutN_parts : ∀ (p : Ev → Bool) (L : List Ev), Mono p L → Parts p L (cutN p L)
  | p, [], _ => ⟨by simp [cutN], fun i h => by simp at h⟩
  | p, a :: t, hm => by
    have ht : Mono p t := fun i j hij hj hi hp => by
      have := hm (i + 1) (j + 1) (by omega) (by simpa using hj) (by simpa using hi)
      simp at this
      exact this hp
    have ih := cutN_parts p t ht
    cases hp : p a with
    | true =>
      have e : cutN p (a :: t) = cutN p t + 1 := by simp [cutN, hp]
      rw [e]
      refine ⟨by have := ih.1; simp; exact this, fun i h => ?_⟩
      match i with
      | 0 => simp [hp]
      | i + 1 =>
        have := ih.2 i (by simpa using h)
        simp
        exact this
    | false =>
      have e : cutN p (a :: t) = 0 := by simp [cutN, hp]
      rw [e]
      refine ⟨by simp, fun i h => ⟨fun hh => ?_, fun hh => by omega⟩⟩
      match i with
      | 0 => simp [hp] at hh
      | i + 1 =>
        have := hm 0 (i + 1) (by omega) h (by simp) hh
        simp [hp] at this
theorem cutN_le : ∀ (p : Ev → Bool) (L : List Ev), cutN p L ≤ L.length
  | _, [] => by simp [cutN]
  | p, a :: t => by
    have ih := cutN_le p t
    unfold cutN at ih ⊢
    rw [List.takeWhile_cons]
    split
    · simp; exact ih
    · simp
/-- One event's stamp ahead of another's. -/
def ltE (a b : Ev) : Prop := sltI a.t a.s a.n b.t b.s b.n
instance (a b : Ev) : Decidable (ltE a b) := by unfold ltE; infer_instance
def eqE (a b : Ev) : Prop := a.t = b.t ∧ a.s = b.s ∧ a.n = b.n
instance (a b : Ev) : Decidable (eqE a b) := by unfold eqE; infer_instance
theorem ltE.trans {a b c : Ev} (h : ltE a b) (k : ltE b c) : ltE a c := by unfold ltE sltI at *; omega
theorem ltE.irrefl (a : Ev) : ¬ ltE a a := by unfold ltE sltI; omega
theorem ltE_tri (a b : Ev) : ltE a b ∨ eqE a b ∨ ltE b a := by unfold ltE eqE sltI; omega
theorem ltE.t {a b : Ev} (h : ltE a b) : a.t ≤ b.t := by unfold ltE sltI at h; omega
theorem ltE_eqE {a b c : Ev} (h : ltE a b) (k : eqE b c) : ltE a c := by unfold ltE eqE sltI at *; omega
theorem eqE_ltE {a b c : Ev} (h : eqE a b) (k : ltE b c) : ltE a c := by unfold ltE eqE sltI at *; omega
/-- In order, no two with one stamp. -/
def Srt (L : List Ev) : Prop := L.Pairwise ltE
theorem Srt.at {L : List Ev} (h : Srt L) {i j : Nat} (hij : i < j) (hj : j < L.length) (hi : i < L.length) : ltE L[i] L[j] := List.pairwise_iff_getElem.1 h i j hi hj hij
theorem Srt.mono_lt {L : List Ev} (h : Srt L) (e : Ev) : Mono (fun x => decide (ltE x e)) L := fun i j hij hj hi hp => by
  have h1 := h.at hij hj hi
  simp at hp ⊢
  exact h1.trans hp
theorem Srt.mono_t {L : List Ev} (h : Srt L) (x : Int) : Mono (fun e => decide (e.t ≤ x)) L := fun i j hij hj hi hp => by
  have h1 := (h.at hij hj hi).t
  simp at hp ⊢
  omega
/-- Where the event's place is. -/
def rank (L : List Ev) (e : Ev) : Nat := cutN (fun x => decide (ltE x e)) L
/-- There is an event with that stamp at place k. -/
def fnd (L : List Ev) (e : Ev) (k : Nat) : Bool := match L[k]? with | some x => decide (eqE x e) | none => false
end Go.Proofs.Ytcfglfnncpcfoaa

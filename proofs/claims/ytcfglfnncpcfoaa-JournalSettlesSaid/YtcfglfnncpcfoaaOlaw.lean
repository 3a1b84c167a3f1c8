/- Plain laws on Take: what a new event and what one taken before does; lists in order with the same members. -/
import Derived.Test.YtcfglfnncpcfoaaTk
import Derived.Test.YtcfglfnncpcfoaaStl
namespace Go.Proofs.Ytcfglfnncpcfoaa
open Go.RowKit
theorem eqE.symm {a b : Ev} (h : eqE a b) : eqE b a := ⟨h.1.symm, h.2.1.symm, h.2.2.symm⟩
/-- Lists in order with the same members are one. -/
theorem srt_ext : ∀ {L M : List Ev}, Srt L → Srt M → (∀ e, e ∈ L ↔ e ∈ M) → L = M
  | [], [], _, _, _ => rfl
  | [], b :: M, _, _, h => by have := (h b).2 (by simp); simp at this
  | a :: L, [], _, _, h => by have := (h a).1 (by simp); simp at this
  | a :: L, b :: M, hl, hm, h => by
    have hl' := List.pairwise_cons.1 hl
    have hm' := List.pairwise_cons.1 hm
    have hab : a = b := by
      have h1 := (h a).1 (by simp)
      have h2 := (h b).2 (by simp)
      rcases List.mem_cons.1 h1 with h1 | h1
      · exact h1
      · rcases List.mem_cons.1 h2 with h2 | h2
        · exact h2.symm
        · exact absurd ((hm'.1 a h1).trans (hl'.1 b h2)) (ltE.irrefl b)
    subst hab
    have ih : L = M := srt_ext hl'.2 hm'.2 fun e => by
      refine ⟨fun he => ?_, fun he => ?_⟩
      · rcases List.mem_cons.1 ((h e).1 (List.mem_cons_of_mem _ he)) with rfl | h1
        · exact absurd (hl'.1 e he) (ltE.irrefl e)
        · exact h1
      · rcases List.mem_cons.1 ((h e).2 (List.mem_cons_of_mem _ he)) with rfl | h1
        · exact absurd (hm'.1 e he) (ltE.irrefl e)
        · exact h1
    rw [ih]
theorem fnd_mem {L : List Ev} {e : Ev} {k : Nat} (h : fnd L e k = true) : ∃ x, x ∈ L ∧ eqE x e := by
  unfold fnd at h
  split at h
  · rename_i x hx
    exact ⟨x, List.mem_of_getElem? hx, of_decide_eq_true h⟩
  · cases h
theorem rank_mem {L : List Ev} (hs : Srt L) {e : Ev} (he : e ∈ L) : L[rank L e]? = some e := by
  obtain ⟨k, hk, rfl⟩ := List.getElem_of_mem he
  have hp := rank_parts hs L[k]
  have h1 : ¬ k < rank L L[k] := fun h => ltE.irrefl _ ((hp k hk).2 h)
  have h2 : ¬ rank L L[k] < k := fun h => by
    have h3 : rank L L[k] < L.length := by omega
    have h4 := hs.at h hk h3
    have := (hp _ h3).1 h4
    omega
  have h5 : rank L L[k] = k := by omega
  rw [h5, List.getElem?_eq_getElem hk]
theorem insL_mem (L : List Ev) (k : Nat) (e x : Ev) : x ∈ insL L k e ↔ x ∈ L ∨ x = e := by
  unfold insL
  rw [List.mem_append, List.mem_cons]
  have h := List.take_append_drop k L
  have h2 : x ∈ L ↔ x ∈ L.take k ∨ x ∈ L.drop k := by
    rw [← List.mem_append, h]
  rw [h2]
  constructor
  · rintro (h | h | h)
    · exact .inl (.inl h)
    · exact .inr h
    · exact .inl (.inr h)
  · rintro ((h | h) | h)
    · exact .inl h
    · exact .inr (.inr h)
    · exact .inr (.inl h)
/-- An event taken before. -/
theorem take_old {S : Lg} (h : S.ok) {e : Ev} (ho : (S.op : Int) ≤ e.t) (he : e ∈ S.L) : takeE S e = 22 ∧ takeS S e = S := by
  have h1 := rank_mem h.srt he
  have h2 : fnd S.L e (rank S.L e) = true := by
    unfold fnd
    rw [h1]
    simp [eqE]
  have h3 := takeE_twice (by omega) h2 h1
  exact ⟨h3, takeS_not (by rw [h3]; decide)⟩
/-- An event whose stamp is new. -/
theorem take_new {S : Lg} {e : Ev} (ho : (S.op : Int) ≤ e.t) (hn : ∀ x, x ∈ S.L → ¬ eqE x e) (hl : S.L.length < 20000) :
    takeE S e = 0 ∧ (takeS S e).op = S.op ∧ (takeS S e).L.length = S.L.length + 1 ∧ ∀ x, x ∈ (takeS S e).L ↔ x ∈ S.L ∨ x = e := by
  have hf : fnd S.L e (rank S.L e) = false := by
    cases hf : fnd S.L e (rank S.L e) with
    | false => rfl
    | true =>
      obtain ⟨x, hx, hxe⟩ := fnd_mem hf
      exact absurd hxe (hn x hx)
  have h0 := takeE_ok (S := S) (e := e) (by omega) hf (by omega)
  rw [takeS_ok h0]
  exact ⟨h0, rfl, insL_length _ _ _ (rank_le _ _), fun x => insL_mem _ _ _ _⟩
/-- One Take leaves at most one event more. -/
theorem take_len (S : Lg) (e : Ev) : (takeS S e).op = S.op ∧ (takeS S e).L.length ≤ S.L.length + 1 ∧ ∀ x, x ∈ (takeS S e).L → x ∈ S.L ∨ x = e := by
  by_cases h0 : takeE S e = 0
  · rw [takeS_ok h0]
    exact ⟨rfl, Nat.le_of_eq (insL_length _ _ _ (rank_le _ _)), fun x h => (insL_mem _ _ _ _).1 h⟩
  · rw [takeS_not h0]
    exact ⟨rfl, by omega, fun x h => .inl h⟩
theorem take_late {S : Lg} {e : Ev} (h : e.t < S.op) : takeE S e = 71 ∧ takeS S e = S := by
  have := takeE_late h
  exact ⟨this, takeS_not (by rw [this]; decide)⟩
def upd (E : Nat → Ev) (i : Nat) (e : Ev) : Nat → Ev := fun k => if k = i then e else E k
theorem upd_self (E : Nat → Ev) (i : Nat) (e : Ev) : upd E i e i = e := if_pos rfl
theorem upd_ne (E : Nat → Ev) {i k : Nat} (e : Ev) (h : k ≠ i) : upd E i e k = E k := if_neg h
/-- The first log of JournalOrder behind i rounds. -/
structure OInv (n i : Nat) (E : Nat → Ev) (S : Lg) : Prop where
  r : ∀ k, k < n → -9223372036854775808 ≤ (E k).t ∧ (E k).t ≤ 9223372036854775807
  m : ∀ k, k < i → (E k).n = k ∧ 0 ≤ (E k).t
  op : S.op = 0
  len : S.L.length = i
  mem : ∀ e, e ∈ S.L ↔ ∃ k, k < i ∧ E k = e
theorem OInv.step {n i : Nat} {E : Nat → Ev} {S : Lg} (h : OInv n i E S) (hi : i < n) (hn : n ≤ 60) (x : Ev) (hx : x.n = i) (ht : 0 ≤ x.t ∧ x.t ≤ 1000) : takeE S x = 0 ∧ OInv n (i + 1) (upd E i x) (takeS S x) := by
  obtain ⟨h1, h2, h3, h4⟩ := take_new (S := S) (e := x) (by rw [h.op]; omega) (fun y hy hyx => by
    obtain ⟨k, hk, rfl⟩ := (h.mem y).1 hy
    have h5 := (h.m k hk).1
    have h6 := hyx.2.2
    omega) (by rw [h.len]; omega)
  refine ⟨h1, fun k hk => ?_, fun k hk => ?_, h2.trans h.op, by rw [h3, h.len], fun e => ?_⟩
  · by_cases hki : k = i
    · subst hki; rw [upd_self]; omega
    · rw [upd_ne _ _ hki]; exact h.r k hk
  · by_cases hki : k = i
    · subst hki; rw [upd_self]; exact ⟨hx, ht.1⟩
    · rw [upd_ne _ _ hki]; exact h.m k (by omega)
  · rw [h4, h.mem]
    constructor
    · rintro (⟨k, hk, rfl⟩ | rfl)
      · exact ⟨k, by omega, upd_ne _ _ (by omega)⟩
      · exact ⟨i, by omega, upd_self _ _ _⟩
    · rintro ⟨k, hk, rfl⟩
      by_cases hki : k = i
      · subst hki; rw [upd_self]; exact .inr rfl
      · rw [upd_ne _ _ hki]; exact .inl ⟨k, by omega, rfl⟩
theorem OInv.start {n : Nat} {E : Nat → Ev} (h : ∀ k, k < n → -9223372036854775808 ≤ (E k).t ∧ (E k).t ≤ 9223372036854775807) : OInv n 0 E Lg.new :=
  ⟨h, fun k hk => by omega, rfl, rfl, fun e => ⟨fun he => by simp [Lg.new] at he, fun ⟨k, hk, _⟩ => by omega⟩⟩
/-- The second log. -/
structure BInv (n : Nat) (E : Nat → Ev) (M : Lg) (c : Nat) : Prop where
  op : M.op = 0
  len : M.L.length ≤ c
  mem : ∀ e, e ∈ M.L → ∃ k, k < n ∧ E k = e
theorem BInv.start (n : Nat) (E : Nat → Ev) : BInv n E Lg.new 0 := ⟨rfl, Nat.le_refl _, fun e he => by simp [Lg.new] at he⟩
theorem BInv.step {n c : Nat} {E : Nat → Ev} {M : Lg} (h : BInv n E M c) {k : Nat} (hk : k < n) : BInv n E (takeS M (E k)) (c + 1) := by
  obtain ⟨h1, h2, h3⟩ := take_len M (E k)
  refine ⟨h1.trans h.op, by have := h.len; omega, fun e he => ?_⟩
  rcases h3 e he with h4 | rfl
  · exact h.mem e h4
  · exact ⟨k, hk, rfl⟩
/-- Behind the last loop's round: the event is in; a second Take says so. -/
theorem BInv.last {n c : Nat} {E : Nat → Ev} {S M : Lg} (a : OInv n n E S) (h : BInv n E M c) (hok : M.ok) (hc : c < 20000) {k : Nat} (hk : k < n) :
    (takeE M (E k) = 0 ∨ takeE M (E k) = 22) ∧ E k ∈ (takeS M (E k)).L ∧ (∀ e, e ∈ M.L → e ∈ (takeS M (E k)).L) ∧ takeE (takeS M (E k)) (E k) = 22 ∧ takeS (takeS M (E k)) (E k) = takeS M (E k) := by
  have h0 : (M.op : Int) ≤ (E k).t := by rw [h.op]; exact (a.m k hk).2
  by_cases hm : E k ∈ M.L
  · obtain ⟨h1, h2⟩ := take_old hok h0 hm
    rw [h2]
    exact ⟨.inr h1, hm, fun e he => he, h1, h2⟩
  · obtain ⟨h1, h2, h3, h4⟩ := take_new (S := M) (e := E k) h0 (fun y hy hyx => by
      obtain ⟨j, hj, rfl⟩ := h.mem y hy
      have h5 := (a.m j hj).1
      have h6 := (a.m k hk).1
      have h7 := hyx.2.2
      have h8 : j = k := by omega
      subst h8
      exact hm hy) (by have := h.len; omega)
    have h5 : E k ∈ (takeS M (E k)).L := (h4 _).2 (.inr rfl)
    obtain ⟨h6, h7⟩ := take_old (take_ok hok (E k)) (by rw [h2]; exact h0) h5
    exact ⟨.inl h1, h5, fun e he => (h4 e).2 (.inl he), h6, h7⟩
theorem BInv.same {n c : Nat} {E : Nat → Ev} {S M : Lg} (a : OInv n n E S) (h : BInv n E M c) (hs : S.ok) (hm : M.ok) (hall : ∀ k, k < n → E k ∈ M.L) : S.L = M.L :=
  srt_ext hs.srt hm.srt fun e => ⟨fun he => by
    obtain ⟨k, hk, rfl⟩ := (a.mem e).1 he
    exact hall k hk, fun he => (a.mem e).2 (h.mem e he)⟩
end Go.Proofs.Ytcfglfnncpcfoaa

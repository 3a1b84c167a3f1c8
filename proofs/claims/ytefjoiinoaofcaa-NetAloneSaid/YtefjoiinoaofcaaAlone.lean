/- NetAlone: one message's copies among others, and the law's walk. -/
import Derived.Test.YtefjoiinoaofcaaDrains
import Derived.Test.YtefjoiinoaofcaaCap
namespace Go.Proofs.Ytefjoiinoaofcaa
open Go.RowKit

theorem ins_first (p : Par) : ∀ S : List Par, (∀ q ∈ S, p.lt q) → ins p S = p :: S
  | [], _ => rfl
  | q :: S, h => by
    unfold ins
    rw [if_pos ((lessB_iff _ _).2 (h q (by simp)))]
theorem ins_cons (p q : Par) (S : List Par) : ins p (q :: S) = if lessB p q then p :: q :: S else q :: ins p S := rfl
theorem ins_filter (f : Par → Bool) (p : Par) : ∀ S : List Par, Sorted S → (ins p S).filter f = if f p then ins p (S.filter f) else S.filter f
  | [], _ => by
    cases hp : f p <;> simp [ins, hp]
  | q :: S, h => by
    have h' := List.pairwise_cons.1 h
    have ih := ins_filter f p S h'.2
    rw [ins_cons]
    cases hl : lessB p q with
    | true =>
      rw [if_pos rfl]
      have hlt := (lessB_iff _ _).1 hl
      cases hp : f p with
      | false => simp [List.filter_cons, hp]
      | true =>
        rw [if_pos rfl, List.filter_cons, if_pos hp, ins_first]
        intro r hr
        have hr' := (List.mem_filter.1 hr).1
        rw [List.mem_cons] at hr'
        rcases hr' with rfl | hr'
        · exact hlt
        · have := h'.1 r hr'
          unfold Par.lt at *; omega
    | false =>
      rw [if_neg (by simp), List.filter_cons, ih]
      cases hp : f p with
      | false => simp [List.filter_cons]
      | true =>
        rw [if_pos rfl, if_pos rfl]
        cases hq : f q with
        | false => simp [hq]
        | true =>
          rw [if_pos rfl, List.filter_cons, if_pos hq, ins_cons, if_neg (by rw [hl]; simp)]
theorem addC_filter (f : Par → Bool) {S : List Par} {a b n : Int} {x : ByteArray} {t sent : Int} (h : Sorted S) (hs : ∀ p, p ∈ S → p.sent < sent) (hf : ∀ j : Nat, f ⟨a, b, n, x, t + j, sent⟩ = true) : ∀ c : Nat, (addC S a b n x t sent c).filter f = addC (S.filter f) a b n x t sent c
  | 0 => rfl
  | c + 1 => by
    rw [addC, ins_filter f _ _ (addC_sorted h hs c), if_pos (hf c), addC_filter f h hs hf c]
    rfl
theorem sends (N : NS) (hn : N.nodes = 2) (t a b n : Int) (x : ByteArray) (hb0 : 0 ≤ b) (hb2 : b < 2) : (sendS N t a b n x).S = addC N.S a b n x (t + max N.tr.delay 0) N.sent N.adds := by
  unfold sendS NS.drops NS.adds
  rw [hn]
  have h1 : decide (b < 0) = false := decide_eq_false (by omega)
  have h2 : decide ((2 : Int) ≤ b) = false := decide_eq_false (by omega)
  rw [h1, h2]
  cases N.tr.lost <;> simp [addC]
theorem adds_le (N : NS) : N.adds ≤ 8 := by unfold NS.adds; split; omega; exact (copiesOf_le _).1
def bo : ByteArray := ⟨#[111, 116, 104, 101, 114]⟩
def bt : ByteArray := ⟨#[116, 104, 105, 115]⟩
/-- While the other messages are sent. -/
structure AlInv (s : List Tr) (k : Nat) (N M : NS) : Prop where
  nodes : N.nodes = 2
  nodesM : M.nodes = 2
  scr : N.scr = s
  scrM : M.scr = s
  sent : N.sent = k
  sentM : M.sent = k
  empty : M.S = []
  all : ∀ p, p ∈ N.S → p.to = 1
  many : N.S.length ≤ 8 * k
theorem AlInv.start (s : List Tr) : AlInv s 0 (NS.new 2 s) (NS.new 2 s) := ⟨rfl, rfl, rfl, rfl, rfl, rfl, rfl, by simp [NS.new], by simp [NS.new]⟩
theorem AlInv.step {s : List Tr} {k : Nat} {N M : NS} (h : AlInv s k N M) (t n : Int) : AlInv s (k + 1) (sendS N t 0 1 n bo) (sendS M 0 0 5 0 ⟨#[]⟩) := by
  have h5 : M.drops 5 = true := by unfold NS.drops; rw [h.nodesM]; simp
  refine ⟨by rw [sendS_nodes, h.nodes], by rw [sendS_nodes, h.nodesM], by rw [sendS_scr, h.scr], by rw [sendS_scr, h.scrM], by rw [sendS_sent, h.sent], by rw [sendS_sent, h.sentM], ?_, fun p hp => ?_, ?_⟩
  · unfold sendS
    rw [if_pos h5]
    exact h.empty
  · rw [sends N h.nodes _ _ _ _ _ (by omega) (by omega), mem_addC] at hp
    rcases hp with hp | ⟨j, _, rfl⟩
    · exact h.all p hp
    · rfl
  · rw [sends N h.nodes _ _ _ _ _ (by omega) (by omega), addC_length]
    have := h.many
    have := adds_le N
    omega
def isX (p : Par) : Bool := p.to == 0
/-- While the copies are taken. -/
structure TkA (k : Nat) (N M : NS) : Prop where
  fil : N.S.filter isX = M.S
  all : ∀ p, p ∈ M.S → p.fr = 0 ∧ p.to = 0 ∧ p.num = 7 ∧ p.tx = bt
  many : N.S.length + k ≤ 248
theorem AlInv.last {s : List Tr} {k : Nat} {N M : NS} (h : AlInv s k N M) (hk : k ≤ 30) (ok : N.ok) (t : Int) : TkA 0 (sendS N t 0 0 7 bt) (sendS M t 0 0 7 bt) := by
  have htr : M.tr = N.tr := by unfold NS.tr; rw [h.scr, h.scrM, h.sent, h.sentM]
  have had : M.adds = N.adds := by unfold NS.adds; rw [htr]
  have hN := sends N h.nodes t 0 0 7 bt (by omega) (by omega)
  have hM := sends M h.nodesM t 0 0 7 bt (by omega) (by omega)
  have hf : N.S.filter isX = [] := by
    rw [List.filter_eq_nil_iff]
    intro p hp
    simp [isX, h.all p hp]
  refine ⟨?_, fun p hp => ?_, ?_⟩
  · rw [hN, hM, addC_filter isX ok.sorted ok.before (fun j => rfl), hf, h.empty, htr, had, h.sent, h.sentM]
  · rw [hM, mem_addC, h.empty] at hp
    rcases hp with hp | ⟨j, _, rfl⟩
    · cases hp
    · exact ⟨rfl, rfl, rfl, rfl⟩
  · rw [hN, addC_length]
    have := h.many
    have := adds_le N
    omega

/-- Two nets, and blocks beside them. -/
def TwoT (w wr : World) (g : Nat) (N : NS) (h : Nat) (M : NS) (T : List (Nat × TypeId × Array Value)) : Prop :=
  ∃ F G, IsNet wr g F N ∧ IsNet wr h G M ∧ Apart F G ∧ Adds w [] F ∧ Adds w [] G ∧ Keeps [] w wr ∧ ∀ t ∈ T, Bk wr t.1 t.2.1 t.2.2 ∧ t.1 ∉ F ∧ t.1 ∉ G
theorem Two.start {w wr : World} {g h : Nat} {N M : NS} (t : Two w wr g N h M) : TwoT w wr g N h M [] := by
  obtain ⟨F, G, h1, h2, h3, h4, h5, h6⟩ := t
  exact ⟨F, G, h1, h2, h3, h4, h5, h6, by simp⟩
theorem TwoT.symm {w wr : World} {g h : Nat} {N M : NS} {T : List (Nat × TypeId × Array Value)} (t : TwoT w wr g N h M T) : TwoT w wr h M g N T := by
  obtain ⟨F, G, h1, h2, h3, h4, h5, h6, h7⟩ := t
  exact ⟨G, F, h2, h1, h3.symm, h5, h4, h6, fun x hx => ⟨(h7 x hx).1, (h7 x hx).2.2, (h7 x hx).2.1⟩⟩
theorem TwoT.keep {w wr w' : World} {g h : Nat} {N M : NS} {T : List (Nat × TypeId × Array Value)} (t : TwoT w wr g N h M T) (k : Keeps [] wr w') : TwoT w w' g N h M T := by
  obtain ⟨F, G, h1, h2, h3, h4, h5, h6, h7⟩ := t
  exact ⟨F, G, h1.keep0 k, h2.keep0 k, h3, h4, h5, h6.trans' k, fun x hx => ⟨(h7 x hx).1.keep k (by simp), (h7 x hx).2⟩⟩
theorem TwoT.keeps {w wr : World} {g h : Nat} {N M : NS} {T : List (Nat × TypeId × Array Value)} (t : TwoT w wr g N h M T) : Keeps [] w wr := by
  obtain ⟨F, G, h1, h2, h3, h4, h5, h6, h7⟩ := t
  exact h6
theorem TwoT.ok {w wr : World} {g h : Nat} {N M : NS} {T : List (Nat × TypeId × Array Value)} (t : TwoT w wr g N h M T) : N.ok := by
  obtain ⟨F, G, h1, h2, h3, h4, h5, h6, h7⟩ := t
  exact h1.ok
theorem TwoT.less {w wr : World} {g h : Nat} {N M : NS} {T : List (Nat × TypeId × Array Value)} {x : Nat × TypeId × Array Value} (t : TwoT w wr g N h M (x :: T)) : TwoT w wr g N h M T := by
  obtain ⟨F, G, h1, h2, h3, h4, h5, h6, h7⟩ := t
  exact ⟨F, G, h1, h2, h3, h4, h5, h6, fun y hy => h7 y (by simp [hy])⟩
theorem TwoT.blk {w wr : World} {g h : Nat} {N M : NS} {T : List (Nat × TypeId × Array Value)} (t : TwoT w wr g N h M T) {x : Nat × TypeId × Array Value} (hx : x ∈ T) : Bk wr x.1 x.2.1 x.2.2 := by
  obtain ⟨F, G, h1, h2, h3, h4, h5, h6, h7⟩ := t
  exact (h7 x hx).1
theorem TwoT.box {w wr : World} {g h : Nat} {N M : NS} {T : List (Nat × TypeId × Array Value)} (t : TwoT w wr g N h M T) (ty : TypeId) (cs : Array Value) : TwoT w (wr.alloc (.cells cs ty)) g N h M ((wr.heap.size, ty, cs) :: T) := by
  have t' := t.keep ((Keeps.refl [] wr).alloc (.cells cs ty))
  obtain ⟨F, G, h1, h2, h3, h4, h5, h6, h7⟩ := t
  obtain ⟨F', G', _, _, _, _, _, k6, k7⟩ := t'
  refine ⟨F, G, h1.keep0 ((Keeps.refl [] wr).alloc _), h2.keep0 ((Keeps.refl [] wr).alloc _), h3, h4, h5, k6, fun x hx => ?_⟩
  rw [List.mem_cons] at hx
  rcases hx with rfl | hx
  · exact ⟨Bk.new _ _ _, fun hm => Nat.lt_irrefl _ (h1.all _ hm), fun hm => Nat.lt_irrefl _ (h2.all _ hm)⟩
  · exact ⟨(h7 x hx).1.alloc _, (h7 x hx).2⟩
theorem TwoT.step {w wr w' : World} {g h : Nat} {M N' : NS} {T : List (Nat × TypeId × Array Value)} {F G F' : List Nat} (h2 : IsNet wr h G M) (h3 : Apart F G) (h4 : Adds w [] F) (h5 : Adds w [] G) (h6 : Keeps [] w wr) (h7 : ∀ t ∈ T, Bk wr t.1 t.2.1 t.2.2 ∧ t.1 ∉ F ∧ t.1 ∉ G)
    (hn : IsNet w' g F' N') (ha : Adds wr F F') (hk : Keeps F wr w') : TwoT w w' g N' h M T := by
  obtain ⟨hK, hA⟩ := own_step h6 h4 ha hk
  refine ⟨F', G, hn, h2.keep hk h3.symm, h3.adds ha h2.all, hA, h5, hK, fun x hx => ?_⟩
  obtain ⟨k1, k2⟩ := (h7 x hx).1.beside (h7 x hx).2.1 ha hk
  exact ⟨k1, k2, (h7 x hx).2.2⟩
theorem TwoT.send {w wr : World} {g h : Nat} {N M : NS} {T : List (Nat × TypeId × Array Value)} (t : TwoT w wr g N h M T) (now a b n : Int) (x : ByteArray) (hf : N.sent < 100000)
    (hb : N.drops b = false → -1000000000000000000 ≤ now ∧ now ≤ 1000000000000000000 ∧ N.tr.delay ≤ 1000000000000000000) :
    Calls Try.prog 14 #[.pointer (some ⟨g, 0, none⟩), .int .i64 now, msgV a b n x] wr fun e w' => e = .returned (.tuple #[]) ∧ TwoT w w' g (sendS N now a b n x) h M T := by
  obtain ⟨F, G, h1, h2, h3, h4, h5, h6, h7⟩ := t
  refine (send_any g F N now a b n x wr h1 hf hb).mono ?_
  rintro e w' ⟨he, F', hn, ha, hk⟩
  exact ⟨he, TwoT.step h2 h3 h4 h5 h6 h7 hn ha hk⟩
theorem TwoT.next {w wr : World} {g h : Nat} {N M : NS} {T : List (Nat × TypeId × Array Value)} (t : TwoT w wr g N h M T) (q : Par) (S : List Par) (hS : N.S = q :: S) :
    Calls Try.prog 16 #[.pointer (some ⟨g, 0, none⟩)] wr fun e w' => e = .returned (.tuple #[msgV q.fr q.to q.num q.tx, .int .i64 q.time, .bool true]) ∧ TwoT w w' g { N with S := S } h M T := by
  obtain ⟨F, G, h1, h2, h3, h4, h5, h6, h7⟩ := t
  refine (next_some g F N q S wr h1 hS).mono ?_
  rintro e w' ⟨he, F', hn, ha, hk⟩
  exact ⟨he, TwoT.step h2 h3 h4 h5 h6 h7 hn ha hk⟩
theorem TwoT.empty {w wr : World} {g h : Nat} {N M : NS} {T : List (Nat × TypeId × Array Value)} (t : TwoT w wr g N h M T) (hS : N.S = []) :
    Calls Try.prog 16 #[.pointer (some ⟨g, 0, none⟩)] wr fun e w' => e = .returned (.tuple #[msgV 0 0 0 ⟨#[]⟩, .int .i64 0, .bool false]) ∧ TwoT w w' g N h M T := by
  have t' := t
  obtain ⟨F, G, h1, h2, h3, h4, h5, h6, h7⟩ := t
  refine (next_none g F N wr h1 hS).mono ?_
  rintro e w' ⟨he, _, hk⟩
  exact ⟨he, t'.keep hk⟩
theorem TwoT.waiting {w wr : World} {g h : Nat} {N M : NS} {T : List (Nat × TypeId × Array Value)} (t : TwoT w wr g N h M T) (n : Nat) (hn : N.S.length = n) :
    Calls Try.prog 18 #[.pointer (some ⟨g, 0, none⟩)] wr fun e w' => e = .returned (.int .i64 n) ∧ wr = w' := by
  subst hn
  obtain ⟨F, G, h1, _⟩ := t
  exact waiting_any g F N wr h1
/-- A slice that came in, cut behind. -/
theorem Src.cut {w : World} {sz L c : Nat} {A : Option Addr} {xs : List Value} (h : Src w sz (.slice A L c) L xs) (n : Nat) (hn : n ≤ L) : Src w sz (.slice A n c) n (xs.take (n * sz)) := by
  obtain ⟨hl, A', c', hA, h0, hc⟩ := h
  injection hA with hA _ _
  subst hA
  refine ⟨by rw [List.length_take, hl]; exact Nat.min_eq_left (Nat.mul_le_mul_right _ hn), A, c, rfl, fun e => by have := h0 e; omega, fun ad had j u hu => hc ad had j u ?_⟩
  rw [List.getElem?_take] at hu
  split at hu
  · exact hu
  · cases hu
end Go.Proofs.Ytefjoiinoaofcaa

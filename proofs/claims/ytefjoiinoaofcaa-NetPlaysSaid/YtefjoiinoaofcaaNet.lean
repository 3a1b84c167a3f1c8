/- The state of a net as plain data, and how a net and the reference's lie in memory. -/
import Derived.Test.YtefjoiinoaofcaaRow
import Derived.Test.YtefjoiinoaofcaaMeth
namespace Go.Proofs.Ytefjoiinoaofcaa
open Go.RowKit

/-- The state of a net: the waiting copies in the order in which they come. -/
structure NS where
  nodes : Int
  scr : List Tr
  S : List Par
  sent : Nat

/-- What holds of every state. -/
structure NS.ok (N : NS) : Prop where
  sorted : Sorted N.S
  before : ∀ p, p ∈ N.S → p.sent < N.sent
  many : N.S.length ≤ 8 * N.sent
  few : N.sent ≤ 100000
  scr : N.scr.length ≤ 1000

/-- What happens to the next message. -/
def NS.tr (N : NS) : Tr := if N.scr.length = 0 then ⟨false, 1, 1⟩ else trAt N.scr (N.sent % N.scr.length)
def copiesOf (t : Tr) : Nat := (min (max t.copies 1) 8).toNat
theorem copiesOf_le (t : Tr) : copiesOf t ≤ 8 ∧ 1 ≤ copiesOf t := by unfold copiesOf; omega
/-- c copies from time t on. -/
def addC (S : List Par) (a b n : Int) (x : ByteArray) (t : Int) (sent : Int) : Nat → List Par
  | 0 => S
  | c + 1 => ins ⟨a, b, n, x, t + c, sent⟩ (addC S a b n x t sent c)
theorem mem_addC {S : List Par} {a b n : Int} {x : ByteArray} {t sent : Int} {q : Par} : ∀ {c : Nat}, q ∈ addC S a b n x t sent c ↔ q ∈ S ∨ ∃ j : Nat, j < c ∧ q = ⟨a, b, n, x, t + j, sent⟩
  | 0 => by simp [addC]
  | c + 1 => by
    rw [addC, mem_ins, mem_addC]
    constructor
    · rintro (h | h | ⟨j, hj, h⟩)
      · exact .inr ⟨c, by omega, h⟩
      · exact .inl h
      · exact .inr ⟨j, by omega, h⟩
    · rintro (h | ⟨j, hj, h⟩)
      · exact .inr (.inl h)
      · by_cases e : j = c
        · subst e; exact .inl h
        · exact .inr (.inr ⟨j, by omega, h⟩)
theorem addC_length {S : List Par} {a b n : Int} {x : ByteArray} {t sent : Int} : ∀ {c : Nat}, (addC S a b n x t sent c).length = S.length + c
  | 0 => rfl
  | c + 1 => by rw [addC, ins_length, addC_length]; omega
theorem addC_new {S : List Par} {a b n : Int} {x : ByteArray} {t sent : Int} (hs : ∀ p, p ∈ S → p.sent < sent) (c : Nat) : New ⟨a, b, n, x, t + c, sent⟩ (addC S a b n x t sent c) := by
  intro q hq
  rw [mem_addC] at hq
  rcases hq with h | ⟨j, hj, rfl⟩
  · have := hs q h
    right; simp; omega
  · left; simp; omega
theorem addC_sorted {S : List Par} {a b n : Int} {x : ByteArray} {t sent : Int} (h : Sorted S) (hs : ∀ p, p ∈ S → p.sent < sent) : ∀ c : Nat, Sorted (addC S a b n x t sent c)
  | 0 => h
  | c + 1 => ins_sorted (addC_sorted h hs c) (addC_new hs c)

/-- Is the message lost, or for no node? -/
def NS.drops (N : NS) (to : Int) : Bool := N.tr.lost || decide (to < 0) || decide (N.nodes ≤ to)
/-- A message is sent. -/
def sendS (N : NS) (now a b n : Int) (x : ByteArray) : NS :=
  if N.drops b then { N with sent := N.sent + 1 }
  else { N with S := addC N.S a b n x (now + max N.tr.delay 0) N.sent (copiesOf N.tr), sent := N.sent + 1 }
theorem sendS_ok {N : NS} (h : N.ok) (hf : N.sent < 100000) (now a b n : Int) (x : ByteArray) : (sendS N now a b n x).ok := by
  unfold sendS
  have hc := copiesOf_le N.tr
  split
  · exact ⟨h.sorted, fun p hp => by have := h.before p hp; simp; omega, by have := h.many; simp; omega, by simp; omega, h.scr⟩
  · refine ⟨addC_sorted h.sorted h.before _, fun p hp => ?_, ?_, by simp; omega, h.scr⟩
    · simp only at hp ⊢
      rw [mem_addC] at hp
      rcases hp with hp | ⟨j, _, rfl⟩
      · have := h.before p hp; omega
      · simp; omega
    · simp only [addC_length]
      have := h.many; omega
def nextS (N : NS) : NS := { N with S := N.S.tail }
theorem nextS_ok {N : NS} (h : N.ok) : (nextS N).ok := by
  refine ⟨?_, fun p hp => h.before p (List.mem_of_mem_tail hp), by have := h.many; simp [nextS]; omega, h.few, h.scr⟩
  unfold nextS Sorted
  simp only
  have := h.sorted
  unfold Sorted at this
  cases hS : N.S with
  | nil => simp
  | cons p S => rw [hS] at this; simpa using (List.pairwise_cons.1 this).2
def NS.new (nodes : Int) (scr : List Tr) : NS := ⟨nodes, scr, [], 0⟩
theorem NS.new_ok (nodes : Int) (scr : List Tr) (h : scr.length ≤ 1000) : (NS.new nodes scr).ok := ⟨List.Pairwise.nil, by simp [NS.new], by simp [NS.new], by simp [NS.new], h⟩

/-- Block g is a net in state N, all of whose memory lies in the blocks F; L is its heap. -/
structure NetAt (w : World) (g : Nat) (F : List Nat) (N : NS) (vs vw : Value) (L : List Par) : Prop where
  blk : Bk w g 53 #[.int .i64 N.nodes, vs, vw, .int .i64 N.sent]
  gin : g ∈ F
  scr : Own w 42 3 vs N.scr.length (trs N.scr)
  wai : Own w 67 6 vw L.length (pcs L)
  sin : ∀ b, vs.ownBlock = some b → b ∈ F
  win : ∀ b, vw.ownBlock = some b → b ∈ F
  all : In w F
  bag : Bag L N.S
  ok : N.ok
def IsNet (w : World) (g : Nat) (F : List Nat) (N : NS) : Prop := ∃ vs vw L, NetAt w g F N vs vw L
theorem NetAt.keep {w w' : World} {g : Nat} {F G : List Nat} {N : NS} {vs vw : Value} {L : List Par} (h : NetAt w g F N vs vw L) (k : Keeps G w w') (ha : Apart F G) : NetAt w' g F N vs vw L :=
  ⟨h.blk.keep k (ha g h.gin), h.gin, h.scr.keep k (fun b hb => ha b (h.sin b hb)), h.wai.keep k (fun b hb => ha b (h.win b hb)), h.sin, h.win, h.all.keep k, h.bag, h.ok⟩
theorem IsNet.keep {w w' : World} {g : Nat} {F G : List Nat} {N : NS} (h : IsNet w g F N) (k : Keeps G w w') (ha : Apart F G) : IsNet w' g F N := by
  obtain ⟨vs, vw, L, hd⟩ := h
  exact ⟨vs, vw, L, hd.keep k ha⟩
theorem IsNet.keep0 {w w' : World} {g : Nat} {F : List Nat} {N : NS} (h : IsNet w g F N) (k : Keeps [] w w') : IsNet w' g F N := h.keep k (apart_nil F)
theorem IsNet.all {w : World} {g : Nat} {F : List Nat} {N : NS} (h : IsNet w g F N) : In w F := by
  obtain ⟨vs, vw, L, hd⟩ := h
  exact hd.all
theorem IsNet.ok {w : World} {g : Nat} {F : List Nat} {N : NS} (h : IsNet w g F N) : N.ok := by
  obtain ⟨vs, vw, L, hd⟩ := h
  exact hd.ok

/-- The reference's net: its list is a permutation of the sorted one. -/
structure RefAt (w : World) (g : Nat) (F : List Nat) (N : NS) (vs vw : Value) (L : List Par) : Prop where
  blk : Bk w g 60 #[.int .i64 N.nodes, vs, vw, .int .i64 N.sent]
  gin : g ∈ F
  scr : Own w 42 3 vs N.scr.length (trs N.scr)
  wai : Own w 69 6 vw L.length (pcs L)
  sin : ∀ b, vs.ownBlock = some b → b ∈ F
  win : ∀ b, vw.ownBlock = some b → b ∈ F
  all : In w F
  perm : L.Perm N.S
  ok : N.ok
def IsRef (w : World) (g : Nat) (F : List Nat) (N : NS) : Prop := ∃ vs vw L, RefAt w g F N vs vw L
theorem RefAt.keep {w w' : World} {g : Nat} {F G : List Nat} {N : NS} {vs vw : Value} {L : List Par} (h : RefAt w g F N vs vw L) (k : Keeps G w w') (ha : Apart F G) : RefAt w' g F N vs vw L :=
  ⟨h.blk.keep k (ha g h.gin), h.gin, h.scr.keep k (fun b hb => ha b (h.sin b hb)), h.wai.keep k (fun b hb => ha b (h.win b hb)), h.sin, h.win, h.all.keep k, h.perm, h.ok⟩
theorem IsRef.keep {w w' : World} {g : Nat} {F G : List Nat} {N : NS} (h : IsRef w g F N) (k : Keeps G w w') (ha : Apart F G) : IsRef w' g F N := by
  obtain ⟨vs, vw, L, hd⟩ := h
  exact ⟨vs, vw, L, hd.keep k ha⟩
theorem IsRef.keep0 {w w' : World} {g : Nat} {F : List Nat} {N : NS} (h : IsRef w g F N) (k : Keeps [] w w') : IsRef w' g F N := h.keep k (apart_nil F)
theorem IsRef.all {w : World} {g : Nat} {F : List Nat} {N : NS} (h : IsRef w g F N) : In w F := by
  obtain ⟨vs, vw, L, hd⟩ := h
  exact hd.all
end Go.Proofs.Ytefjoiinoaofcaa

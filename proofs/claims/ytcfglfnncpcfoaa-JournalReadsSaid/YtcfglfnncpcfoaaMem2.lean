/- More words for memory: cells kept, rows of the call's own cut, opened and made. No condition. -/
import Derived.Test.YtcfglfnncpcfoaaMem
namespace Go.Proofs.Ytcfglfnncpcfoaa
open Go.RowKit

theorem Keeps.cell {w w' : World} (k : Keeps [] w w') {a : Addr} {v : Value} (h : w.cell? a = some v) : w'.cell? a = some v :=
  (World.cell?_of_block (k.block _ (World.block_lt_of_cell? w _ h) (by simp))).trans h
theorem Keeps.cellF {w w' : World} {F : List Nat} (k : Keeps F w w') {a : Addr} {v : Value} (h : w.cell? a = some v) (hn : a.block ∉ F) : w'.cell? a = some v :=
  (World.cell?_of_block (k.block _ (World.block_lt_of_cell? w _ h) hn)).trans h
theorem Bk.grown {w w' : World} {g : Nat} {t : TypeId} {cs : Array Value} {row : Option Nat} (h : Bk w g t cs) (hg : w.grownBy w' row) (hn : some g ≠ row) : Bk w' g t cs := (hg.block g h.lt hn).trans h
theorem own_form {w : World} {e : TypeId} {sz n : Nat} {v : Value} {xs : List Value} (h : Own w e sz v n xs) (hn : 0 < n) : ∃ g cap, v = .slice (some ⟨g, 0, none⟩) n cap ∧ n ≤ cap := by
  rcases h.2 with ⟨_, rfl⟩ | ⟨g, cap, cur, rfl, _, _, hc, _⟩
  · omega
  · exact ⟨g, cap, rfl, hc⟩
/-- A row of the call's own, cut behind. -/
theorem Own.cut {w : World} {e : TypeId} {sz n c : Nat} {A : Option Addr} {xs : List Value} (h : Own w e sz (.slice A n c) n xs) (m : Nat) (hm : m ≤ n) : Own w e sz (.slice A m c) m (xs.take (m * sz)) := by
  refine ⟨by rw [List.length_take, h.1]; exact Nat.min_eq_left (Nat.mul_le_mul_right _ hm), ?_⟩
  rcases h.2 with ⟨h0, hn⟩ | ⟨g, cap, cur, hv, hb, hg, hc, hx, hs, ht⟩
  · injection h0 with h1 h2 h3
    subst h1 h3
    exact .inl ⟨by rw [show m = 0 by omega], by omega⟩
  · injection hv with h1 h2 h3
    subst h1 h3
    refine .inr ⟨g, c, cur, rfl, hb, hg, by omega, hx, hs, ?_⟩
    rw [← ht, List.take_take, Nat.min_eq_left (Nat.mul_le_mul_right _ hm)]
theorem Own.addr {w : World} {e : TypeId} {sz n c : Nat} {A : Option Addr} {xs : List Value} (h : Own w e sz (.slice A n c) n xs) : (A = none ∧ n = 0 ∧ c = 0) ∨ ∃ b, A = some ⟨b, 0, none⟩ := by
  rcases h.2 with ⟨h0, h1⟩ | ⟨g, cap, cur, hv, _⟩
  · injection h0 with h2 h3 h4
    exact .inl ⟨h2, h1, h4⟩
  · injection hv with h2 h3 h4
    exact .inr ⟨g, h2⟩
theorem Own.cap {w : World} {e : TypeId} {sz n c : Nat} {A : Option Addr} {xs : List Value} (h : Own w e sz (.slice A n c) n xs) : n ≤ c ∧ c ≤ 9223372036854775807 := by
  rcases h.2 with ⟨h0, h1⟩ | ⟨g, cap, cur, hv, _, _, hc, hm, _⟩
  · injection h0 with h2 h3 h4
    omega
  · injection hv with h2 h3 h4
    subst h4
    exact ⟨hc, by simpa [maxLen] using hm⟩
theorem Src.built (w : World) (t : TypeId) (cs : Array Value) (sz m : Nat) (hm : cs.size = m * sz) (g : Nat) (hg : g = w.heap.size) : Src (w.alloc (.cells cs t)) sz (.slice (some ⟨g, 0, none⟩) m m) m cs.toList := by
  subst hg
  refine ⟨by simpa using hm, _, _, rfl, fun h => by (cases h), fun ad had j u hu => ?_⟩
  injection had with had
  subst had
  have e : (⟨w.heap.size, 0, none⟩ : Addr).add j = ⟨w.heap.size, j, none⟩ := by unfold Addr.add; split <;> simp_all
  rw [e]
  simpa using hu
/-- A block as a row of the call's own. -/
theorem own_of {w : World} {g e sz n c : Nat} {cur : Array Value} {xs : List Value} (hb : Bk w g e cur) (hl : xs.length = n * sz) (hc : n ≤ c) (hm : c ≤ maxLen) (hs : cur.size = c * sz) (ht : cur.toList.take (n * sz) = xs) : Own w e sz (.slice (some ⟨g, 0, none⟩) n c) n xs :=
  ⟨hl, .inr ⟨g, c, cur, rfl, Nat.zero_le _, hb, hc, hm, hs, ht⟩⟩
theorem le_maxLen {c : Nat} (h : c ≤ 9223372036854775807) : c ≤ maxLen := by unfold maxLen; exact h
/-- A row of the call's own that is not empty: where it lies. -/
theorem Own.head {w : World} {e : TypeId} {sz n : Nat} {v : Value} {xs : List Value} (h : Own w e sz v n xs) (hn : 0 < n) :
    ∃ g c cur, v = .slice (some ⟨g, 0, none⟩) n c ∧ n ≤ c ∧ c ≤ 9223372036854775807 ∧ Bk w g e cur ∧ cur.size = c * sz ∧ cur.toList.take (n * sz) = xs ∧ (∀ j u, xs[j]? = some u → w.cell? ⟨g, j, none⟩ = some u) := by
  rcases h.2 with ⟨_, h0⟩ | ⟨g, cap, cur, rfl, _, hg, h1, h2, h3, h4⟩
  · omega
  · refine ⟨g, cap, cur, rfl, h1, by simpa [maxLen] using h2, hg, h3, h4, fun j u hu => ?_⟩
    rw [Bk.cell hg, ← Array.getElem?_toList]
    rw [← h4, List.getElem?_take] at hu
    split at hu
    · exact hu
    · cases hu
/-- A slice that came in and is not empty: where it lies. -/
theorem Src.headN {w : World} {sz n c : Nat} {A : Option Addr} {xs : List Value} (h : Src w sz (.slice A n c) n xs) (hn : 0 < n) (hz : 0 < sz) : ∃ b o, A = some ⟨b, o, none⟩ ∧ ∀ j u, xs[j]? = some u → w.cell? ⟨b, o + j, none⟩ = some u := by
  obtain ⟨hl, A', c', hA, hnil, hc⟩ := h
  injection hA with hA _ _
  subst hA
  have hpos : 0 < xs.length := by rw [hl]; exact Nat.mul_pos hn hz
  cases A with
  | none => exact absurd (hnil rfl) (by omega)
  | some ad =>
    obtain ⟨b, o, sp⟩ := ad
    have h0 := hc _ rfl 0 xs[0] (List.getElem?_eq_getElem hpos)
    have hs : sp = none := by
      cases sp with
      | none => rfl
      | some z =>
        simp [Addr.add, World.cell?] at h0
        split at h0 <;> simp at h0
    subst hs
    refine ⟨b, o, rfl, fun j u hu => ?_⟩
    have := hc _ rfl j u hu
    have e : (⟨b, o, none⟩ : Addr).add j = ⟨b, o + j, none⟩ := by unfold Addr.add; split <;> simp_all
    rw [e] at this
    exact this
theorem src_nil (w : World) (sz : Nat) (c : Nat) : Src w sz (.slice none 0 c) 0 [] := ⟨by simp, _, _, rfl, fun _ => rfl, fun _ h => by cases h⟩
theorem adds_one (w : World) : Adds w [] [w.heap.size] := fun i hi => .inr (by simp at hi; omega)
/-- What a call made is all that it turns. -/
theorem own_step {w a b : World} {F F' : List Nat} (hK : Keeps [] w a) (hF : Adds w [] F) (hadd : Adds a F F') (hk : Keeps F a b) : Keeps [] w b ∧ Adds w [] F' :=
  ⟨hK.trans hk hF, hF.trans hadd hK.size⟩
theorem apart_nil (F : List Nat) : Apart F [] := fun _ _ h => by cases h
/-- New blocks of one call are apart from those of an earlier one. -/
theorem apart_new {w : World} {F G : List Nat} (hi : In w F) (ha : Adds w [] G) : Apart F G := (Apart.new ha hi).symm
theorem Own.drew {w : World} {e : TypeId} {sz n : Nat} {v : Value} {xs : List Value} (h : Own w e sz v n xs) : Own w.drew e sz v n xs := h
theorem Own.alloc {w : World} {e : TypeId} {sz n : Nat} {v : Value} {xs : List Value} (h : Own w e sz v n xs) (o : Obj) : Own (w.alloc o) e sz v n xs := h.keep ((Keeps.refl [] w).alloc o) (by simp)
theorem Src.drew {w : World} {sz n : Nat} {v : Value} {xs : List Value} (h : Src w sz v n xs) : Src w.drew sz v n xs := h
end Go.Proofs.Ytcfglfnncpcfoaa

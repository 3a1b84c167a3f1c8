/- string to []byte, and a byte changed. -/
import Derived.Test.YtcfglfnncpcfoaaConv
namespace Go.Proofs.Ytcfglfnncpcfoaa
open Go.RowKit
/-- Block g holds the bytes l (and perhaps more). -/
def By (w : World) (g : Nat) (l : List UInt8) : Prop := ∃ cs : Array Value, w.heap[g]? = some (.cells cs 5 (cs.size, cs.size + 1)) ∧ ∀ (j : Nat) (b : UInt8), l[j]? = some b → cs[j]? = some (Value.int .u8 (b.toNat : Int))
theorem By.cell {w : World} {g : Nat} {l : List UInt8} (h : By w g l) {j : Nat} {b : UInt8} (hj : l[j]? = some b) : w.cell? ⟨g, j, none⟩ = some (.int .u8 (b.toNat : Int)) := by
  obtain ⟨cs, h1, h2⟩ := h
  rw [cell_of_row w g j cs 5 _ h1, h2 j b hj]
theorem By.free {w : World} {g : Nat} {l : List UInt8} (h : By w g l) {j : Nat} (hj : j < l.length) : w.frozen? ⟨g, j, none⟩ = false := by
  obtain ⟨cs, h1, h2⟩ := h
  have h3 := h2 j l[j] (List.getElem?_eq_getElem hj)
  obtain ⟨h4, -⟩ := Array.getElem?_eq_some_iff.1 h3
  unfold World.frozen?
  simp only [h1]
  have h5 : ¬ cs.size ≤ j := by omega
  simp [h5]
theorem By.keep {w w' : World} {g : Nat} {l : List UInt8} {F : List Nat} (h : By w g l) (k : Keeps F w w') (hn : g ∉ F) : By w' g l := by
  obtain ⟨cs, h1, h2⟩ := h
  exact ⟨cs, (k.block g (Array.getElem?_eq_some_iff.1 h1).1 hn).trans h1, h2⟩
theorem By.set {w : World} {g : Nat} {l : List UInt8} (h : By w g l) (k : Nat) (b : UInt8) : By (w.setCell ⟨g, k, none⟩ (.int .u8 (b.toNat : Int))) g (l.set k b) := by
  obtain ⟨cs, h1, h2⟩ := h
  refine ⟨cs.setIfInBounds k (.int .u8 (b.toNat : Int)), ?_, fun j c hj => ?_⟩
  · simp [World.setCell, Array.getElem?_modify, h1]
  · rw [List.getElem?_set] at hj
    rw [Array.getElem?_setIfInBounds]
    by_cases hk : k = j
    · subst hk
      rw [if_pos rfl] at hj
      have hl : k < l.length := by
        by_cases h9 : k < l.length
        · exact h9
        · rw [if_neg h9] at hj; cases hj
      rw [if_pos hl] at hj
      injection hj with hj
      subst hj
      obtain ⟨h4, -⟩ := Array.getElem?_eq_some_iff.1 (h2 k l[k] (List.getElem?_eq_getElem hl))
      rw [if_pos rfl, if_pos h4]
    · rw [if_neg hk] at hj
      rw [if_neg hk]
      exact h2 j c hj
theorem By.src {w : World} {g : Nat} {l : List UInt8} (h : By w g l) (c : Nat) : Src w 1 (.slice (some ⟨g, 0, none⟩) l.length c) l.length (bv l) := by
  refine ⟨by rw [bv_length, Nat.mul_one], _, _, rfl, fun h => (by cases h), fun ad had j u hu => ?_⟩
  injection had with had
  subst had
  rw [bv, List.getElem?_map] at hu
  cases hb : l[j]? with
  | none => rw [hb] at hu; cases hu
  | some b =>
    rw [hb] at hu
    injection hu with hu
    subst hu
    have h1 := h.cell hb
    have e : (⟨g, 0, none⟩ : Addr).add j = ⟨g, j, none⟩ := by simp [Addr.add]; exact fun h => h.symm
    rw [e]; exact h1
theorem By.new (w : World) (s : ByteArray) : By (Lib.bytesWorld w 5 s) w.heap.size s.data.toList := by
  refine ⟨Lib.bytesCells w 5 s, Lib.bytesWorld_at_new w 5 s, fun j b hj => ?_⟩
  have hlt : j < s.size := by
    have := (List.getElem?_eq_some_iff.1 hj).1
    rwa [Array.length_toList] at this
  have h1 := Lib.bytesWorld_cell w 5 s j hlt
  rw [cell_of_row _ _ j _ 5 _ (Lib.bytesWorld_at_new w 5 s)] at h1
  rw [h1, List.getD, hj]
  rfl
theorem keeps_bytes (w : World) (s : ByteArray) : Keeps [] w (Lib.bytesWorld w 5 s) :=
  ⟨rfl, rfl, rfl, by rw [Lib.bytesWorld_size]; omega, fun j hj _ => Lib.bytesWorld_at_old w 5 s j hj⟩
end Go.Proofs.Ytcfglfnncpcfoaa

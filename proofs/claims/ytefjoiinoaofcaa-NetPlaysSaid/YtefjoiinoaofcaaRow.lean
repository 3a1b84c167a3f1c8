/- Rows of parcels and of troubles in memory: their cells. -/
import Derived.Test.YtefjoiinoaofcaaMem2
import Derived.Test.YtefjoiinoaofcaaBag
namespace Go.Proofs.Ytefjoiinoaofcaa
open Go.RowKit

def Par.cells (p : Par) : List Value := [.int .i64 p.fr, .int .i64 p.to, .int .i64 p.num, .string p.tx, .int .i64 p.time, .int .i64 p.sent]
/-- The cells of a list of parcels. -/
def pcs (L : List Par) : List Value := L.flatMap Par.cells
theorem pcs_cons (p : Par) (L : List Par) : pcs (p :: L) = .int .i64 p.fr :: .int .i64 p.to :: .int .i64 p.num :: .string p.tx :: .int .i64 p.time :: .int .i64 p.sent :: pcs L := rfl
theorem pcs_length : ∀ L : List Par, (pcs L).length = L.length * 6
  | [] => rfl
  | p :: L => by rw [pcs_cons]; simp [pcs_length L]; omega
theorem pcs_append (L M : List Par) : pcs (L ++ M) = pcs L ++ pcs M := by simp [pcs]
theorem pcs_at : ∀ (L : List Par) (i : Nat), i < L.length → (pcs L)[i * 6]? = some (.int .i64 (at_ L i).fr) ∧ (pcs L)[i * 6 + 1]? = some (.int .i64 (at_ L i).to) ∧ (pcs L)[i * 6 + 2]? = some (.int .i64 (at_ L i).num) ∧
    (pcs L)[i * 6 + 3]? = some (.string (at_ L i).tx) ∧ (pcs L)[i * 6 + 4]? = some (.int .i64 (at_ L i).time) ∧ (pcs L)[i * 6 + 5]? = some (.int .i64 (at_ L i).sent)
  | [], i, h => by simp at h
  | p :: L, 0, _ => by rw [pcs_cons]; exact ⟨rfl, rfl, rfl, rfl, rfl, rfl⟩
  | p :: L, i + 1, h => by
    have ih := pcs_at L i (by simpa using h)
    have e : at_ (p :: L) (i + 1) = at_ L i := by simp [at_]
    rw [e, pcs_cons, show (i + 1) * 6 = i * 6 + 6 by omega]
    exact ⟨by simpa using ih.1, by simpa using ih.2.1, by simpa using ih.2.2.1, by simpa using ih.2.2.2.1, by simpa using ih.2.2.2.2.1, by simpa using ih.2.2.2.2.2⟩
theorem pcs_take : ∀ (L : List Par) (n : Nat), (pcs L).take (n * 6) = pcs (L.take n)
  | [], n => by simp [pcs]
  | p :: L, 0 => by simp [pcs]
  | p :: L, n + 1 => by
    rw [List.take_succ_cons, pcs_cons, pcs_cons, show (n + 1) * 6 = n * 6 + 6 by omega]
    simp [pcs_take L n]
theorem pcs_drop : ∀ (L : List Par) (n : Nat), (pcs L).drop (n * 6) = pcs (L.drop n)
  | [], n => by simp [pcs]
  | p :: L, 0 => by simp [pcs]
  | p :: L, n + 1 => by
    rw [List.drop_succ_cons, pcs_cons, show (n + 1) * 6 = n * 6 + 6 by omega]
    simp [pcs_drop L n]
theorem pcs_one (L : List Par) : ∀ u ∈ pcs L, u.oneCell' = true := by
  intro u hu
  unfold pcs at hu
  rw [List.mem_flatMap] at hu
  obtain ⟨p, _, hp⟩ := hu
  simp [Par.cells] at hp
  rcases hp with rfl | rfl | rfl | rfl | rfl | rfl <;> rfl
/-- Six cells stored over place i. -/
def set6 (l : List Value) (o : Nat) (p : Par) : List Value :=
  (((((l.set o (.int .i64 p.fr)).set (o + 1) (.int .i64 p.to)).set (o + 2) (.int .i64 p.num)).set (o + 3) (.string p.tx)).set (o + 4) (.int .i64 p.time)).set (o + 5) (.int .i64 p.sent)
theorem set6_pcs : ∀ (L : List Par) (i : Nat) (p : Par), i < L.length → set6 (pcs L) (i * 6) p = pcs (L.set i p)
  | [], i, p, h => by simp at h
  | q :: L, 0, p, _ => by rw [pcs_cons]; simp [set6, pcs_cons]
  | q :: L, i + 1, p, h => by
    have ih := set6_pcs L i p (by simpa using h)
    rw [List.set_cons_succ, pcs_cons, pcs_cons, ← ih, show (i + 1) * 6 = i * 6 + 6 by omega]
    simp [set6]
theorem set6_take (l : List Value) (o m : Nat) (p : Par) : (set6 l o p).take m = set6 (l.take m) o p := by
  simp [set6, List.take_set]

structure Tr where
  lost : Bool
  copies : Int
  delay : Int
def Tr.cells (t : Tr) : List Value := [.bool t.lost, .int .i64 t.copies, .int .i64 t.delay]
def trs (l : List Tr) : List Value := l.flatMap Tr.cells
def trAt (l : List Tr) (i : Nat) : Tr := l.getD i ⟨false, 1, 1⟩
theorem trs_cons (t : Tr) (l : List Tr) : trs (t :: l) = .bool t.lost :: .int .i64 t.copies :: .int .i64 t.delay :: trs l := rfl
theorem trs_append (L M : List Tr) : trs (L ++ M) = trs L ++ trs M := by simp [trs]
theorem trs_length : ∀ L : List Tr, (trs L).length = L.length * 3
  | [] => rfl
  | p :: L => by rw [trs_cons]; simp [trs_length L]; omega
theorem trs_at : ∀ (L : List Tr) (i : Nat), i < L.length → (trs L)[i * 3]? = some (.bool (trAt L i).lost) ∧ (trs L)[i * 3 + 1]? = some (.int .i64 (trAt L i).copies) ∧ (trs L)[i * 3 + 2]? = some (.int .i64 (trAt L i).delay)
  | [], i, h => by simp at h
  | p :: L, 0, _ => by rw [trs_cons]; exact ⟨rfl, rfl, rfl⟩
  | p :: L, i + 1, h => by
    have ih := trs_at L i (by simpa using h)
    have e : trAt (p :: L) (i + 1) = trAt L i := by simp [trAt]
    rw [e, trs_cons, show (i + 1) * 3 = i * 3 + 3 by omega]
    exact ⟨by simpa using ih.1, by simpa using ih.2.1, by simpa using ih.2.2⟩
theorem trs_one (L : List Tr) : ∀ u ∈ trs L, u.oneCell' = true := by
  intro u hu
  unfold trs at hu
  rw [List.mem_flatMap] at hu
  obtain ⟨p, _, hp⟩ := hu
  simp [Tr.cells] at hp
  rcases hp with rfl | rfl | rfl <;> rfl
end Go.Proofs.Ytefjoiinoaofcaa

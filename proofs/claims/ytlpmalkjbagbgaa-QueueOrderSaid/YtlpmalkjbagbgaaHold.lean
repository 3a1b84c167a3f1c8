/- Holds as plain data, and as cells. -/
import Derived.Test.YtlpmalkjbagbgaaMem2
import Derived.Test.YtlpmalkjbagbgaaRows
import Derived.Laws.Cells
import Derived.Lib.SliceRun
namespace Go.Proofs.Ytlpmalkjbagbgaa
open Go.RowKit

structure Hold where
  id : Int
  patron : Int
  item : Int
  src : Int
  num : Int
  pickup : Int
  till : Int
  time : Int
  site : Int
  stamp : Int
deriving DecidableEq, Inhabited

def hc (h : Hold) : List Value := [.int .i64 h.id, .int .i64 h.patron, .int .i64 h.item, .int .i64 h.src, .int .i64 h.num, .int .i64 h.pickup, .int .i64 h.till, .int .i64 h.time, .int .i64 h.site, .int .i64 h.stamp]
def hv (h : Hold) : Value := .agg (hc h).toArray
def hcs (L : List Hold) : List Value := L.flatMap hc
@[simp] theorem hc_length (h : Hold) : (hc h).length = 10 := rfl
@[simp] theorem hcs_length (L : List Hold) : (hcs L).length = L.length * 10 := by
  induction L with
  | nil => rfl
  | cons a t ih => simp [hcs] at ih ⊢; omega
theorem hcs_one (L : List Hold) (u : Value) (h : u ∈ hcs L) : u.oneCell' = true := by
  simp only [hcs, List.mem_flatMap] at h
  obtain ⟨a, _, ha⟩ := h
  simp only [hc, List.mem_cons, List.not_mem_nil, or_false] at ha
  rcases ha with rfl | rfl | rfl | rfl | rfl | rfl | rfl | rfl | rfl | rfl <;> rfl
theorem hcs_append (L M : List Hold) : hcs (L ++ M) = hcs L ++ hcs M := by simp [hcs]
theorem hcs_take : ∀ (L : List Hold) (m : Nat), (hcs L).take (m * 10) = hcs (L.take m)
  | [], m => by simp [hcs]
  | a :: t, 0 => by simp [hcs]
  | a :: t, m + 1 => by
    have := hcs_take t m
    simp only [hcs, List.flatMap_cons, List.take_succ_cons] at this ⊢
    rw [List.take_append, hc_length, show (m + 1) * 10 - 10 = m * 10 by omega, this, List.take_of_length_le (by simp; omega)]
theorem hcs_drop : ∀ (L : List Hold) (m : Nat), (hcs L).drop (m * 10) = hcs (L.drop m)
  | [], m => by simp [hcs]
  | a :: t, 0 => by simp [hcs]
  | a :: t, m + 1 => by
    have := hcs_drop t m
    simp only [hcs, List.flatMap_cons, List.drop_succ_cons] at this ⊢
    rw [List.drop_append, hc_length, show (m + 1) * 10 - 10 = m * 10 by omega, this, List.drop_eq_nil_of_le (by simp; omega), List.nil_append]
theorem hcs_at (L : List Hold) (k : Nat) (hk : k < L.length) (i : Nat) (v : Value) (hi : (hc L[k])[i]? = some v) : (hcs L)[k * 10 + i]? = some v := by
  have h1 : (hcs L).drop (k * 10) = hc L[k] ++ hcs (L.drop (k + 1)) := by
    rw [hcs_drop, List.drop_eq_getElem_cons hk]
    rfl
  have hil : i < 10 := by have := (List.getElem?_eq_some_iff.1 hi).1; simpa using this
  rw [← List.getElem?_drop, h1, List.getElem?_append_left (by simpa using hil)]
  exact hi

/-- A slice of holds. -/
abbrev HS (w : World) (v : Value) (L : List Hold) : Prop := Src w 10 v L.length (hcs L)
abbrev HO (w : World) (v : Value) (L : List Hold) : Prop := Own w 28 10 v L.length (hcs L)

theorem load_list {P : Program} {w : World} {a : Addr} (cs : List Value) {k : Nat} (hk : cs.length = k) (h : ∀ j v, cs[j]? = some v → w.cell? (a.add j) = some v) :
    Sem.run P (loadCellsFrom a 0 k #[]) w = .ok cs.toArray w := by
  have := run_loadCells_list (P := P) (w := w) a cs h
  rw [hk] at this
  simpa [loadCells] using this
/-- One hold of a slice, loaded. -/
theorem hold_load {P : Program} {w : World} {b o : Nat} {L : List Hold} (hcell : ∀ j u, (hcs L)[j]? = some u → w.cell? ⟨b, o + j, none⟩ = some u) (k : Nat) (hk : k < L.length) :
    Sem.run P (loadCellsFrom ⟨b, o + k * 10, none⟩ 0 10 #[]) w = .ok (hc L[k]).toArray w :=
  load_list (hc L[k]) rfl (fun i v hi => by
    rw [Addr.add_lit]
    have := hcell _ _ (hcs_at L k hk i v hi)
    rw [← Nat.add_assoc] at this
    exact this)
/-- The cells of one hold of a slice. -/
theorem hold_cells {w : World} {b o : Nat} {L : List Hold} (hcell : ∀ j u, (hcs L)[j]? = some u → w.cell? ⟨b, o + j, none⟩ = some u) (k : Nat) (hk : k < L.length) :
    w.cell? ⟨b, o + k * 10, none⟩ = some (.int .i64 L[k].id) ∧ w.cell? ⟨b, o + k * 10 + 1, none⟩ = some (.int .i64 L[k].patron) ∧ w.cell? ⟨b, o + k * 10 + 2, none⟩ = some (.int .i64 L[k].item) ∧ w.cell? ⟨b, o + k * 10 + 3, none⟩ = some (.int .i64 L[k].src) ∧ w.cell? ⟨b, o + k * 10 + 4, none⟩ = some (.int .i64 L[k].num) ∧ w.cell? ⟨b, o + k * 10 + 5, none⟩ = some (.int .i64 L[k].pickup) ∧ w.cell? ⟨b, o + k * 10 + 6, none⟩ = some (.int .i64 L[k].till) ∧ w.cell? ⟨b, o + k * 10 + 7, none⟩ = some (.int .i64 L[k].time) ∧ w.cell? ⟨b, o + k * 10 + 8, none⟩ = some (.int .i64 L[k].site) ∧ w.cell? ⟨b, o + k * 10 + 9, none⟩ = some (.int .i64 L[k].stamp) := by
  have h : ∀ i v, (hc L[k])[i]? = some v → w.cell? ⟨b, o + k * 10 + i, none⟩ = some v := fun i v hi => by
    have := hcell _ _ (hcs_at L k hk i v hi)
    rw [← Nat.add_assoc] at this
    exact this
  exact ⟨h 0 _ rfl, h 1 _ rfl, h 2 _ rfl, h 3 _ rfl, h 4 _ rfl, h 5 _ rfl, h 6 _ rfl, h 7 _ rfl, h 8 _ rfl, h 9 _ rfl⟩
/-- The cells of a boxed hold. -/
theorem box_cells {w : World} {b : Nat} {h : Hold} (hb : Bk w b 28 (hc h).toArray) :
    w.cell? ⟨b, 0, none⟩ = some (.int .i64 h.id) ∧ w.cell? ⟨b, 1, none⟩ = some (.int .i64 h.patron) ∧ w.cell? ⟨b, 2, none⟩ = some (.int .i64 h.item) ∧ w.cell? ⟨b, 3, none⟩ = some (.int .i64 h.src) ∧ w.cell? ⟨b, 4, none⟩ = some (.int .i64 h.num) ∧ w.cell? ⟨b, 5, none⟩ = some (.int .i64 h.pickup) ∧ w.cell? ⟨b, 6, none⟩ = some (.int .i64 h.till) ∧ w.cell? ⟨b, 7, none⟩ = some (.int .i64 h.time) ∧ w.cell? ⟨b, 8, none⟩ = some (.int .i64 h.site) ∧ w.cell? ⟨b, 9, none⟩ = some (.int .i64 h.stamp) := by
  exact ⟨hb.cell 0, hb.cell 1, hb.cell 2, hb.cell 3, hb.cell 4, hb.cell 5, hb.cell 6, hb.cell 7, hb.cell 8, hb.cell 9⟩
/-- A hold as a value, written out. -/
abbrev hvl (h : Hold) : Value := .agg #[.int .i64 h.id, .int .i64 h.patron, .int .i64 h.item, .int .i64 h.src, .int .i64 h.num, .int .i64 h.pickup, .int .i64 h.till, .int .i64 h.time, .int .i64 h.site, .int .i64 h.stamp]
end Go.Proofs.Ytlpmalkjbagbgaa

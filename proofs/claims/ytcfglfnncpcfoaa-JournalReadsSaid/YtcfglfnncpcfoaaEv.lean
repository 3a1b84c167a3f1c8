/- Events as plain data, and as cells. -/
import Derived.Test.YtcfglfnncpcfoaaMem2
import Derived.Test.YtcfglfnncpcfoaaRows
import Derived.Laws.Cells
import Derived.Laws.Rows
import Derived.Lib.SliceRun
namespace Go.Proofs.Ytcfglfnncpcfoaa
open Go.RowKit

structure Ev where
  t : Int
  s : Int
  n : Int
  kind : Int
  item : Int
  patron : Int
  branch : Int
  hold : Int
  day : Int
  amount : Int
  version : Int
  fund : Int
  order : Int
  rs : Int
  rn : Int
  os : Int
  on : Int
  x : ByteArray
deriving DecidableEq

def ec (e : Ev) : List Value := [.int .i64 e.t, .int .i64 e.s, .int .i64 e.n, .int .i64 e.kind, .int .i64 e.item, .int .i64 e.patron, .int .i64 e.branch, .int .i64 e.hold, .int .i64 e.day, .int .i64 e.amount, .int .i64 e.version, .int .i64 e.fund, .int .i64 e.order, .int .i64 e.rs, .int .i64 e.rn, .int .i64 e.os, .int .i64 e.on, .string e.x]
def ev (e : Ev) : Value := .agg (ec e).toArray
def ecs (L : List Ev) : List Value := L.flatMap ec
/-- An event as a value, written out. -/
abbrev evl (e : Ev) : Value := .agg #[.int .i64 e.t, .int .i64 e.s, .int .i64 e.n, .int .i64 e.kind, .int .i64 e.item, .int .i64 e.patron, .int .i64 e.branch, .int .i64 e.hold, .int .i64 e.day, .int .i64 e.amount, .int .i64 e.version, .int .i64 e.fund, .int .i64 e.order, .int .i64 e.rs, .int .i64 e.rn, .int .i64 e.os, .int .i64 e.on, .string e.x]
/-- A stamp as a value. -/
abbrev sv (t s n : Int) : Value := .agg #[.int .i64 t, .int .i64 s, .int .i64 n]
@[simp] theorem ec_length (e : Ev) : (ec e).length = 18 := rfl
@[simp] theorem ecs_length (L : List Ev) : (ecs L).length = L.length * 18 := by
  induction L with
  | nil => rfl
  | cons a t ih => simp [ecs] at ih ⊢; omega
theorem ec_one (e : Ev) (u : Value) (h : u ∈ ec e) : u.oneCell' = true := by
  simp only [ec, List.mem_cons, List.not_mem_nil, or_false] at h
  rcases h with rfl | rfl | rfl | rfl | rfl | rfl | rfl | rfl | rfl | rfl | rfl | rfl | rfl | rfl | rfl | rfl | rfl | rfl <;> rfl
theorem ecs_one (L : List Ev) (u : Value) (h : u ∈ ecs L) : u.oneCell' = true := by
  simp only [ecs, List.mem_flatMap] at h
  obtain ⟨a, _, ha⟩ := h
  exact ec_one a u ha
theorem ecs_append (L M : List Ev) : ecs (L ++ M) = ecs L ++ ecs M := by simp [ecs]
theorem ecs_single (e : Ev) : ecs [e] = ec e := by simp [ecs]
theorem ecs_take : ∀ (L : List Ev) (m : Nat), (ecs L).take (m * 18) = ecs (L.take m)
  | [], m => by simp [ecs]
  | a :: t, 0 => by simp [ecs]
  | a :: t, m + 1 => by
    have := ecs_take t m
    simp only [ecs, List.flatMap_cons, List.take_succ_cons] at this ⊢
    rw [List.take_append, ec_length, show (m + 1) * 18 - 18 = m * 18 by omega, this, List.take_of_length_le (by simp; omega)]
theorem ecs_drop : ∀ (L : List Ev) (m : Nat), (ecs L).drop (m * 18) = ecs (L.drop m)
  | [], m => by simp [ecs]
  | a :: t, 0 => by simp [ecs]
  | a :: t, m + 1 => by
    have := ecs_drop t m
    simp only [ecs, List.flatMap_cons, List.drop_succ_cons] at this ⊢
    rw [List.drop_append, ec_length, show (m + 1) * 18 - 18 = m * 18 by omega, this, List.drop_eq_nil_of_le (by simp; omega), List.nil_append]
theorem ecs_at (L : List Ev) (k : Nat) (hk : k < L.length) (i : Nat) (v : Value) (hi : (ec L[k])[i]? = some v) : (ecs L)[k * 18 + i]? = some v := by
  have h1 : (ecs L).drop (k * 18) = ec L[k] ++ ecs (L.drop (k + 1)) := by
    rw [ecs_drop, List.drop_eq_getElem_cons hk]
    rfl
  have hil : i < 18 := by have := (List.getElem?_eq_some_iff.1 hi).1; simpa using this
  rw [← List.getElem?_drop, h1, List.getElem?_append_left (by simpa using hil)]
  exact hi
/-- A slice of events. -/
abbrev ES (w : World) (v : Value) (L : List Ev) : Prop := Src w 18 v L.length (ecs L)
abbrev EO (w : World) (v : Value) (L : List Ev) : Prop := Own w 27 18 v L.length (ecs L)
/-- An event lies at b, o. -/
def EvAt (w : World) (b o : Nat) (e : Ev) : Prop := ∀ i v, (ec e)[i]? = some v → w.cell? ⟨b, o + i, none⟩ = some v
theorem evAt_of {w : World} {b o : Nat} {L : List Ev} (hcell : ∀ j u, (ecs L)[j]? = some u → w.cell? ⟨b, o + j, none⟩ = some u) (k : Nat) (hk : k < L.length) : EvAt w b (o + k * 18) L[k] := fun i v hi => by
  have := hcell _ _ (ecs_at L k hk i v hi)
  rw [← Nat.add_assoc] at this
  exact this
theorem EvAt.box {w : World} {b : Nat} {t : TypeId} {e : Ev} (h : Bk w b t (ec e).toArray) : EvAt w b 0 e := fun i v hi => by
  rw [Nat.zero_add, h.cell i]
  simpa using hi
theorem EvAt.keep {w w' : World} {b o : Nat} {e : Ev} (h : EvAt w b o e) (k : Keeps [] w w') : EvAt w' b o e := fun i v hi => k.cell (h i v hi)
theorem EvAt.stamp {w : World} {b o : Nat} {e : Ev} (h : EvAt w b o e) : w.cell? ⟨b, o, none⟩ = some (.int .i64 e.t) ∧ w.cell? ⟨b, o + 1, none⟩ = some (.int .i64 e.s) ∧ w.cell? ⟨b, o + 2, none⟩ = some (.int .i64 e.n) := ⟨h 0 _ rfl, h 1 _ rfl, h 2 _ rfl⟩
theorem EvAt.cells {w : World} {b o : Nat} {e : Ev} (h : EvAt w b o e) :
    w.cell? ⟨b, o, none⟩ = some (.int .i64 e.t) ∧ w.cell? ⟨b, o + 1, none⟩ = some (.int .i64 e.s) ∧ w.cell? ⟨b, o + 2, none⟩ = some (.int .i64 e.n) ∧ w.cell? ⟨b, o + 3, none⟩ = some (.int .i64 e.kind) ∧ w.cell? ⟨b, o + 4, none⟩ = some (.int .i64 e.item) ∧ w.cell? ⟨b, o + 5, none⟩ = some (.int .i64 e.patron) ∧
    w.cell? ⟨b, o + 6, none⟩ = some (.int .i64 e.branch) ∧ w.cell? ⟨b, o + 7, none⟩ = some (.int .i64 e.hold) ∧ w.cell? ⟨b, o + 8, none⟩ = some (.int .i64 e.day) ∧ w.cell? ⟨b, o + 9, none⟩ = some (.int .i64 e.amount) ∧ w.cell? ⟨b, o + 10, none⟩ = some (.int .i64 e.version) ∧ w.cell? ⟨b, o + 11, none⟩ = some (.int .i64 e.fund) ∧
    w.cell? ⟨b, o + 12, none⟩ = some (.int .i64 e.order) ∧ w.cell? ⟨b, o + 13, none⟩ = some (.int .i64 e.rs) ∧ w.cell? ⟨b, o + 14, none⟩ = some (.int .i64 e.rn) ∧ w.cell? ⟨b, o + 15, none⟩ = some (.int .i64 e.os) ∧ w.cell? ⟨b, o + 16, none⟩ = some (.int .i64 e.on) ∧ w.cell? ⟨b, o + 17, none⟩ = some (.string e.x) :=
  ⟨h 0 _ rfl, h 1 _ rfl, h 2 _ rfl, h 3 _ rfl, h 4 _ rfl, h 5 _ rfl, h 6 _ rfl, h 7 _ rfl, h 8 _ rfl, h 9 _ rfl, h 10 _ rfl, h 11 _ rfl, h 12 _ rfl, h 13 _ rfl, h 14 _ rfl, h 15 _ rfl, h 16 _ rfl, h 17 _ rfl⟩
end Go.Proofs.Ytcfglfnncpcfoaa

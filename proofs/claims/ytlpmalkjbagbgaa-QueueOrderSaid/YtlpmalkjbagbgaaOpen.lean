/- The arguments of this seat's laws, opened. -/
import Derived.Test.YtlpmalkjbagbgaaArgs
import Derived.Test.YtlpmalkjbagbgaaPuts
namespace Go.Proofs.Ytlpmalkjbagbgaa
open Go.ChangeShapes Go.WideShapes Go.RowKit Go.Deep
/-- Cells that are all integers. -/
theorem all_ints {P : Program} (u3 : P.underlying 3 = some (.int .i64)) : ∀ (n : Nat) (cs : List Value), cs.length = n → (∀ i, i < n → ∃ u, cs[i]? = some u ∧ Leaf P 3 u) → ∃ xs : List Int, xs.length = n ∧ cs = xs.map (Value.int .i64) ∧ ∀ x ∈ xs, -9223372036854775808 ≤ x ∧ x ≤ 9223372036854775807
  | 0, cs, hl, _ => ⟨[], rfl, by simpa using hl, by simp⟩
  | n + 1, [], hl, _ => by simp at hl
  | n + 1, c :: cs, hl, h => by
    obtain ⟨xs, h1, h2, h3⟩ := all_ints u3 n cs (by simpa using hl) (fun i hi => by simpa using h (i + 1) (by omega))
    obtain ⟨u, hu, hL⟩ := h 0 (by omega)
    obtain ⟨x, rfl, hw⟩ := hL.int u3
    simp at hu
    subst hu
    exact ⟨x :: xs, by simp [h1], by simp [h2], fun y hy => by
      rw [List.mem_cons] at hy
      rcases hy with rfl | hy
      · exact wf_i64 hw
      · exact h3 y hy⟩
theorem ints_of {P : Program} (u3 : P.underlying 3 = some (.int .i64)) {n : Nat} {cs : List Value} {f : List (Nat × TypeId)} (hf : f = (List.range n).map (fun i => (i, 3))) (hl : cs.length = n) (hy : ∀ y ∈ f, ∃ u, cs[y.1]? = some u ∧ Leaf P y.2 u) :
    ∃ xs : List Int, xs.length = n ∧ cs = xs.map (Value.int .i64) ∧ ∀ x ∈ xs, -9223372036854775808 ≤ x ∧ x ≤ 9223372036854775807 := by
  subst hf
  exact all_ints u3 n cs hl (fun i hi => hy (i, 3) (List.mem_map.2 ⟨i, by simpa using hi, rfl⟩))
theorem flat28 : flat Try.prog 3 28 = (List.range 10).map (fun i => (i, 3)) := by kernel_rfl
theorem cells28 : Try.prog.cellsOf 28 = 10 := by kernel_rfl
theorem bytes28 : Try.prog.bytesOf 28 = 80 := by kernel_rfl
theorem plain28 : ((flat Try.prog 3 28).all fun y => plainT Try.prog y.2) = true := by kernel_rfl
theorem flat54 : flat Try.prog 3 54 = (List.range 4).map (fun i => (i, 3)) := by kernel_rfl
theorem cells54 : Try.prog.cellsOf 54 = 4 := by kernel_rfl
theorem bytes54 : Try.prog.bytesOf 54 = 32 := by kernel_rfl
theorem plain54 : ((flat Try.prog 3 54).all fun y => plainT Try.prog y.2) = true := by kernel_rfl
theorem flat39 : flat Try.prog 3 39 = (List.range 4).map (fun i => (i, 3)) := by kernel_rfl
theorem cells39 : Try.prog.cellsOf 39 = 4 := by kernel_rfl
theorem plain39 : ((flat Try.prog 3 39).all fun y => plainT Try.prog y.2) = true := by kernel_rfl
theorem flat46 : flat Try.prog 3 46 = (List.range 3).map (fun i => (i, 3)) := by kernel_rfl
theorem cells46 : Try.prog.cellsOf 46 = 3 := by kernel_rfl
theorem plain46 : ((flat Try.prog 3 46).all fun y => plainT Try.prog y.2) = true := by kernel_rfl
theorem flat5 : flat Try.prog 1 5 = [(0, 5)] := by kernel_rfl
theorem cells5 : Try.prog.cellsOf 5 = 1 := by kernel_rfl
theorem bytes5 : Try.prog.bytesOf 5 = 1 := by kernel_rfl
theorem plain5 : ((flat Try.prog 1 5).all fun y => plainT Try.prog y.2) = true := by kernel_rfl
theorem hold_of {cs : List Value} {xs : List Int} (hl : xs.length = 10) (he : cs = xs.map (Value.int .i64)) : ∃ h : Hold, cs = hc h := by
  subst he
  match xs, hl with
  | [a, b, c, d, e, f, g, h, i, j], _ => exact ⟨⟨a, b, c, d, e, f, g, h, i, j⟩, rfl⟩
theorem sm_of {cs : List Value} {xs : List Int} (hl : xs.length = 4) (he : cs = xs.map (Value.int .i64)) : ∃ s : Sm, cs = sc s := by
  subst he
  match xs, hl with
  | [a, b, c, d], _ => exact ⟨⟨a, b, c, d⟩, rfl⟩
section
variable {H : Type} {enc : TypeId × Value → H} {w : World} {base b0 : Nat} {spare : Nat → Bool} {held : Bool} {r : Reach} {v : Value} {d : DataW H} {p : List MemPlace}
theorem slice_caps {P : Program} {t e : TypeId} {A : Option Addr} {len cap : Nat} (ht : P.underlying t = some (.slice e)) (h : DataW.Trod enc P w base spare held t (.slice A len cap) d p) : len ≤ cap ∧ cap ≤ 9223372036854775807 ∧ (A = none → cap = 0) := by
  obtain ⟨fuel, hf⟩ := h
  rcases open_slice ht hf with ⟨hcs, _⟩ | ⟨a, len', cap', m, n', D, Pl, hcs, _, hl, hm, _⟩
  · simp [Value.cells] at hcs
    omega
  · simp [Value.cells] at hcs
    obtain ⟨rfl, rfl, rfl⟩ := hcs
    exact ⟨hl, by simpa [maxLen] using hm, fun h => by cases h⟩
theorem open_num (hok : Value.okWide Try.prog w r b0 3 v) (h : DataW.Trod enc Try.prog w base spare held 3 v d p) : ∃ x, v = .int .i64 x ∧ -9223372036854775808 ≤ x ∧ x ≤ 9223372036854775807 := by
  obtain ⟨x, h1, h2⟩ := open_int1 Try.underlying3 hok h
  exact ⟨x, h1, wf_i64 h2⟩
theorem open_u8 (hok : Value.okWide Try.prog w r b0 5 v) (h : DataW.Trod enc Try.prog w base spare held 5 v d p) : ∃ x, v = .int .u8 x ∧ 0 ≤ x ∧ x ≤ 255 := by
  obtain ⟨x, h1, h2⟩ := open_int1 Try.underlying5 hok h
  exact ⟨x, h1, bounds_u8 h2⟩
theorem open_hs (hok : Value.okWide Try.prog w r b0 22 v) (h : DataW.Trod enc Try.prog w base spare held 22 v d p) (hz : ∀ m ∈ d.weights Try.prog 22, m ≤ reachBytes) : ∃ A l c, v = .slice A l.length c ∧ Came w A c l := by
  obtain ⟨A, len, cap, css, rfl, hlen, hsrc, hb, hcs⟩ := open_rows 3 Try.underlying22 plain28 hok h hz
  obtain ⟨q1, q2, q3⟩ := slice_caps Try.underlying22 h
  rw [cells28] at hsrc hcs
  obtain ⟨l, hl1, hl2, hl3⟩ := rows_as hc (fun _ => True) css (fun cs hc' => by
    obtain ⟨hl, hy⟩ := hcs cs hc'
    obtain ⟨xs, x1, x2, _⟩ := ints_of Try.underlying3 flat28 hl hy
    obtain ⟨h, e⟩ := hold_of x1 x2
    exact ⟨h, e, trivial⟩)
  have hll : l.length = len := by rw [hl1, hlen]
  subst hll
  refine ⟨A, l, cap, rfl, ?_, q1, q2, q3⟩
  rw [hl2] at hsrc
  exact hsrc
theorem open_ts (hok : Value.okWide Try.prog w r b0 37 v) (h : DataW.Trod enc Try.prog w base spare held 37 v d p) (hz : ∀ m ∈ d.weights Try.prog 37, m ≤ reachBytes) : ∃ A T c, v = .slice A T.length c ∧ TS w (.slice A T.length c) T ∧ T.length ≤ c ∧ c ≤ 9223372036854775807 := by
  obtain ⟨A, len, cap, css, rfl, hlen, hsrc, hb, hcs⟩ := open_rows 3 Try.underlying37 plain54 hok h hz
  obtain ⟨q1, q2, q3⟩ := slice_caps Try.underlying37 h
  rw [cells54] at hsrc hcs
  obtain ⟨l, hl1, hl2, hl3⟩ := rows_as sc (fun _ => True) css (fun cs hc' => by
    obtain ⟨hl, hy⟩ := hcs cs hc'
    obtain ⟨xs, x1, x2, _⟩ := ints_of Try.underlying3 flat54 hl hy
    obtain ⟨h, e⟩ := sm_of x1 x2
    exact ⟨h, e, trivial⟩)
  have hll : l.length = len := by rw [hl1, hlen]
  subst hll
  refine ⟨A, l, cap, rfl, ?_, q1, q2⟩
  rw [hl2] at hsrc
  exact hsrc
theorem open_hold (hok : Value.okWide Try.prog w r b0 28 v) (h : DataW.Trod enc Try.prog w base spare held 28 v d p) (hz : ∀ m ∈ d.weights Try.prog 28, m ≤ reachBytes) : ∃ x, v = hvl x := by
  obtain ⟨cs, rfl, hl, hy⟩ := open_agg 3 (.inl ⟨_, Try.fields28⟩) plain28 hok h hz
  rw [cells28] at hl
  obtain ⟨xs, x1, x2, _⟩ := ints_of Try.underlying3 flat28 hl hy
  obtain ⟨x, rfl⟩ := hold_of x1 x2
  exact ⟨x, rfl⟩
theorem open_copy (hok : Value.okWide Try.prog w r b0 39 v) (h : DataW.Trod enc Try.prog w base spare held 39 v d p) (hz : ∀ m ∈ d.weights Try.prog 39, m ≤ reachBytes) : ∃ x s n y, v = .agg #[.int .i64 x, .int .i64 s, .int .i64 n, .int .i64 y] := by
  obtain ⟨cs, rfl, hl, hy⟩ := open_agg 3 (.inl ⟨_, Try.underlying39⟩) plain39 hok h hz
  rw [cells39] at hl
  obtain ⟨xs, x1, rfl, _⟩ := ints_of Try.underlying3 flat39 hl hy
  match xs, x1 with
  | [a, b, c, d], _ => exact ⟨a, b, c, d, rfl⟩
theorem open_three (hok : Value.okWide Try.prog w r b0 46 v) (h : DataW.Trod enc Try.prog w base spare held 46 v d p) (hz : ∀ m ∈ d.weights Try.prog 46, m ≤ reachBytes) : ∃ x s n, v = .agg #[.int .i64 x, .int .i64 s, .int .i64 n] := by
  obtain ⟨cs, rfl, hl, hy⟩ := open_agg 3 (.inr ⟨_, _, Try.underlying46⟩) plain46 hok h hz
  rw [cells46] at hl
  obtain ⟨xs, x1, rfl, _⟩ := ints_of Try.underlying3 flat46 hl hy
  match xs, x1 with
  | [a, b, c], _ => exact ⟨a, b, c, rfl⟩
def ub (l : List Int) : List Value := l.map (Value.int .u8)
theorem open_bytes (hok : Value.okWide Try.prog w r b0 42 v) (h : DataW.Trod enc Try.prog w base spare held 42 v d p) (hz : ∀ m ∈ d.weights Try.prog 42, m ≤ reachBytes) :
    ∃ A l c, v = .slice A l.length c ∧ Src w 1 (.slice A l.length c) l.length (ub l) ∧ (∀ x ∈ l, 0 ≤ x ∧ x ≤ 255) ∧ l.length ≤ 9223372036854775807 := by
  obtain ⟨A, len, cap, css, rfl, hlen, hsrc, hb, hcs⟩ := open_rows 1 Try.underlying42 plain5 hok h hz
  rw [cells5] at hsrc hcs
  rw [bytes5] at hb
  obtain ⟨l, hl1, hl2, hl3⟩ := rows_as (fun x : Int => [Value.int .u8 x]) (fun x => 0 ≤ x ∧ x ≤ 255) css (fun cs hc => by
    obtain ⟨hl, hy⟩ := hcs cs hc
    rw [flat5] at hy
    obtain ⟨u0, e0, f0⟩ := hy (0, 5) (by simp)
    obtain ⟨x0, rfl, w0⟩ := f0.int Try.underlying5
    refine ⟨x0, ?_, bounds_u8 w0⟩
    match cs, hl with
    | [u], _ => simp at e0; simp [e0])
  have hll : l.length = len := by rw [hl1, hlen]
  subst hll
  refine ⟨A, l, cap, rfl, ?_, hl3, ?_⟩
  · rw [hl2] at hsrc
    have e : ∀ l : List Int, l.flatMap (fun x : Int => [Value.int .u8 x]) = ub l := fun l => by
      unfold ub; induction l with
      | nil => rfl
      | cons x l ih => simp [ih]
    rw [e] at hsrc
    exact hsrc
  · simp only [reachBytes] at hb
    omega
end
end Go.Proofs.Ytlpmalkjbagbgaa

/- The arguments of this seat's laws, opened. -/
import Derived.Test.YtbfghecemppoeaaArgs
import Derived.Test.YtbfghecemppoeaaPack
namespace Go.Proofs.Ytbfghecemppoeaa
open Go.ChangeShapes Go.WideShapes Go.RowKit Go.Deep
theorem cell1 {cs : List Value} {v : Value} (hl : cs.length = 1) (h : cs[0]? = some v) : cs = [v] := by
  match cs, hl with
  | [u], _ => simp at h; simp [h]
theorem cell2 {cs : List Value} {v u : Value} (hl : cs.length = 2) (h : cs[0]? = some v) (h' : cs[1]? = some u) : cs = [v, u] := by
  match cs, hl with
  | [a, b], _ => simp at h h'; simp [h, h']
theorem cell3 {cs : List Value} {v u x : Value} (hl : cs.length = 3) (h : cs[0]? = some v) (h' : cs[1]? = some u) (h'' : cs[2]? = some x) : cs = [v, u, x] := by
  match cs, hl with
  | [a, b, c], _ => simp at h h' h''; simp [h, h', h'']
theorem flat3 : flat Try.prog 1 3 = [(0, 3)] := by kernel_rfl
theorem cells3 : Try.prog.cellsOf 3 = 1 := by kernel_rfl
theorem bytes3 : Try.prog.bytesOf 3 = 8 := by kernel_rfl
theorem plain3 : ((flat Try.prog 1 3).all fun y => plainT Try.prog y.2) = true := by kernel_rfl
theorem flat9 : flat Try.prog 1 9 = [(0, 9)] := by kernel_rfl
theorem cells9 : Try.prog.cellsOf 9 = 1 := by kernel_rfl
theorem bytes9 : Try.prog.bytesOf 9 = 16 := by kernel_rfl
theorem plain9 : ((flat Try.prog 1 9).all fun y => plainT Try.prog y.2) = true := by kernel_rfl
theorem flat30 : flat Try.prog 2 30 = [(0, 3), (1, 3)] := by kernel_rfl
theorem cells30 : Try.prog.cellsOf 30 = 2 := by kernel_rfl
theorem bytes30 : Try.prog.bytesOf 30 = 16 := by kernel_rfl
theorem plain30 : ((flat Try.prog 2 30).all fun y => plainT Try.prog y.2) = true := by kernel_rfl
theorem flat50 : flat Try.prog 2 50 = [(0, 3), (1, 3), (2, 3)] := by kernel_rfl
theorem cells50 : Try.prog.cellsOf 50 = 3 := by kernel_rfl
theorem plain50 : ((flat Try.prog 2 50).all fun y => plainT Try.prog y.2) = true := by kernel_rfl
section
variable {H : Type} {enc : TypeId × Value → H} {w : World} {base b0 : Nat} {spare : Nat → Bool} {held : Bool} {r : Reach} {v : Value} {d : DataW H} {p : List MemPlace}
theorem slice_caps {P : Program} {t e : TypeId} {A : Option Addr} {len cap : Nat} (ht : P.underlying t = some (.slice e)) (h : DataW.Trod enc P w base spare held t (.slice A len cap) d p) : len ≤ cap ∧ cap ≤ 9223372036854775807 ∧ (A = none → cap = 0) := by
  obtain ⟨fuel, hf⟩ := h
  rcases open_slice ht hf with ⟨hcs, _⟩ | ⟨a, len', cap', m, n', D, Pl, hcs, _, hl, hm, _⟩
  · simp [Value.cells] at hcs
    omega
  · simp [Value.cells] at hcs
    obtain ⟨rfl, rfl, rfl⟩ := hcs
    exact ⟨hl, by simpa [maxLen] using hm, fun h => by cases h⟩
theorem open_num (hok : Value.okWide Try.prog w r b0 3 v) (h : DataW.Trod enc Try.prog w base spare held 3 v d p) : ∃ x, v = .int .i64 x ∧ -9223372036854775808 ≤ x ∧ x ≤ 9223372036854775807 := by
  obtain ⟨x, h1, h2⟩ := open_int1 Try.underlying3 hok h
  exact ⟨x, h1, wf_i64 h2⟩
theorem open_u8 (hok : Value.okWide Try.prog w r b0 5 v) (h : DataW.Trod enc Try.prog w base spare held 5 v d p) : ∃ x, v = .int .u8 x ∧ 0 ≤ x ∧ x ≤ 255 := by
  obtain ⟨x, h1, h2⟩ := open_int1 Try.underlying5 hok h
  exact ⟨x, h1, bounds_u8 h2⟩
theorem open_u32 (hok : Value.okWide Try.prog w r b0 23 v) (h : DataW.Trod enc Try.prog w base spare held 23 v d p) : ∃ x, v = .int .u32 x ∧ 0 ≤ x ∧ x < 4294967296 := by
  obtain ⟨x, h1, h2⟩ := open_int1 Try.underlying23 hok h
  have := bounds_u32 h2
  exact ⟨x, h1, by omega⟩
theorem open_u64 (hok : Value.okWide Try.prog w r b0 29 v) (h : DataW.Trod enc Try.prog w base spare held 29 v d p) : ∃ x : Nat, v = .int .u64 (x : Int) ∧ x < 18446744073709551616 := by
  obtain ⟨x, h1, h2⟩ := open_int1 Try.underlying29 hok h
  have := bounds_u64 h2
  exact ⟨x.toNat, by rw [h1, Int.toNat_of_nonneg (by omega)], by omega⟩
theorem open_str (hok : Value.okWide Try.prog w r b0 9 v) (h : DataW.Trod enc Try.prog w base spare held 9 v d p) (hz : ∀ m ∈ d.weights Try.prog 9, m ≤ reachBytes) : ∃ s, v = .string s ∧ s.size ≤ 140737488351232 := open_str1 Try.underlying9 hok h hz
theorem open_two (hok : Value.okWide Try.prog w r b0 30 v) (h : DataW.Trod enc Try.prog w base spare held 30 v d p) (hz : ∀ m ∈ d.weights Try.prog 30, m ≤ reachBytes) : ∃ x y, v = .agg #[.int .i64 x, .int .i64 y] ∧ (-9223372036854775808 ≤ x ∧ x ≤ 9223372036854775807) ∧ (-9223372036854775808 ≤ y ∧ y ≤ 9223372036854775807) := by
  obtain ⟨cs, rfl, hl, hy⟩ := open_agg 2 (.inr ⟨_, _, Try.underlying30⟩) plain30 hok h hz
  rw [cells30] at hl
  rw [flat30] at hy
  obtain ⟨u0, e0, f0⟩ := hy (0, 3) (by simp)
  obtain ⟨u1, e1, f1⟩ := hy (1, 3) (by simp)
  obtain ⟨x, rfl, w0⟩ := f0.int Try.underlying3
  obtain ⟨y, rfl, w1⟩ := f1.int Try.underlying3
  rw [cell2 hl e0 e1]
  exact ⟨x, y, rfl, wf_i64 w0, wf_i64 w1⟩
theorem open_three (hok : Value.okWide Try.prog w r b0 50 v) (h : DataW.Trod enc Try.prog w base spare held 50 v d p) (hz : ∀ m ∈ d.weights Try.prog 50, m ≤ reachBytes) : ∃ x y z, v = .agg #[.int .i64 x, .int .i64 y, .int .i64 z] ∧ (-9223372036854775808 ≤ x ∧ x ≤ 9223372036854775807) ∧ (-9223372036854775808 ≤ y ∧ y ≤ 9223372036854775807) ∧ (-9223372036854775808 ≤ z ∧ z ≤ 9223372036854775807) := by
  obtain ⟨cs, rfl, hl, hy⟩ := open_agg 2 (.inr ⟨_, _, Try.underlying50⟩) plain50 hok h hz
  rw [cells50] at hl
  rw [flat50] at hy
  obtain ⟨u0, e0, f0⟩ := hy (0, 3) (by simp)
  obtain ⟨u1, e1, f1⟩ := hy (1, 3) (by simp)
  obtain ⟨u2, e2, f2⟩ := hy (2, 3) (by simp)
  obtain ⟨x, rfl, w0⟩ := f0.int Try.underlying3
  obtain ⟨y, rfl, w1⟩ := f1.int Try.underlying3
  obtain ⟨z, rfl, w2⟩ := f2.int Try.underlying3
  rw [cell3 hl e0 e1 e2]
  exact ⟨x, y, z, rfl, wf_i64 w0, wf_i64 w1, wf_i64 w2⟩
/-- A list that came in. -/
structure CameS (w : World) (A : Option Addr) (c : Nat) (l : List ByteArray) : Prop where
  s : SS w (.slice A l.length c) l
  le : l.length ≤ c
  cm : c ≤ 9223372036854775807
  sz : ∀ s ∈ l, s.size ≤ 140737488351232
structure CameI (w : World) (A : Option Addr) (c : Nat) (l : List Int) : Prop where
  s : IS w (.slice A l.length c) l
  le : l.length ≤ c
  cm : c ≤ 9223372036854775807
  sz : ∀ x ∈ l, -9223372036854775808 ≤ x ∧ x ≤ 9223372036854775807
theorem open_strs (hok : Value.okWide Try.prog w r b0 43 v) (h : DataW.Trod enc Try.prog w base spare held 43 v d p) (hz : ∀ m ∈ d.weights Try.prog 43, m ≤ reachBytes) : ∃ A l c, v = .slice A l.length c ∧ CameS w A c l := by
  obtain ⟨A, len, cap, css, rfl, hlen, hsrc, hb, hcs⟩ := open_rows 1 Try.underlying43 plain9 hok h hz
  obtain ⟨q1, q2, q3⟩ := slice_caps Try.underlying43 h
  rw [cells9] at hsrc hcs
  obtain ⟨l, hl1, hl2, hl3⟩ := rows_as (fun s : ByteArray => [Value.string s]) (fun s => s.size ≤ 140737488351232) css (fun cs hc => by
    obtain ⟨hl, hy⟩ := hcs cs hc
    rw [flat9] at hy
    obtain ⟨u0, e0, f0⟩ := hy (0, 9) (by simp)
    obtain ⟨s, rfl, w0⟩ := f0.string Try.underlying9
    exact ⟨s, cell1 hl e0, w0⟩)
  have hll : l.length = len := by rw [hl1, hlen]
  subst hll
  refine ⟨A, l, cap, rfl, ?_, q1, q2, hl3⟩
  rw [hl2] at hsrc
  have e : ∀ l : List ByteArray, l.flatMap (fun s => [Value.string s]) = ssv l := fun l => by
    unfold ssv; induction l with
    | nil => rfl
    | cons x l ih => simp [ih]
  rw [e] at hsrc
  exact hsrc
theorem open_ints (hok : Value.okWide Try.prog w r b0 54 v) (h : DataW.Trod enc Try.prog w base spare held 54 v d p) (hz : ∀ m ∈ d.weights Try.prog 54, m ≤ reachBytes) : ∃ A l c, v = .slice A l.length c ∧ CameI w A c l := by
  obtain ⟨A, len, cap, css, rfl, hlen, hsrc, hb, hcs⟩ := open_rows 1 Try.underlying54 plain3 hok h hz
  obtain ⟨q1, q2, q3⟩ := slice_caps Try.underlying54 h
  rw [cells3] at hsrc hcs
  obtain ⟨l, hl1, hl2, hl3⟩ := rows_as (fun x : Int => [Value.int .i64 x]) (fun x => -9223372036854775808 ≤ x ∧ x ≤ 9223372036854775807) css (fun cs hc => by
    obtain ⟨hl, hy⟩ := hcs cs hc
    rw [flat3] at hy
    obtain ⟨u0, e0, f0⟩ := hy (0, 3) (by simp)
    obtain ⟨s, rfl, w0⟩ := f0.int Try.underlying3
    exact ⟨s, cell1 hl e0, wf_i64 w0⟩)
  have hll : l.length = len := by rw [hl1, hlen]
  subst hll
  refine ⟨A, l, cap, rfl, ?_, q1, q2, hl3⟩
  rw [hl2] at hsrc
  have e : ∀ l : List Int, l.flatMap (fun s => [Value.int .i64 s]) = isv l := fun l => by
    unfold isv; induction l with
    | nil => rfl
    | cons x l ih => simp [ih]
  rw [e] at hsrc
  exact hsrc
end
end Go.Proofs.Ytbfghecemppoeaa

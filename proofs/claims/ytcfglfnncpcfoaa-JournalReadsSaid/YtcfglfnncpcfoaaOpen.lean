/- The arguments of this seat's laws, opened. -/
import Derived.Test.YtcfglfnncpcfoaaArgs
import Derived.Test.YtcfglfnncpcfoaaEvent
namespace Go.Proofs.Ytcfglfnncpcfoaa
open Go.ChangeShapes Go.WideShapes Go.RowKit Go.Deep
theorem flat3 : flat Try.prog 1 3 = [(0, 3)] := by kernel_rfl
theorem cells3 : Try.prog.cellsOf 3 = 1 := by kernel_rfl
theorem bytes3 : Try.prog.bytesOf 3 = 8 := by kernel_rfl
theorem plain3 : ((flat Try.prog 1 3).all fun y => plainT Try.prog y.2) = true := by kernel_rfl
theorem flat27 : flat Try.prog 3 27 = [(0, 3), (1, 3), (2, 3), (3, 3), (4, 3), (5, 3), (6, 3), (7, 3), (8, 3), (9, 3), (10, 3), (11, 3), (12, 3), (13, 3), (14, 3), (15, 3), (16, 3), (17, 9)] := by kernel_rfl
theorem cells27 : Try.prog.cellsOf 27 = 18 := by kernel_rfl
theorem bytes27 : Try.prog.bytesOf 27 = 152 := by kernel_rfl
theorem plain27 : ((flat Try.prog 3 27).all fun y => plainT Try.prog y.2) = true := by kernel_rfl
theorem flat53 : flat Try.prog 3 53 = [(0, 3), (1, 3), (2, 3), (3, 3), (4, 3), (5, 3)] := by kernel_rfl
theorem cells53 : Try.prog.cellsOf 53 = 6 := by kernel_rfl
theorem bytes53 : Try.prog.bytesOf 53 = 48 := by kernel_rfl
theorem plain53 : ((flat Try.prog 3 53).all fun y => plainT Try.prog y.2) = true := by kernel_rfl
theorem flat23 : flat Try.prog 2 23 = [(0, 3), (1, 3), (2, 3)] := by kernel_rfl
theorem cells23 : Try.prog.cellsOf 23 = 3 := by kernel_rfl
theorem plain23 : ((flat Try.prog 2 23).all fun y => plainT Try.prog y.2) = true := by kernel_rfl
theorem flat34 : flat Try.prog 2 34 = [(0, 3), (1, 3), (2, 3)] := by kernel_rfl
theorem cells34 : Try.prog.cellsOf 34 = 3 := by kernel_rfl
theorem plain34 : ((flat Try.prog 2 34).all fun y => plainT Try.prog y.2) = true := by kernel_rfl
theorem all_ints {P : Program} (u3 : P.underlying 3 = some (.int .i64)) : ∀ (n : Nat) (cs : List Value), cs.length = n → (∀ i, i < n → ∃ u, cs[i]? = some u ∧ Leaf P 3 u) → ∃ xs : List Int, xs.length = n ∧ cs = xs.map (Value.int .i64) ∧ ∀ x ∈ xs, -9223372036854775808 ≤ x ∧ x ≤ 9223372036854775807
  | 0, cs, hl, _ => ⟨[], rfl, by rw [List.length_eq_zero_iff.1 hl]; rfl, by simp⟩
  | n + 1, [], hl, _ => by simp at hl
  | n + 1, c :: cs, hl, h => by
    obtain ⟨xs, h1, h2, h3⟩ := all_ints u3 n cs (by simpa using hl) (fun i hi => by
      have := h (i + 1) (by omega)
      simpa using this)
    obtain ⟨u, hu, hf⟩ := h 0 (by omega)
    simp at hu
    subst hu
    obtain ⟨x, rfl, hw⟩ := hf.int u3
    refine ⟨x :: xs, by simp [h1], by simp [h2], fun y hy => ?_⟩
    rw [List.mem_cons] at hy
    rcases hy with rfl | hy
    · exact wf_i64 hw
    · exact h3 y hy
/-- What came in as an event. -/
structure Ev.came (e : Ev) : Prop where
  fits : e.fits
  x : e.x.size ≤ 140737488351232
theorem Ev.came.t {e : Ev} (h : e.came) : -9223372036854775808 ≤ e.t ∧ e.t ≤ 9223372036854775807 := h.fits e.t (by simp [nums])
theorem ev_of {cs : List Value} (hl : cs.length = 18) (hy : ∀ y ∈ flat Try.prog 3 27, ∃ u, cs[y.1]? = some u ∧ Leaf Try.prog y.2 u) : ∃ e : Ev, cs = ec e ∧ e.came := by
  rw [flat27] at hy
  obtain ⟨xs, h1, h2, h3⟩ := all_ints Try.underlying3 17 (cs.take 17) (by rw [List.length_take, hl]; rfl) (fun i hi => by
    have hm : (i, 3) ∈ [(0, 3), (1, 3), (2, 3), (3, 3), (4, 3), (5, 3), (6, 3), (7, 3), (8, 3), (9, 3), (10, 3), (11, 3), (12, 3), (13, 3), (14, 3), (15, 3), (16, 3), (17, 9)] := by
      have : i = 0 ∨ i = 1 ∨ i = 2 ∨ i = 3 ∨ i = 4 ∨ i = 5 ∨ i = 6 ∨ i = 7 ∨ i = 8 ∨ i = 9 ∨ i = 10 ∨ i = 11 ∨ i = 12 ∨ i = 13 ∨ i = 14 ∨ i = 15 ∨ i = 16 := by omega
      rcases this with h | h | h | h | h | h | h | h | h | h | h | h | h | h | h | h | h <;> subst h <;> decide
    obtain ⟨u, hu, hf⟩ := hy (i, 3) hm
    exact ⟨u, by rw [List.getElem?_take, if_pos hi]; exact hu, hf⟩)
  obtain ⟨u, hu, hf⟩ := hy (17, 9) (by decide)
  obtain ⟨x, rfl, hw⟩ := hf.string Try.underlying9
  match xs, h1 with
  | [a0, a1, a2, a3, a4, a5, a6, a7, a8, a9, a10, a11, a12, a13, a14, a15, a16], _ =>
    refine ⟨⟨a0, a1, a2, a3, a4, a5, a6, a7, a8, a9, a10, a11, a12, a13, a14, a15, a16, x⟩, ?_, h3, hw⟩
    have hd : cs.drop 17 = [.string x] := by
      rw [List.drop_eq_getElem_cons (by omega), List.drop_eq_nil_of_le (by omega)]
      congr 1
      have := List.getElem?_eq_some_iff.1 hu
      exact this.2
    rw [← List.take_append_drop 17 cs, h2, hd]
    rfl
section
variable {H : Type} {enc : TypeId × Value → H} {w : World} {base b0 : Nat} {spare : Nat → Bool} {held : Bool} {r : Reach} {v : Value} {d : DataW H} {p : List MemPlace}
set_option maxRecDepth 100000 in
theorem slice_caps {P : Program} {t e : TypeId} {A : Option Addr} {len cap : Nat} (ht : P.underlying t = some (.slice e)) (h : DataW.Trod enc P w base spare held t (.slice A len cap) d p) : len ≤ cap ∧ cap ≤ 9223372036854775807 ∧ (A = none → cap = 0) := by
  obtain ⟨fuel, hf⟩ := h
  rcases open_slice ht hf with ⟨hcs, _⟩ | ⟨a, len', cap', m, n', D, Pl, hcs, _, hl, hm, _⟩
  · simp [Value.cells] at hcs
    omega
  · simp [Value.cells] at hcs
    obtain ⟨rfl, rfl, rfl⟩ := hcs
    exact ⟨hl, by simpa [maxLen] using hm, fun h => by cases h⟩
set_option maxRecDepth 100000 in
theorem open_num (hok : Value.okWide Try.prog w r b0 3 v) (h : DataW.Trod enc Try.prog w base spare held 3 v d p) : ∃ x, v = .int .i64 x ∧ -9223372036854775808 ≤ x ∧ x ≤ 9223372036854775807 := by
  obtain ⟨x, h1, h2⟩ := open_int1 Try.underlying3 hok h
  exact ⟨x, h1, wf_i64 h2⟩
set_option maxRecDepth 100000 in
theorem open_ev (hok : Value.okWide Try.prog w r b0 27 v) (h : DataW.Trod enc Try.prog w base spare held 27 v d p) (hz : ∀ m ∈ d.weights Try.prog 27, m ≤ reachBytes) : ∃ e : Ev, v = ev e ∧ e.came := by
  obtain ⟨cs, rfl, hl, hy⟩ := open_agg 3 (.inl ⟨_, Try.underlying27⟩) plain27 hok h hz
  rw [cells27] at hl
  obtain ⟨e, h1, h2⟩ := ev_of hl hy
  subst h1
  exact ⟨e, rfl, h2⟩
set_option maxRecDepth 100000 in
theorem open_stamp (hok : Value.okWide Try.prog w r b0 23 v) (h : DataW.Trod enc Try.prog w base spare held 23 v d p) (hz : ∀ m ∈ d.weights Try.prog 23, m ≤ reachBytes) : ∃ x y z, v = sv x y z := by
  obtain ⟨cs, rfl, hl, hy⟩ := open_agg 2 (.inl ⟨_, Try.underlying23⟩) plain23 hok h hz
  rw [cells23] at hl
  rw [flat23] at hy
  obtain ⟨u0, q0, f0⟩ := hy (0, 3) (by simp)
  obtain ⟨u1, q1, f1⟩ := hy (1, 3) (by simp)
  obtain ⟨u2, q2, f2⟩ := hy (2, 3) (by simp)
  obtain ⟨x, rfl, _⟩ := f0.int Try.underlying3
  obtain ⟨y, rfl, _⟩ := f1.int Try.underlying3
  obtain ⟨z, rfl, _⟩ := f2.int Try.underlying3
  refine ⟨x, y, z, ?_⟩
  match cs, hl with
  | [a, b, c], _ => simp at q0 q1 q2; simp [q0, q1, q2]
/-- Events that came in. -/
structure CameE (w : World) (A : Option Addr) (c : Nat) (l : List Ev) : Prop where
  s : ES w (.slice A l.length c) l
  le : l.length ≤ c
  cm : c ≤ 9223372036854775807
  ok : ∀ e ∈ l, e.came
  few : l.length * 152 ≤ 140737488351232
set_option maxRecDepth 100000 in
theorem open_evs (hok : Value.okWide Try.prog w r b0 55 v) (h : DataW.Trod enc Try.prog w base spare held 55 v d p) (hz : ∀ m ∈ d.weights Try.prog 55, m ≤ reachBytes) : ∃ A l c, v = .slice A l.length c ∧ CameE w A c l := by
  obtain ⟨A, len, cap, css, rfl, hlen, hsrc, hb, hcs⟩ := open_rows 3 Try.underlying55 plain27 hok h hz
  obtain ⟨q1, q2, q3⟩ := slice_caps Try.underlying55 h
  rw [cells27] at hsrc hcs
  rw [bytes27] at hb
  obtain ⟨l, hl1, hl2, hl3⟩ := rows_as ec Ev.came css (fun cs hc => by
    obtain ⟨hl, hy⟩ := hcs cs hc
    exact ev_of hl hy)
  have hll : l.length = len := by rw [hl1, hlen]
  subst hll
  refine ⟨A, l, cap, rfl, ?_, q1, q2, hl3, by simpa [reachBytes] using hb⟩
  rw [hl2] at hsrc
  exact hsrc
/-- Integers that came in. -/
structure CameI (w : World) (A : Option Addr) (c : Nat) (l : List Int) : Prop where
  s : IS w (.slice A l.length c) l
  le : l.length ≤ c
  cm : c ≤ 9223372036854775807
  sz : ∀ x ∈ l, -9223372036854775808 ≤ x ∧ x ≤ 9223372036854775807
set_option maxRecDepth 100000 in
theorem open_ints (hok : Value.okWide Try.prog w r b0 35 v) (h : DataW.Trod enc Try.prog w base spare held 35 v d p) (hz : ∀ m ∈ d.weights Try.prog 35, m ≤ reachBytes) : ∃ A l c, v = .slice A l.length c ∧ CameI w A c l := by
  obtain ⟨A, len, cap, css, rfl, hlen, hsrc, hb, hcs⟩ := open_rows 1 Try.underlying35 plain3 hok h hz
  obtain ⟨q1, q2, q3⟩ := slice_caps Try.underlying35 h
  rw [cells3] at hsrc hcs
  obtain ⟨l, hl1, hl2, hl3⟩ := rows_as (fun x : Int => [Value.int .i64 x]) (fun x => -9223372036854775808 ≤ x ∧ x ≤ 9223372036854775807) css (fun cs hc => by
    obtain ⟨hl, hy⟩ := hcs cs hc
    rw [flat3] at hy
    obtain ⟨u0, e0, f0⟩ := hy (0, 3) (by simp)
    obtain ⟨s, rfl, w0⟩ := f0.int Try.underlying3
    refine ⟨s, ?_, wf_i64 w0⟩
    match cs, hl with
    | [u], _ => simp at e0; simp [e0])
  have hll : l.length = len := by rw [hl1, hlen]
  subst hll
  refine ⟨A, l, cap, rfl, ?_, q1, q2, hl3⟩
  rw [hl2] at hsrc
  have e : ∀ l : List Int, l.flatMap (fun s => [Value.int .i64 s]) = isv l := fun l => by
    unfold isv; induction l with
    | nil => rfl
    | cons x l ih => simp [ih]
  rw [e] at hsrc
  exact hsrc
/-- An act as plain data. -/
structure ActD where
  kind : Int
  time : Int
  q0 : Int
  q1 : Int
  q2 : Int
  q3 : Int
def ActD.cells (a : ActD) : List Value := [.int .i64 a.kind, .int .i64 a.time, .int .i64 a.q0, .int .i64 a.q1, .int .i64 a.q2, .int .i64 a.q3]
structure ActD.ok (a : ActD) : Prop where
  k : -9223372036854775808 ≤ a.kind ∧ a.kind ≤ 9223372036854775807
  t : -9223372036854775808 ≤ a.time ∧ a.time ≤ 9223372036854775807
  q0 : -9223372036854775808 ≤ a.q0 ∧ a.q0 ≤ 9223372036854775807
  q1 : -9223372036854775808 ≤ a.q1 ∧ a.q1 ≤ 9223372036854775807
  q2 : -9223372036854775808 ≤ a.q2 ∧ a.q2 ≤ 9223372036854775807
  q3 : -9223372036854775808 ≤ a.q3 ∧ a.q3 ≤ 9223372036854775807
def acs (l : List ActD) : List Value := l.flatMap ActD.cells
structure CameA (w : World) (A : Option Addr) (c : Nat) (l : List ActD) : Prop where
  s : Src w 6 (.slice A l.length c) l.length (acs l)
  le : l.length ≤ c
  cm : c ≤ 9223372036854775807
  ok : ∀ a ∈ l, a.ok
set_option maxRecDepth 100000 in
theorem open_acts (hok : Value.okWide Try.prog w r b0 43 v) (h : DataW.Trod enc Try.prog w base spare held 43 v d p) (hz : ∀ m ∈ d.weights Try.prog 43, m ≤ reachBytes) : ∃ A l c, v = .slice A l.length c ∧ CameA w A c l := by
  obtain ⟨A, len, cap, css, rfl, hlen, hsrc, hb, hcs⟩ := open_rows 3 Try.underlying43 plain53 hok h hz
  obtain ⟨q1, q2, q3⟩ := slice_caps Try.underlying43 h
  rw [cells53] at hsrc hcs
  obtain ⟨l, hl1, hl2, hl3⟩ := rows_as ActD.cells ActD.ok css (fun cs hc => by
    obtain ⟨hl, hy⟩ := hcs cs hc
    rw [flat53] at hy
    obtain ⟨xs, h1, h2, h3⟩ := all_ints Try.underlying3 6 cs hl (fun i hi => by
      have hm : (i, 3) ∈ [(0, 3), (1, 3), (2, 3), (3, 3), (4, 3), (5, 3)] := by
        have : i = 0 ∨ i = 1 ∨ i = 2 ∨ i = 3 ∨ i = 4 ∨ i = 5 := by omega
        rcases this with h | h | h | h | h | h <;> subst h <;> decide
      exact hy (i, 3) hm)
    match xs, h1 with
    | [a, b, c, d, e, f], _ => exact ⟨⟨a, b, c, d, e, f⟩, h2, h3 a (by simp), h3 b (by simp), h3 c (by simp), h3 d (by simp), h3 e (by simp), h3 f (by simp)⟩)
  have hll : l.length = len := by rw [hl1, hlen]
  subst hll
  refine ⟨A, l, cap, rfl, ?_, q1, q2, hl3⟩
  rw [hl2] at hsrc
  exact hsrc
end
end Go.Proofs.Ytcfglfnncpcfoaa

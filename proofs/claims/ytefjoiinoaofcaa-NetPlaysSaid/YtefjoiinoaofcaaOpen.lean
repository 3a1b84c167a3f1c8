/- The arguments of this seat's laws, opened. -/
import Derived.Test.YtefjoiinoaofcaaArgs
import Derived.Test.YtefjoiinoaofcaaTwo
namespace Go.Proofs.Ytefjoiinoaofcaa
open Go.ChangeShapes Go.WideShapes Go.RowKit Go.Deep

theorem list1 {cs : List Value} {a : Value} (hl : cs.length = 1) (h0 : cs[0]? = some a) : cs = [a] := by
  match cs, hl with
  | [w], _ => simp at h0; simp [h0]
theorem list2 {cs : List Value} {a b : Value} (hl : cs.length = 2) (h0 : cs[0]? = some a) (h1 : cs[1]? = some b) : cs = [a, b] := by
  match cs, hl with
  | [w, x], _ => simp at h0 h1; simp [h0, h1]
theorem list3 {cs : List Value} {a b c : Value} (hl : cs.length = 3) (h0 : cs[0]? = some a) (h1 : cs[1]? = some b) (h2 : cs[2]? = some c) : cs = [a, b, c] := by
  match cs, hl with
  | [w, x, y], _ => simp at h0 h1 h2; simp [h0, h1, h2]
theorem list4 {cs : List Value} {a b c d : Value} (hl : cs.length = 4) (h0 : cs[0]? = some a) (h1 : cs[1]? = some b) (h2 : cs[2]? = some c) (h3 : cs[3]? = some d) : cs = [a, b, c, d] := by
  match cs, hl with
  | [w, x, y, z], _ => simp at h0 h1 h2 h3; simp [h0, h1, h2, h3]
theorem list6 {cs : List Value} {a b c d e f : Value} (hl : cs.length = 6) (h0 : cs[0]? = some a) (h1 : cs[1]? = some b) (h2 : cs[2]? = some c) (h3 : cs[3]? = some d) (h4 : cs[4]? = some e) (h5 : cs[5]? = some f) : cs = [a, b, c, d, e, f] := by
  match cs, hl with
  | [w, x, y, z, u, v], _ => simp at h0 h1 h2 h3 h4 h5; simp [h0, h1, h2, h3, h4, h5]

section
variable {H : Type} {enc : TypeId × Value → H} {w : World} {base b0 : Nat} {spare : Nat → Bool} {held : Bool} {r : Reach} {v : Value} {d : DataW H} {p : List MemPlace}

theorem open_num (hok : Value.okWide Try.prog w r b0 3 v) (h : DataW.Trod enc Try.prog w base spare held 3 v d p) : ∃ x, v = .int .i64 x ∧ -9223372036854775808 ≤ x ∧ x ≤ 9223372036854775807 := by
  obtain ⟨x, h1, h2⟩ := open_int1 Try.underlying3 hok h
  exact ⟨x, h1, wf_i64 h2⟩
theorem open_u8 (hok : Value.okWide Try.prog w r b0 5 v) (h : DataW.Trod enc Try.prog w base spare held 5 v d p) : ∃ x, v = .int .u8 x ∧ 0 ≤ x ∧ x ≤ 255 := by
  obtain ⟨x, h1, h2⟩ := open_int1 Try.underlying5 hok h
  exact ⟨x, h1, bounds_u8 h2⟩
theorem wf_u16 {n : Int} (h : (Lit.int .u16 n).wf = true) : 0 ≤ n ∧ n ≤ 65535 := by
  have := bounds_u16 h
  omega
theorem open_u16 (hok : Value.okWide Try.prog w r b0 40 v) (h : DataW.Trod enc Try.prog w base spare held 40 v d p) : ∃ x, v = .int .u16 x ∧ 0 ≤ x ∧ x ≤ 65535 := by
  obtain ⟨x, h1, h2⟩ := open_int1 Try.underlying40 hok h
  exact ⟨x, h1, wf_u16 h2⟩

theorem flat42 : flat Try.prog 1 42 = [(0, 4), (1, 3), (2, 3)] := by kernel_rfl
theorem cells42 : Try.prog.cellsOf 42 = 3 := by kernel_rfl
theorem bytes42 : Try.prog.bytesOf 42 = 24 := by kernel_rfl
theorem plain42 : ((flat Try.prog 1 42).all fun y => plainT Try.prog y.2) = true := by kernel_rfl
theorem open_trs (hok : Value.okWide Try.prog w r b0 22 v) (h : DataW.Trod enc Try.prog w base spare held 22 v d p) (hz : ∀ m ∈ d.weights Try.prog 22, m ≤ reachBytes) :
    ∃ A l c, v = .slice A l.length c ∧ Src w 3 (.slice A l.length c) l.length (trs l) ∧ l.length ≤ 9223372036854775807 := by
  obtain ⟨A, len, cap, css, rfl, hlen, hsrc, hb, hcs⟩ := open_rows 1 Try.underlying22 plain42 hok h hz
  rw [cells42] at hsrc hcs
  rw [bytes42] at hb
  obtain ⟨l, hl1, hl2, hl3⟩ := rows_as Tr.cells (fun _ => True) css (fun cs hc => by
    obtain ⟨hl, hy⟩ := hcs cs hc
    rw [flat42] at hy
    obtain ⟨u0, e0, f0⟩ := hy (0, 4) (by simp)
    obtain ⟨u1, e1, f1⟩ := hy (1, 3) (by simp)
    obtain ⟨u2, e2, f2⟩ := hy (2, 3) (by simp)
    obtain ⟨x0, rfl⟩ := f0.bool Try.underlying4
    obtain ⟨x1, rfl, w1⟩ := f1.int Try.underlying3
    obtain ⟨x2, rfl, w2⟩ := f2.int Try.underlying3
    exact ⟨⟨x0, x1, x2⟩, list3 hl e0 e1 e2, trivial⟩)
  have hll : l.length = len := by rw [hl1, hlen]
  subst hll
  refine ⟨A, l, cap, rfl, ?_, ?_⟩
  · rw [hl2] at hsrc
    exact hsrc
  · simp only [reachBytes] at hb
    omega

theorem flat31 : flat Try.prog 1 31 = [(0, 3), (1, 3), (2, 3), (3, 9)] := by kernel_rfl
theorem cells31 : Try.prog.cellsOf 31 = 4 := by kernel_rfl
theorem bytes31 : Try.prog.bytesOf 31 = 40 := by kernel_rfl
theorem plain31 : ((flat Try.prog 1 31).all fun y => plainT Try.prog y.2) = true := by kernel_rfl
theorem open_msg (hok : Value.okWide Try.prog w r b0 31 v) (h : DataW.Trod enc Try.prog w base spare held 31 v d p) (hz : ∀ m ∈ d.weights Try.prog 31, m ≤ reachBytes) :
    ∃ a b n x, v = msgV a b n x := by
  obtain ⟨cs, rfl, hl, hy⟩ := open_agg 1 (.inl ⟨_, Try.underlying31⟩) plain31 hok h hz
  rw [cells31] at hl
  rw [flat31] at hy
  obtain ⟨u0, e0, f0⟩ := hy (0, 3) (by simp)
  obtain ⟨u1, e1, f1⟩ := hy (1, 3) (by simp)
  obtain ⟨u2, e2, f2⟩ := hy (2, 3) (by simp)
  obtain ⟨u3, e3, f3⟩ := hy (3, 9) (by simp)
  obtain ⟨x0, rfl, w0⟩ := f0.int Try.underlying3
  obtain ⟨x1, rfl, w1⟩ := f1.int Try.underlying3
  obtain ⟨x2, rfl, w2⟩ := f2.int Try.underlying3
  obtain ⟨x3, rfl, w3⟩ := f3.string Try.underlying9
  rw [list4 hl e0 e1 e2 e3]
  exact ⟨x0, x1, x2, x3, rfl⟩

/-- A message as plain data. -/
structure Msg where
  fr : Int
  to : Int
  num : Int
  tx : ByteArray
def Msg.cells (m : Msg) : List Value := [.int .i64 m.fr, .int .i64 m.to, .int .i64 m.num, .string m.tx]
def Msg.ok (m : Msg) : Prop := (-9223372036854775808 ≤ m.to ∧ m.to ≤ 9223372036854775807) ∧ m.tx.size ≤ 140737488351232
theorem open_msgs (hok : Value.okWide Try.prog w r b0 45 v) (h : DataW.Trod enc Try.prog w base spare held 45 v d p) (hz : ∀ m ∈ d.weights Try.prog 45, m ≤ reachBytes) :
    ∃ (A : Option Addr) (l : List Msg) (c : Nat), v = .slice A l.length c ∧ Src w 4 (.slice A l.length c) l.length (l.flatMap Msg.cells) ∧ (∀ m ∈ l, m.ok) ∧ l.length ≤ 9223372036854775807 := by
  obtain ⟨A, len, cap, css, rfl, hlen, hsrc, hb, hcs⟩ := open_rows 1 Try.underlying45 plain31 hok h hz
  rw [cells31] at hsrc hcs
  rw [bytes31] at hb
  obtain ⟨l, hl1, hl2, hl3⟩ := rows_as Msg.cells Msg.ok css (fun cs hc => by
    obtain ⟨hl, hy⟩ := hcs cs hc
    rw [flat31] at hy
    obtain ⟨u0, e0, f0⟩ := hy (0, 3) (by simp)
    obtain ⟨u1, e1, f1⟩ := hy (1, 3) (by simp)
    obtain ⟨u2, e2, f2⟩ := hy (2, 3) (by simp)
    obtain ⟨u3, e3, f3⟩ := hy (3, 9) (by simp)
    obtain ⟨x0, rfl, w0⟩ := f0.int Try.underlying3
    obtain ⟨x1, rfl, w1⟩ := f1.int Try.underlying3
    obtain ⟨x2, rfl, w2⟩ := f2.int Try.underlying3
    obtain ⟨x3, rfl, w3⟩ := f3.string Try.underlying9
    exact ⟨⟨x0, x1, x2, x3⟩, list4 hl e0 e1 e2 e3, wf_i64 w1, w3⟩)
  have hll : l.length = len := by rw [hl1, hlen]
  subst hll
  refine ⟨A, l, cap, rfl, ?_, hl3, ?_⟩
  · rw [hl2] at hsrc
    exact hsrc
  · simp only [reachBytes] at hb
    omega

theorem flat33 : flat Try.prog 2 33 = [(0, 3), (1, 3), (2, 3), (3, 3), (4, 3), (5, 9)] := by kernel_rfl
theorem cells33 : Try.prog.cellsOf 33 = 6 := by kernel_rfl
theorem bytes33 : Try.prog.bytesOf 33 = 56 := by kernel_rfl
theorem plain33 : ((flat Try.prog 2 33).all fun y => plainT Try.prog y.2) = true := by kernel_rfl
/-- An act as plain data. -/
structure ActD where
  kind : Int
  now : Int
  m : Msg
def ActD.cells (a : ActD) : List Value := .int .i64 a.kind :: .int .i64 a.now :: a.m.cells
def ActD.ok (a : ActD) : Prop := (-9223372036854775808 ≤ a.kind ∧ a.kind ≤ 9223372036854775807) ∧ (-9223372036854775808 ≤ a.now ∧ a.now ≤ 9223372036854775807) ∧ a.m.ok
theorem open_acts (hok : Value.okWide Try.prog w r b0 23 v) (h : DataW.Trod enc Try.prog w base spare held 23 v d p) (hz : ∀ m ∈ d.weights Try.prog 23, m ≤ reachBytes) :
    ∃ (A : Option Addr) (l : List ActD) (c : Nat), v = .slice A l.length c ∧ Src w 6 (.slice A l.length c) l.length (l.flatMap ActD.cells) ∧ (∀ m ∈ l, m.ok) ∧ l.length ≤ 9223372036854775807 := by
  obtain ⟨A, len, cap, css, rfl, hlen, hsrc, hb, hcs⟩ := open_rows 2 Try.underlying23 plain33 hok h hz
  rw [cells33] at hsrc hcs
  rw [bytes33] at hb
  obtain ⟨l, hl1, hl2, hl3⟩ := rows_as ActD.cells ActD.ok css (fun cs hc => by
    obtain ⟨hl, hy⟩ := hcs cs hc
    rw [flat33] at hy
    obtain ⟨u0, e0, f0⟩ := hy (0, 3) (by simp)
    obtain ⟨u1, e1, f1⟩ := hy (1, 3) (by simp)
    obtain ⟨u2, e2, f2⟩ := hy (2, 3) (by simp)
    obtain ⟨u3, e3, f3⟩ := hy (3, 3) (by simp)
    obtain ⟨u4, e4, f4⟩ := hy (4, 3) (by simp)
    obtain ⟨u5, e5, f5⟩ := hy (5, 9) (by simp)
    obtain ⟨x0, rfl, w0⟩ := f0.int Try.underlying3
    obtain ⟨x1, rfl, w1⟩ := f1.int Try.underlying3
    obtain ⟨x2, rfl, w2⟩ := f2.int Try.underlying3
    obtain ⟨x3, rfl, w3⟩ := f3.int Try.underlying3
    obtain ⟨x4, rfl, w4⟩ := f4.int Try.underlying3
    obtain ⟨x5, rfl, w5⟩ := f5.string Try.underlying9
    exact ⟨⟨x0, x1, ⟨x2, x3, x4, x5⟩⟩, list6 hl e0 e1 e2 e3 e4 e5, wf_i64 w0, wf_i64 w1, wf_i64 w3, w5⟩)
  have hll : l.length = len := by rw [hl1, hlen]
  subst hll
  refine ⟨A, l, cap, rfl, ?_, hl3, ?_⟩
  · rw [hl2] at hsrc
    exact hsrc
  · simp only [reachBytes] at hb
    omega

theorem flat40 : flat Try.prog 1 40 = [(0, 40)] := by kernel_rfl
theorem cells40 : Try.prog.cellsOf 40 = 1 := by kernel_rfl
theorem bytes40 : Try.prog.bytesOf 40 = 2 := by kernel_rfl
theorem plain40 : ((flat Try.prog 1 40).all fun y => plainT Try.prog y.2) = true := by kernel_rfl
def uv (l : List Int) : List Value := l.map (Value.int .u16)
theorem open_times (hok : Value.okWide Try.prog w r b0 39 v) (h : DataW.Trod enc Try.prog w base spare held 39 v d p) (hz : ∀ m ∈ d.weights Try.prog 39, m ≤ reachBytes) :
    ∃ A l c, v = .slice A l.length c ∧ Src w 1 (.slice A l.length c) l.length (uv l) ∧ (∀ x ∈ l, 0 ≤ x ∧ x ≤ 65535) ∧ l.length ≤ 9223372036854775807 := by
  obtain ⟨A, len, cap, css, rfl, hlen, hsrc, hb, hcs⟩ := open_rows 1 Try.underlying39 plain40 hok h hz
  rw [cells40] at hsrc hcs
  rw [bytes40] at hb
  obtain ⟨l, hl1, hl2, hl3⟩ := rows_as (fun x : Int => [Value.int .u16 x]) (fun x => 0 ≤ x ∧ x ≤ 65535) css (fun cs hc => by
    obtain ⟨hl, hy⟩ := hcs cs hc
    rw [flat40] at hy
    obtain ⟨u0, e0, f0⟩ := hy (0, 40) (by simp)
    obtain ⟨x0, rfl, w0⟩ := f0.int Try.underlying40
    exact ⟨x0, list1 hl e0, wf_u16 w0⟩)
  have hll : l.length = len := by rw [hl1, hlen]
  subst hll
  refine ⟨A, l, cap, rfl, ?_, hl3, ?_⟩
  · rw [hl2] at hsrc
    have e : ∀ l : List Int, l.flatMap (fun x : Int => [Value.int .u16 x]) = uv l := fun l => by
      unfold uv; induction l with
      | nil => rfl
      | cons x l ih => simp [ih]
    rw [e] at hsrc
    exact hsrc
  · simp only [reachBytes] at hb
    omega

theorem flat47 : flat Try.prog 2 47 = [(0, 40), (1, 40)] := by kernel_rfl
theorem cells47 : Try.prog.cellsOf 47 = 2 := by kernel_rfl
theorem plain47 : ((flat Try.prog 2 47).all fun y => plainT Try.prog y.2) = true := by kernel_rfl
theorem open_pair (hok : Value.okWide Try.prog w r b0 47 v) (h : DataW.Trod enc Try.prog w base spare held 47 v d p) (hz : ∀ m ∈ d.weights Try.prog 47, m ≤ reachBytes) :
    ∃ x y, v = .agg #[.int .u16 x, .int .u16 y] ∧ (0 ≤ x ∧ x ≤ 65535) ∧ (0 ≤ y ∧ y ≤ 65535) := by
  obtain ⟨cs, rfl, hl, hy⟩ := open_agg 2 (.inr ⟨2, 40, Try.underlying47⟩) plain47 hok h hz
  rw [cells47] at hl
  rw [flat47] at hy
  obtain ⟨u0, e0, f0⟩ := hy (0, 40) (by simp)
  obtain ⟨u1, e1, f1⟩ := hy (1, 40) (by simp)
  obtain ⟨x0, rfl, w0⟩ := f0.int Try.underlying40
  obtain ⟨x1, rfl, w1⟩ := f1.int Try.underlying40
  rw [list2 hl e0 e1]
  exact ⟨x0, x1, rfl, wf_u16 w0, wf_u16 w1⟩
end
end Go.Proofs.Ytefjoiinoaofcaa

/- The arguments of this seat's laws, opened. -/
import Derived.Test.YtppgddigcoojiaaArgs
import Derived.Test.YtppgddigcoojiaaPlays
namespace Go.Proofs.Ytppgddigcoojiaa
open Go.ChangeShapes Go.WideShapes Go.RowKit Go.Deep

theorem flat33 : flat Try.prog 1 33 = [(0, 3), (1, 3), (2, 3), (3, 9)] := by kernel_rfl
theorem cells33 : Try.prog.cellsOf 33 = 4 := by kernel_rfl
theorem bytes33 : Try.prog.bytesOf 33 = 40 := by kernel_rfl
theorem plain33 : ((flat Try.prog 1 33).all fun y => plainT Try.prog y.2) = true := by kernel_rfl

theorem list4 {cs : List Value} {a b c d : Value} (hl : cs.length = 4) (h0 : cs[0]? = some a) (h1 : cs[1]? = some b) (h2 : cs[2]? = some c) (h3 : cs[3]? = some d) : cs = [a, b, c, d] := by
  match cs, hl with
  | [w, x, y, z], _ => simp at h0 h1 h2 h3; simp [h0, h1, h2, h3]

theorem open_acts {H : Type} {enc : TypeId × Value → H} {w : World} {base b0 : Nat} {spare : Nat → Bool} {held : Bool} {r : Reach} {v : Value} {d : DataW H} {p : List MemPlace}
    (hok : Value.okWide Try.prog w r b0 22 v) (h : DataW.Trod enc Try.prog w base spare held 22 v d p) (hz : ∀ m ∈ d.weights Try.prog 22, m ≤ reachBytes) :
    ∃ A l c, v = .slice A l.length c ∧ Src w 4 (.slice A l.length c) l.length (acs l) ∧ (∀ a, a ∈ l → a.ok) ∧ l.length ≤ 9223372036854775807 := by
  obtain ⟨A, len, cap, css, rfl, hlen, hsrc, hb, hcs⟩ := open_rows 1 Try.underlying22 plain33 hok h hz
  rw [cells33] at hsrc hcs
  rw [bytes33] at hb
  obtain ⟨l, hl1, hl2, hl3⟩ := rows_as (fun a : ActD => [.int .i64 a.kind, .int .i64 a.off, .int .i64 a.n, .string a.text]) ActD.ok css (fun cs hc => by
    obtain ⟨hl, hy⟩ := hcs cs hc
    rw [flat33] at hy
    obtain ⟨u0, e0, f0⟩ := hy (0, 3) (by simp)
    obtain ⟨u1, e1, f1⟩ := hy (1, 3) (by simp)
    obtain ⟨u2, e2, f2⟩ := hy (2, 3) (by simp)
    obtain ⟨u3, e3, f3⟩ := hy (3, 9) (by simp)
    obtain ⟨x0, rfl, w0⟩ := f0.int Try.underlying3
    obtain ⟨x1, rfl, w1⟩ := f1.int Try.underlying3
    obtain ⟨x2, rfl, w2⟩ := f2.int Try.underlying3
    obtain ⟨x3, rfl, w3⟩ := f3.string Try.underlying9
    exact ⟨⟨x0, x1, x2, x3⟩, list4 hl e0 e1 e2 e3, ⟨(wf_i64 w0).1, (wf_i64 w0).2, (wf_i64 w1).1, (wf_i64 w1).2, (wf_i64 w2).1, (wf_i64 w2).2, Nat.le_trans w3 (by decide)⟩⟩)
  have hll : l.length = len := by rw [hl1, hlen]
  subst hll
  refine ⟨A, l, cap, rfl, ?_, hl3, ?_⟩
  · rw [hl2] at hsrc
    exact hsrc
  · simp only [reachBytes] at hb
    omega

theorem flat3 : flat Try.prog 1 3 = [(0, 3)] := by kernel_rfl
theorem cells3 : Try.prog.cellsOf 3 = 1 := by kernel_rfl
theorem bytes3 : Try.prog.bytesOf 3 = 8 := by kernel_rfl
theorem plain3 : ((flat Try.prog 1 3).all fun y => plainT Try.prog y.2) = true := by kernel_rfl
theorem list1 {cs : List Value} {a : Value} (hl : cs.length = 1) (h0 : cs[0]? = some a) : cs = [a] := by
  match cs, hl with
  | [w], _ => simp at h0; simp [h0]
theorem list2 {cs : List Value} {a b : Value} (hl : cs.length = 2) (h0 : cs[0]? = some a) (h1 : cs[1]? = some b) : cs = [a, b] := by
  match cs, hl with
  | [w, x], _ => simp at h0 h1; simp [h0, h1]

theorem open_nums {H : Type} {enc : TypeId × Value → H} {w : World} {base b0 : Nat} {spare : Nat → Bool} {held : Bool} {r : Reach} {v : Value} {d : DataW H} {p : List MemPlace}
    (hok : Value.okWide Try.prog w r b0 36 v) (h : DataW.Trod enc Try.prog w base spare held 36 v d p) (hz : ∀ m ∈ d.weights Try.prog 36, m ≤ reachBytes) :
    ∃ A q c, v = .slice A q.length c ∧ Src w 1 (.slice A q.length c) q.length (iv q) ∧ q.length ≤ 9223372036854775807 ∧ (∀ x, x ∈ q → -9223372036854775808 ≤ x ∧ x ≤ 9223372036854775807) := by
  obtain ⟨A, len, cap, css, rfl, hlen, hsrc, hb, hcs⟩ := open_rows 1 Try.underlying36 plain3 hok h hz
  rw [cells3] at hsrc hcs
  rw [bytes3] at hb
  obtain ⟨l, hl1, hl2, hl3⟩ := rows_as (fun x : Int => [Value.int .i64 x]) (fun x => -9223372036854775808 ≤ x ∧ x ≤ 9223372036854775807) css (fun cs hc => by
    obtain ⟨hl, hy⟩ := hcs cs hc
    rw [flat3] at hy
    obtain ⟨u0, e0, f0⟩ := hy (0, 3) (by simp)
    obtain ⟨x0, rfl, w0⟩ := f0.int Try.underlying3
    exact ⟨x0, list1 hl e0, wf_i64 w0⟩)
  have hll : l.length = len := by rw [hl1, hlen]
  subst hll
  refine ⟨A, l, cap, rfl, ?_, ?_, hl3⟩
  · rw [hl2] at hsrc
    have e : ∀ l : List Int, l.flatMap (fun x : Int => [Value.int .i64 x]) = iv l := fun l => by
      unfold iv; induction l with
      | nil => rfl
      | cons x l ih => simp [ih]
    rw [e] at hsrc
    exact hsrc
  · simp only [reachBytes] at hb
    omega

theorem flat42 : flat Try.prog 2 42 = [(0, 3), (1, 3)] := by kernel_rfl
theorem cells42 : Try.prog.cellsOf 42 = 2 := by kernel_rfl
theorem plain42 : ((flat Try.prog 2 42).all fun y => plainT Try.prog y.2) = true := by kernel_rfl
theorem open_pair {H : Type} {enc : TypeId × Value → H} {w : World} {base b0 : Nat} {spare : Nat → Bool} {held : Bool} {r : Reach} {v : Value} {d : DataW H} {p : List MemPlace}
    (hok : Value.okWide Try.prog w r b0 42 v) (h : DataW.Trod enc Try.prog w base spare held 42 v d p) (hz : ∀ m ∈ d.weights Try.prog 42, m ≤ reachBytes) :
    ∃ x y, v = .agg #[.int .i64 x, .int .i64 y] ∧ (-9223372036854775808 ≤ x ∧ x ≤ 9223372036854775807) ∧ (-9223372036854775808 ≤ y ∧ y ≤ 9223372036854775807) := by
  obtain ⟨cs, rfl, hl, hy⟩ := open_agg 2 (.inr ⟨2, 3, Try.underlying42⟩) plain42 hok h hz
  rw [cells42] at hl
  rw [flat42] at hy
  obtain ⟨u0, e0, f0⟩ := hy (0, 3) (by simp)
  obtain ⟨u1, e1, f1⟩ := hy (1, 3) (by simp)
  obtain ⟨x0, rfl, w0⟩ := f0.int Try.underlying3
  obtain ⟨x1, rfl, w1⟩ := f1.int Try.underlying3
  rw [list2 hl e0 e1]
  exact ⟨x0, x1, rfl, wf_i64 w0, wf_i64 w1⟩
theorem open_num {H : Type} {enc : TypeId × Value → H} {w : World} {base b0 : Nat} {spare : Nat → Bool} {held : Bool} {r : Reach} {v : Value} {d : DataW H} {p : List MemPlace}
    (hok : Value.okWide Try.prog w r b0 3 v) (h : DataW.Trod enc Try.prog w base spare held 3 v d p) : ∃ x, v = .int .i64 x ∧ -9223372036854775808 ≤ x ∧ x ≤ 9223372036854775807 := by
  obtain ⟨x, h1, h2⟩ := open_int1 Try.underlying3 hok h
  exact ⟨x, h1, wf_i64 h2⟩
end Go.Proofs.Ytppgddigcoojiaa

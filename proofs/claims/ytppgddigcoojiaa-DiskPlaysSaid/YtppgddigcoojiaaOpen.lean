/- The arguments of this seat's laws, opened. -/
import Derived.Test.YtppgddigcoojiaaArgs
import Derived.Test.YtppgddigcoojiaaPlays
namespace Go.Proofs.Ytppgddigcoojiaa
open Go.ChangeShapes Go.WideShapes Go.RowKit Go.Deep

theorem flat33 : flat Try.prog 1 33 = [(0, 3), (1, 3), (2, 3), (3, 9)] := by kernel_rfl
theorem cells33 : Try.prog.cellsOf 33 = 4 := by kernel_rfl
theorem bytes33 : Try.prog.bytesOf 33 = 40 := by kernel_rfl
theorem plain33 : ((flat Try.prog 1 33).all fun y => plainT Try.prog y.2) = true := by kernel_rfl

theorem list4 {cs : List Value} {a b c d : Value} (hl : cs.length = 4) (h0 : cs[0]? = some a) (h1 : cs[1]? = some b) (h2 : cs[2]? = some c) (h3 : cs[3]? = some d) : cs = [a, b, c, d] := by
  match cs, hl with
  | [w, x, y, z], _ => simp at h0 h1 h2 h3; simp [h0, h1, h2, h3]

theorem open_acts {H : Type} {enc : TypeId × Value → H} {w : World} {base b0 : Nat} {spare : Nat → Bool} {held : Bool} {r : Reach} {v : Value} {d : DataW H} {p : List MemPlace}
    (hok : Value.okWide Try.prog w r b0 22 v) (h : DataW.Trod enc Try.prog w base spare held 22 v d p) (hz : ∀ m ∈ d.weights Try.prog 22, m ≤ reachBytes) :
    ∃ A l c, v = .slice A l.length c ∧ Src w 4 (.slice A l.length c) l.length (acs l) ∧ (∀ a, a ∈ l → a.ok) ∧ l.length ≤ 9223372036854775807 := by
  obtain ⟨A, len, cap, css, rfl, hlen, hsrc, hb, hcs⟩ := open_rows 1 Try.underlying22 plain33 hok h hz
  rw [cells33] at hsrc hcs
  rw [bytes33] at hb
  obtain ⟨l, hl1, hl2, hl3⟩ := rows_as (fun a : ActD => [.int .i64 a.kind, .int .i64 a.off, .int .i64 a.n, .string a.text]) ActD.ok css (fun cs hc => by
    obtain ⟨hl, hy⟩ := hcs cs hc
    rw [flat33] at hy
    obtain ⟨u0, e0, f0⟩ := hy (0, 3) (by simp)
    obtain ⟨u1, e1, f1⟩ := hy (1, 3) (by simp)
    obtain ⟨u2, e2, f2⟩ := hy (2, 3) (by simp)
    obtain ⟨u3, e3, f3⟩ := hy (3, 9) (by simp)
    obtain ⟨x0, rfl, w0⟩ := f0.int Try.underlying3
    obtain ⟨x1, rfl, w1⟩ := f1.int Try.underlying3
    obtain ⟨x2, rfl, w2⟩ := f2.int Try.underlying3
    obtain ⟨x3, rfl, w3⟩ := f3.string Try.underlying9
    exact ⟨⟨x0, x1, x2, x3⟩, list4 hl e0 e1 e2 e3, ⟨(wf_i64 w0).1, (wf_i64 w0).2, (wf_i64 w1).1, (wf_i64 w1).2, (wf_i64 w2).1, (wf_i64 w2).2, Nat.le_trans w3 (by decide)⟩⟩)
  have hll : l.length = len := by rw [hl1, hlen]
  subst hll
  refine ⟨A, l, cap, rfl, ?_, hl3, ?_⟩
  · rw [hl2] at hsrc
    exact hsrc
  · simp only [reachBytes] at hb
    omega
end Go.Proofs.Ytppgddigcoojiaa

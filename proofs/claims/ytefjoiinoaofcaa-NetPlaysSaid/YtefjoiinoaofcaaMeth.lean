/- The methods of *parcels, as the interface calls find them. -/
import Derived.Test.YtefjoiinoaofcaaRows
import Derived.WalkKit
namespace Go.Proofs.Ytefjoiinoaofcaa
open Go.RowKit
theorem m_push (p : Value) (w : World) : (Go.method 196 75 p "Push").run Try.prog w = .ok (47, p) w := by kernel_rfl
theorem m_pop (p : Value) (w : World) : (Go.method 196 75 p "Pop").run Try.prog w = .ok (46, p) w := by kernel_rfl
theorem m_len (p : Addr) (A : Option Addr) (n c : Nat) (w : World) (h : w.cell? p = some (.slice A n c)) : (Go.method 196 75 (.pointer (some p)) "Len").run Try.prog w = .ok (43, .slice A n c) w := by
  have e : (Go.method 196 75 (.pointer (some p)) "Len").run Try.prog w = (Sem.load .plain p fun v => .pure (43, v)).run Try.prog w := by kernel_rfl
  rw [e]
  simp [go_sem, Sem.run, h]
theorem m_less (p : Addr) (A : Option Addr) (n c : Nat) (w : World) (h : w.cell? p = some (.slice A n c)) : (Go.method 196 75 (.pointer (some p)) "Less").run Try.prog w = .ok (44, .slice A n c) w := by
  have e : (Go.method 196 75 (.pointer (some p)) "Less").run Try.prog w = (Sem.load .plain p fun v => .pure (44, v)).run Try.prog w := by kernel_rfl
  rw [e]
  simp [go_sem, Sem.run, h]
theorem m_swap (p : Addr) (A : Option Addr) (n c : Nat) (w : World) (h : w.cell? p = some (.slice A n c)) : (Go.method 196 75 (.pointer (some p)) "Swap").run Try.prog w = .ok (45, .slice A n c) w := by
  have e : (Go.method 196 75 (.pointer (some p)) "Swap").run Try.prog w = (Sem.load .plain p fun v => .pure (45, v)).run Try.prog w := by kernel_rfl
  rw [e]
  simp [go_sem, Sem.run, h]
end Go.Proofs.Ytefjoiinoaofcaa

/- The methods on a nil log; a log that is zero. -/
import Derived.Test.YtcfglfnncpcfoaaPlays
namespace Go.Proofs.Ytcfglfnncpcfoaa
open Go.RowKit
set_option maxRecDepth 100000 in
theorem take_nil (e : Ev) (w : World) : Calls Try.prog 27 #[.pointer none, ev e] w fun r w' => r = .returned (.int .i64 1) ∧ Keeps [] w w' := by
  go_enter Try.func27, Try.ntmps27
  go_wp2
  go_ret
  exact ⟨rfl, (Keeps.refl [] w).alloc _⟩
set_option maxRecDepth 100000 in
theorem events_nil (w : World) : Calls Try.prog 25 #[.pointer none] w fun r w' => r = .returned (.slice none 0 0) ∧ w = w' := by
  go_enter Try.func25, Try.ntmps25
  go_wp2
  go_ret
  exact ⟨rfl, rfl⟩
set_option maxRecDepth 100000 in
theorem settle_nil (x : Int) (w : World) : Calls Try.prog 28 #[.pointer none, .int .i64 x] w fun r w' => r = .returned (.slice none 0 0) ∧ w = w' := by
  go_enter Try.func28, Try.ntmps28
  go_wp2
  go_ret
  exact ⟨rfl, rfl⟩
set_option maxRecDepth 100000 in
theorem settled_nil (w : World) : Calls Try.prog 29 #[.pointer none] w fun r w' => r = .returned (.int .i64 (-1)) ∧ w = w' := by
  go_enter Try.func29, Try.ntmps29
  go_wp2
  go_ret
  exact ⟨rfl, rfl⟩
theorem zero_lg (w : World) : IsLg 66 (w.alloc (.cells #[.slice none 0 0, .int .u64 0] 66)) w.heap.size [w.heap.size] Lg.new :=
  ⟨.slice none 0 0, Bk.new _ _ _, eo_nil _, by simp, by simp [Value.ownBlock], by simp [Value.ownBlock], by simp [In], Lg.new_ok⟩
end Go.Proofs.Ytcfglfnncpcfoaa

/- Integers and their numbers. -/
import Derived.Test.YtcfglfnncpcfoaaSmall
namespace Go.Proofs.Ytcfglfnncpcfoaa
open Go.RowKit
theorem uns_sgn (n : Int) : uns (sgn n) = n := by unfold uns sgn; split <;> split <;> omega
theorem sgn_uns (m : Int) (h : 0 ≤ m) : sgn (uns m) = m := by unfold uns sgn; split <;> split <;> omega
theorem sgn_b (n : Int) (h1 : -9223372036854775808 ≤ n) (h2 : n ≤ 9223372036854775807) : 0 ≤ sgn n ∧ sgn n < 18446744073709551616 := by unfold sgn; split <;> omega
theorem uns_b (m : Int) (h1 : 0 ≤ m) (h2 : m < 18446744073709551616) : -9223372036854775808 ≤ uns m ∧ uns m ≤ 9223372036854775807 := by unfold uns; split <;> omega
theorem wrap64_b (n : Int) : -9223372036854775808 ≤ wrap64 n ∧ wrap64 n ≤ 9223372036854775807 := by unfold wrap64; omega


end Go.Proofs.Ytcfglfnncpcfoaa

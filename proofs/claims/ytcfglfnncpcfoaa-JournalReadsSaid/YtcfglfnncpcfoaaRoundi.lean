/- Reading integers that were packed. -/
import Derived.Test.YtcfglfnncpcfoaaPlain
import Derived.Test.YtcfglfnncpcfoaaRin
import Derived.Test.YtcfglfnncpcfoaaSigns
namespace Go.Proofs.Ytcfglfnncpcfoaa
open Go.RowKit Go.Shelf
theorem goI_flat : ∀ (x o : List Int), (∀ n ∈ x, -9223372036854775808 ≤ n ∧ n ≤ 9223372036854775807) → goI x.length (x.flatMap intL) o = (o ++ x, 0)
  | [], o, _ => by simp [goI]
  | n :: x, o, h => by
    obtain ⟨h1, h2⟩ := h n (by simp)
    obtain ⟨b1, b2⟩ := sgn_b n h1 h2
    have hr := readN_numL (sgn n).toNat (by omega) (x.flatMap intL)
    rw [List.length_cons, List.flatMap_cons]
    unfold goI
    rw [intL, hr]
    simp only [ne_eq, not_true_eq_false, if_false, List.drop_left]
    rw [goI_flat x _ (fun t ht => h t (by simp [ht])), List.append_assoc, show (((sgn n).toNat : Nat) : Int) = sgn n by omega, uns_sgn]
    rfl
theorem readI_intsB (x : List Int) (hl : x.length < 18446744073709551616) (h : ∀ n ∈ x, -9223372036854775808 ≤ n ∧ n ≤ 9223372036854775807) : readI (intsB x) = (x, 0) := by
  have hr := readN_numL x.length hl (x.flatMap intL)
  unfold readI intsB
  rw [hr]
  simp only [List.drop_left]
  rw [if_neg (by simp), goI_flat x [] h]
  rfl
end Go.Proofs.Ytcfglfnncpcfoaa

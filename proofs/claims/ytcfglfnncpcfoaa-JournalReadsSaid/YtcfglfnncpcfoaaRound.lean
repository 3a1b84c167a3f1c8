/- Unpacking what was packed. -/
import Derived.Test.YtcfglfnncpcfoaaPlain
import Derived.Test.YtcfglfnncpcfoaaUnp
namespace Go.Proofs.Ytcfglfnncpcfoaa
open Go.RowKit Go.Shelf
theorem stepU_item (s : ByteArray) (h : s.size < 18446744073709551616) (t : List UInt8) (o : List ByteArray) : stepU (itemL s ++ t) o = (t, 0, o ++ [s]) := by
  have hr := readN_numL s.size h (s.data.toList ++ t)
  have hl : s.data.toList.length = s.size := by rw [Array.length_toList]; rfl
  unfold stepU itemL
  rw [List.append_assoc, hr]
  simp only [List.drop_left]
  rw [if_neg (by simp), if_neg (by rw [List.length_append]; omega)]
  rw [List.take_left' hl, List.drop_left' hl, bs_of]
theorem goU_flat : ∀ (x o : List ByteArray), (∀ s ∈ x, s.size < 18446744073709551616) → goU x.length (x.flatMap itemL) o = (o ++ x, 0)
  | [], o, _ => by simp [goU]
  | s :: x, o, h => by
    rw [List.length_cons, List.flatMap_cons]
    unfold goU
    rw [stepU_item s (h s (by simp))]
    simp only [ne_eq, not_true_eq_false, if_false]
    rw [goU_flat x _ (fun t ht => h t (by simp [ht])), List.append_assoc]
    rfl
theorem unpB_packB (x : List ByteArray) (hl : x.length < 18446744073709551616) (h : ∀ s ∈ x, s.size < 18446744073709551616) : unpB (packB x) = (x, 0) := by
  have hr := readN_numL x.length hl (x.flatMap itemL)
  unfold unpB packB
  rw [hr]
  simp only [List.drop_left]
  rw [if_neg (by simp), goU_flat x [] h]
  rfl
end Go.Proofs.Ytcfglfnncpcfoaa

/- No pack is the beginning of another one. -/
import Derived.Test.YtbfghecemppoeaaRound
namespace Go.Proofs.Ytbfghecemppoeaa
open Go.RowKit Go.Shelf
theorem goU_more : ∀ (x o : List ByteArray) (t : List UInt8), (∀ s ∈ x, s.size < 18446744073709551616) → goU x.length (x.flatMap itemL ++ t) o = if t = [] then (o ++ x, 0) else ([], 11)
  | [], o, t, _ => by
    rw [List.append_nil]
    rfl
  | s :: x, o, t, h => by
    rw [List.length_cons, List.flatMap_cons, List.append_assoc]
    unfold goU
    rw [stepU_item s (h s (by simp))]
    simp only [ne_eq, not_true_eq_false, if_false]
    rw [goU_more x _ t (fun t ht => h t (by simp [ht])), List.append_assoc]
    rfl
theorem unpB_more (x : List ByteArray) (t : List UInt8) (hl : x.length < 18446744073709551616) (h : ∀ s ∈ x, s.size < 18446744073709551616) : unpB (packB x ++ t) = if t = [] then (x, 0) else ([], 11) := by
  have hr := readN_numL x.length hl (x.flatMap itemL ++ t)
  unfold unpB packB
  rw [List.append_assoc, hr]
  simp only [List.drop_left]
  rw [if_neg (by simp), goU_more x [] t h]
  rfl
theorem pack_begins (x y : List ByteArray) (hl : x.length < 18446744073709551616) (h : ∀ s ∈ x, s.size < 18446744073709551616) (hl' : y.length < 18446744073709551616) (h' : ∀ s ∈ y, s.size < 18446744073709551616)
    (n : Nat) (hn : (packB y).take n = packB x) : x = y := by
  have h1 : packB y = packB x ++ (packB y).drop n := by rw [← hn, List.take_append_drop]
  have h2 := unpB_packB y hl' h'
  rw [h1, unpB_more x _ hl h] at h2
  split at h2
  · injection h2
  · injection h2 with _ h3
    cases h3
theorem bs_front (l : List UInt8) (n : Nat) : (bs l).extract 0 n = bs (l.take n) := by
  apply ByteArray.ext
  apply Array.ext'
  simp [bs]
theorem bs_inj {a b : List UInt8} (h : bs a = bs b) : a = b := by rw [← bs_list a, h, bs_list]
end Go.Proofs.Ytbfghecemppoeaa

/- A number whose last byte is changed is read no more. -/
import Derived.Test.YtbfghecemppoeaaPlain
namespace Go.Proofs.Ytbfghecemppoeaa
theorem rd_bad : ∀ (f m i acc : Nat), m < f → i ≤ 9 → m * 128 ^ i < 18446744073709551616 → ∃ b : UInt8, (numL m)[(numL m).length - 1]? = some b ∧ b.toNat < 128 ∧ ∀ b' : UInt8, b'.toNat = b.toNat + 128 → (rd i acc ((numL m).set ((numL m).length - 1) b')).2.2 ≠ 0 ∧ (rd i acc ((numL m).set ((numL m).length - 1) b' ++ [0])).2.2 = 11
  | 0, m, _, _, h, _, _ => by omega
  | f + 1, m, i, acc, h, hi, hm => by
    by_cases hlt : m < 128
    · have hb := toNat_ofNat m (by omega)
      rw [numL_last m hlt]
      refine ⟨UInt8.ofNat m, rfl, by omega, fun b' hb' => ?_⟩
      show (rd i acc [b']).2.2 ≠ 0 ∧ (rd i acc [b', 0]).2.2 = 11
      constructor
      · unfold rd
        rw [if_neg (by omega), if_pos (by omega)]
        unfold rd
        by_cases h9 : i + 1 < 10
        · rw [if_pos h9]; decide
        · rw [if_neg h9]; decide
      · unfold rd
        rw [if_neg (by omega), if_pos (by omega)]
        unfold rd
        by_cases h9 : i + 1 = 10
        · rw [if_pos h9]
        · rw [if_neg h9, if_neg (by decide), if_pos (Or.inl ⟨by omega, rfl⟩)]
    · have hb := toNat_ofNat (m % 128 + 128) (by omega)
      have hi8 : i + 1 ≤ 9 := by
        by_cases h9 : i = 9
        · subst h9
          have := Nat.mul_le_mul_right (128 ^ 9) (show 128 ≤ m by omega)
          omega
        · omega
      have hs : m / 128 * 128 ^ (i + 1) + m % 128 * 128 ^ i = m * 128 ^ i := by
        rw [Nat.pow_succ, Nat.mul_comm (128 ^ i) 128, ← Nat.mul_assoc, ← Nat.add_mul]
        congr 1
        omega
      obtain ⟨b, h1, h2, h3⟩ := rd_bad f (m / 128) (i + 1) (acc + m % 128 * 128 ^ i) (by omega) hi8 (by omega)
      have hp := numL_pos (m / 128)
      rw [numL_more m hlt]
      have hk : (UInt8.ofNat (m % 128 + 128) :: numL (m / 128)).length - 1 = ((numL (m / 128)).length - 1) + 1 := by rw [List.length_cons]; omega
      rw [hk]
      refine ⟨b, h1, h2, fun b' hb' => ?_⟩
      rw [List.set_cons_succ, List.cons_append]
      have hstep : ∀ t, rd i acc (UInt8.ofNat (m % 128 + 128) :: t) = rd (i + 1) (acc + m % 128 * 128 ^ i) t := fun t => by
        conv => lhs; unfold rd
        rw [hb, if_neg (by omega), if_pos (by omega), show (m % 128 + 128) % 128 = m % 128 by omega]
      rw [hstep, hstep]
      exact h3 b' hb'
theorem readN_bad (m : Nat) (h : m < 18446744073709551616) : ∃ b : UInt8, (numL m)[(numL m).length - 1]? = some b ∧ b.toNat < 128 ∧ ∀ b' : UInt8, b'.toNat = b.toNat + 128 → (readN ((numL m).set ((numL m).length - 1) b')).2.2 ≠ 0 ∧ (readN ((numL m).set ((numL m).length - 1) b' ++ [0])).2.2 = 11 :=
  rd_bad (m + 1) m 0 0 (by omega) (by omega) (by simpa using h)
end Go.Proofs.Ytbfghecemppoeaa

/- Numbers are read as they were written, and nothing else is. -/
import Derived.Test.YtcfglfnncpcfoaaRnum
namespace Go.Proofs.Ytcfglfnncpcfoaa
theorem toNat_ofNat (x : Nat) (h : x < 256) : (UInt8.ofNat x).toNat = x := by
  rw [UInt8.toNat_ofNat']; exact Nat.mod_eq_of_lt h
theorem numL_pos (m : Nat) : 0 < (numL m).length := by
  by_cases h : m < 128
  · rw [numL_last m h]; simp
  · rw [numL_more m h]; simp
theorem rd_numL : ∀ (f m i acc : Nat) (t : List UInt8), m < f → i ≤ 9 → m * 128 ^ i < 18446744073709551616 → (0 < i → m ≠ 0) → rd i acc (numL m ++ t) = (acc + m * 128 ^ i, i + (numL m).length, 0)
  | 0, m, _, _, _, h, _, _, _ => by omega
  | f + 1, m, i, acc, t, h, hi, hm, hz => by
    by_cases hlt : m < 128
    · rw [numL_last m hlt]
      have hb := toNat_ofNat m (by omega)
      show rd i acc (UInt8.ofNat m :: ([] ++ t)) = _
      unfold rd
      rw [hb, if_neg (by omega), if_neg (by omega), if_neg ?_, Nat.mod_eq_of_lt hlt]
      · rfl
      · rintro (⟨h1, h2⟩ | ⟨h1, h2⟩)
        · exact hz h1 h2
        · subst h1
          have := Nat.mul_le_mul_right (128 ^ 9) h2
          omega
    · rw [numL_more m hlt]
      have hb := toNat_ofNat (m % 128 + 128) (by omega)
      have hi8 : i + 1 ≤ 9 := by
        by_cases h9 : i = 9
        · subst h9
          have := Nat.mul_le_mul_right (128 ^ 9) (show 128 ≤ m by omega)
          omega
        · omega
      show rd i acc (UInt8.ofNat (m % 128 + 128) :: (numL (m / 128) ++ t)) = _
      conv => lhs; unfold rd
      have hs : m / 128 * 128 ^ (i + 1) + m % 128 * 128 ^ i = m * 128 ^ i := by
        rw [Nat.pow_succ, Nat.mul_comm (128 ^ i) 128, ← Nat.mul_assoc, ← Nat.add_mul]
        congr 1
        omega
      rw [hb, if_neg (by omega), if_pos (by omega), show (m % 128 + 128) % 128 = m % 128 by omega, rd_numL f (m / 128) (i + 1) _ t (by omega) hi8 (by omega) (fun _ => by omega)]
      refine Prod.ext ?_ (Prod.ext ?_ rfl)
      · show acc + m % 128 * 128 ^ i + m / 128 * 128 ^ (i + 1) = acc + m * 128 ^ i
        omega
      · show i + 1 + (numL (m / 128)).length = i + (UInt8.ofNat (m % 128 + 128) :: numL (m / 128)).length
        rw [List.length_cons]; omega
/-- A number is read whatever follows. -/
theorem readN_numL (m : Nat) (h : m < 18446744073709551616) (t : List UInt8) : readN (numL m ++ t) = (m, (numL m).length, 0) := by
  have := rd_numL (m + 1) m 0 0 t (by omega) (by omega) (by simpa using h) (by omega)
  rw [readN, this]
  simp
theorem rd_inv : ∀ (l : List UInt8) (i acc n sz : Nat), rd i acc l = (n, sz, 0) → ∃ m, n = acc + m * 128 ^ i ∧ i ≤ sz ∧ numL m = l.take (sz - i) ∧ (0 < i → m ≠ 0)
  | [], i, acc, n, sz, h => by
    unfold rd at h
    split at h <;> simp at h
  | b :: t, i, acc, n, sz, h => by
    have hb256 := b.toNat_lt
    unfold rd at h
    split at h
    · simp at h
    · split at h
      · rename_i hb
        obtain ⟨m, h1, h2, h3, h4⟩ := rd_inv t (i + 1) _ n sz h
        have hm0 : m ≠ 0 := h4 (by omega)
        refine ⟨b.toNat % 128 + 128 * m, ?_, by omega, ?_, fun _ => by omega⟩
        · rw [h1, Nat.add_mul, Nat.pow_succ]
          have : m * (128 ^ i * 128) = 128 * m * 128 ^ i := by rw [Nat.mul_comm (128 ^ i) 128, ← Nat.mul_assoc, Nat.mul_comm m 128]
          omega
        · rw [numL_more _ (by omega), show sz - i = (sz - (i + 1)) + 1 by omega, List.take_succ_cons, ← h3]
          have e1 : (b.toNat % 128 + 128 * m) % 128 + 128 = b.toNat := by omega
          have e2 : (b.toNat % 128 + 128 * m) / 128 = m := by omega
          rw [e1, e2]
          simp
      · split at h
        · simp at h
        · rename_i hb hc
          simp only [Prod.mk.injEq] at h
          obtain ⟨h1, h2, _⟩ := h
          refine ⟨b.toNat, ?_, by omega, ?_, fun hi hz => hc (.inl ⟨hi, hz⟩)⟩
          · rw [← h1, Nat.mod_eq_of_lt (by omega)]
          · rw [numL_last _ (by omega), ← h2, show i + 1 - i = 1 by omega]
            simp
theorem readN_inv {l : List UInt8} {n sz : Nat} (h : readN l = (n, sz, 0)) : numL n = l.take sz := by
  obtain ⟨m, h1, _, h3, _⟩ := rd_inv l 0 0 n sz h
  have : n = m := by simpa using h1
  rw [this, h3]
  simp
end Go.Proofs.Ytcfglfnncpcfoaa

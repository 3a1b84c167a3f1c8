/- A change of up to 32 consecutive bits changes the checksum. -/
import Derived.Test.YtbfghecemppoeaaSum
namespace Go.Proofs.Ytbfghecemppoeaa
theorem bool_xor3 (x y p : Bool) : (x ^^ y) = ((x ^^ p) ^^ (y ^^ p)) := by cases x <;> cases y <;> cases p <;> rfl
theorem bool_xor4 (x y p : Bool) : ((x ^^ y) ^^ p) = ((x ^^ p) ^^ y) := by cases x <;> cases y <;> cases p <;> rfl
theorem bool_xor5 (x y p : Bool) : ((x ^^ y) ^^ p) = (x ^^ (y ^^ p)) := by cases x <;> cases y <;> cases p <;> rfl
theorem half_xor (a b : Nat) : (a ^^^ b) / 2 = (a / 2) ^^^ (b / 2) := by
  have h := Nat.shiftRight_xor_distrib (a := a) (b := b) (i := 1)
  simpa [Nat.shiftRight_eq_div_pow] using h
theorem crcB_xor (a b : Nat) : crcB (a ^^^ b) = crcB a ^^^ crcB b := by
  have hm := Nat.xor_mod_two_eq_one (a := a) (b := b)
  unfold crcB
  rw [half_xor]
  by_cases ha : a % 2 = 1 <;> by_cases hb : b % 2 = 1
  · rw [if_neg (by rw [hm]; simp [ha, hb]), if_pos ha, if_pos hb]
    apply Nat.eq_of_testBit_eq
    intro i
    simp only [Nat.testBit_xor]
    exact bool_xor3 _ _ _
  · rw [if_pos (by rw [hm]; simp [ha, hb]), if_pos ha, if_neg hb]
    apply Nat.eq_of_testBit_eq
    intro i
    simp only [Nat.testBit_xor]
    exact bool_xor4 _ _ _
  · rw [if_pos (by rw [hm]; simp [ha, hb]), if_neg ha, if_pos hb]
    apply Nat.eq_of_testBit_eq
    intro i
    simp only [Nat.testBit_xor]
    exact bool_xor5 _ _ _
  · rw [if_neg (by rw [hm]; simp [ha, hb]), if_neg ha, if_neg hb]
theorem it_xor (a b : Nat) : ∀ j, it j (a ^^^ b) = it j a ^^^ it j b
  | 0 => rfl
  | j + 1 => by rw [it, it_xor a b j, crcB_xor]; rfl
theorem nxor0 {a b : Nat} (h : a ^^^ b = 0) : a = b := by
  have h1 : (a ^^^ b) ^^^ b = 0 ^^^ b := by rw [h]
  rwa [Nat.xor_assoc, Nat.xor_self, Nat.xor_zero, Nat.zero_xor] at h1
theorem crcB_null {a : Nat} (ha : a < 4294967296) (h : crcB a = 0) : a = 0 := by
  unfold crcB at h
  split at h
  · have := nxor0 h
    omega
  · omega
theorem it_null {a : Nat} (ha : a < 4294967296) : ∀ j, it j a = 0 → a = 0
  | 0, h => h
  | j + 1, h => it_null ha j (crcB_null (it_lt ha j) h)
theorem it_inj {a b : Nat} (ha : a < 4294967296) (hb : b < 4294967296) (j : Nat) (h : it j a = it j b) : a = b := by
  have h1 : it j (a ^^^ b) = 0 := by rw [it_xor, h, Nat.xor_self]
  exact nxor0 (it_null (Nat.xor_lt_two_pow (n := 32) ha hb) j h1)
theorem crcB_two (y : Nat) : crcB (2 * y) = y := by unfold crcB; rw [if_neg (by omega)]; omega
theorem it_256 (y : Nat) : it 8 (256 * y) = y := by
  have e : 256 * y = 2 * (2 * (2 * (2 * (2 * (2 * (2 * (2 * y))))))) := by omega
  rw [e]
  simp only [it, crcB_two]
theorem crcS_inj : ∀ (l : List UInt8) {a b : Nat}, a < 4294967296 → b < 4294967296 → crcS a l = crcS b l → a = b
  | [], _, _, _, _, h => h
  | x :: t, a, b, ha, hb, h => by
    have h1 := crcS_inj t (crc8_lt ha x.toNat_lt) (crc8_lt hb x.toNat_lt) h
    have hx : x.toNat < 2 ^ 32 := by have := x.toNat_lt; omega
    have h2 := it_inj (Nat.xor_lt_two_pow (n := 32) ha hx) (Nat.xor_lt_two_pow (n := 32) hb hx) 8 h1
    have h3 : (a ^^^ x.toNat) ^^^ x.toNat = (b ^^^ x.toNat) ^^^ x.toNat := by rw [h2]
    rwa [Nat.xor_assoc, Nat.xor_assoc, Nat.xor_self, Nat.xor_zero, Nat.xor_zero] at h3
theorem crc8_diff (a b x d : Nat) : crc8 a x ^^^ crc8 b (x ^^^ d) = it 8 ((a ^^^ b) ^^^ d) := by
  unfold crc8
  rw [← it_xor]
  congr 1
  apply Nat.eq_of_testBit_eq
  intro i
  simp only [Nat.testBit_xor]
  cases a.testBit i <;> cases b.testBit i <;> cases x.testBit i <;> cases d.testBit i <;> rfl
/-- One byte back: the difference ahead of it. -/
theorem back (D d E : Nat) (hD : D < 4294967296) (hd : d < 256) (hE : E < 16777216) (h : it 8 (D ^^^ d) = E) : D = (256 * E) ^^^ d := by
  have h1 : it 8 (D ^^^ d) = it 8 (256 * E) := by rw [h, it_256]
  have h2 := it_inj (Nat.xor_lt_two_pow (n := 32) (show D < 2 ^ 32 from hD) (show d < 2 ^ 32 by omega)) (by omega) 8 h1
  have h3 : (D ^^^ d) ^^^ d = (256 * E) ^^^ d := by rw [h2]
  rwa [Nat.xor_assoc, Nat.xor_self, Nat.xor_zero] at h3
theorem xor_b24 {a b n : Nat} (ha : a < 2 ^ n) (hb : b < 2 ^ n) : a ^^^ b < 2 ^ n := Nat.xor_lt_two_pow ha hb
theorem four_diff (r b0 b1 b2 b3 d0 d1 d2 d3 : Nat) (hr : r < 4294967296) (h0 : b0 < 256) (h1 : b1 < 256) (h2 : b2 < 256) (h3 : b3 < 256) (e0 : d0 < 256) (e1 : d1 < 256) (e2 : d2 < 256) (e3 : d3 < 256)
    (h : crc8 (crc8 (crc8 (crc8 r b0) b1) b2) b3 = crc8 (crc8 (crc8 (crc8 r (b0 ^^^ d0)) (b1 ^^^ d1)) (b2 ^^^ d2)) (b3 ^^^ d3)) : d0 = 0 ∧ d1 = 0 ∧ d2 = 0 ∧ d3 = 0 := by
  have x0 : b0 ^^^ d0 < 256 := xor_b24 (n := 8) h0 e0
  have x1 : b1 ^^^ d1 < 256 := xor_b24 (n := 8) h1 e1
  have x2 : b2 ^^^ d2 < 256 := xor_b24 (n := 8) h2 e2
  have x3 : b3 ^^^ d3 < 256 := xor_b24 (n := 8) h3 e3
  have s1 := crc8_lt hr h0
  have s2 := crc8_lt s1 h1
  have s3 := crc8_lt s2 h2
  have t1 := crc8_lt hr x0
  have t2 := crc8_lt t1 x1
  have t3 := crc8_lt t2 x2
  have f0 := crc8_diff r r b0 d0
  have f1 := crc8_diff (crc8 r b0) (crc8 r (b0 ^^^ d0)) b1 d1
  have f2 := crc8_diff (crc8 (crc8 r b0) b1) (crc8 (crc8 r (b0 ^^^ d0)) (b1 ^^^ d1)) b2 d2
  have f3 := crc8_diff (crc8 (crc8 (crc8 r b0) b1) b2) (crc8 (crc8 (crc8 r (b0 ^^^ d0)) (b1 ^^^ d1)) (b2 ^^^ d2)) b3 d3
  rw [h, Nat.xor_self] at f3
  rw [Nat.xor_self, Nat.zero_xor] at f0
  have g1 : crc8 r b0 ^^^ crc8 r (b0 ^^^ d0) < 4294967296 := xor_b24 (n := 32) s1 t1
  have g2 : crc8 (crc8 r b0) b1 ^^^ crc8 (crc8 r (b0 ^^^ d0)) (b1 ^^^ d1) < 4294967296 := xor_b24 (n := 32) s2 t2
  have g3 : crc8 (crc8 (crc8 r b0) b1) b2 ^^^ crc8 (crc8 (crc8 r (b0 ^^^ d0)) (b1 ^^^ d1)) (b2 ^^^ d2) < 4294967296 := xor_b24 (n := 32) s3 t3
  generalize crc8 r b0 ^^^ crc8 r (b0 ^^^ d0) = D1 at f0 f1 g1
  generalize crc8 (crc8 r b0) b1 ^^^ crc8 (crc8 r (b0 ^^^ d0)) (b1 ^^^ d1) = D2 at f1 f2 g2
  generalize crc8 (crc8 (crc8 r b0) b1) b2 ^^^ crc8 (crc8 (crc8 r (b0 ^^^ d0)) (b1 ^^^ d1)) (b2 ^^^ d2) = D3 at f2 f3 g3
  have k3 := back D3 d3 0 g3 e3 (by omega) f3.symm
  rw [Nat.mul_zero, Nat.zero_xor] at k3
  have k2 := back D2 d2 D3 g2 e2 (by omega) f2.symm
  have b2 : D2 < 65536 := by rw [k2]; exact xor_b24 (n := 16) (by omega) (by omega)
  have k1 := back D1 d1 D2 g1 e1 (by omega) f1.symm
  have b1 : D1 < 16777216 := by rw [k1]; exact xor_b24 (n := 24) (by omega) (by omega)
  have k0 := back 0 d0 D1 (by omega) e0 b1 (by rw [Nat.zero_xor]; exact f0.symm)
  have q0 : d0 = 256 * D1 := (nxor0 k0.symm).symm
  have z1 : D1 = 0 := by omega
  rw [z1] at k1
  have q1 : d1 = 256 * D2 := (nxor0 k1.symm).symm
  have z2 : D2 = 0 := by omega
  rw [z2] at k2
  have q2 : d2 = 256 * D3 := (nxor0 k2.symm).symm
  omega
/-- The bytes behind i steps of the change. -/
def flp (l : List UInt8) (k c : Nat) : Nat → List UInt8
  | 0 => l
  | i + 1 => (flp l k c i).set (k + i) (UInt8.ofNat ((l.getD (k + i) 0).toNat ^^^ (c / 256 ^ i % 256)))
theorem flp_length (l : List UInt8) (k c : Nat) : ∀ i, (flp l k c i).length = l.length
  | 0 => rfl
  | i + 1 => by rw [flp, List.length_set, flp_length l k c i]
theorem flp_ahead (l : List UInt8) (k c : Nat) : ∀ i j, i ≤ j → (flp l k c i)[k + j]? = l[k + j]?
  | 0, _, _ => rfl
  | i + 1, j, h => by rw [flp, List.getElem?_set, if_neg (by omega), flp_ahead l k c i j (by omega)]
theorem four_of {l : List UInt8} {k : Nat} (h : k + 4 ≤ l.length) : l = l.take k ++ (l.getD k 0 :: l.getD (k + 1) 0 :: l.getD (k + 2) 0 :: l.getD (k + 3) 0 :: l.drop (k + 4)) := by
  apply List.ext_getElem?
  intro i
  by_cases hi : i < k
  · rw [List.getElem?_append_left (by simp; omega), List.getElem?_take, if_pos hi]
  · rw [List.getElem?_append_right (by simp; omega), List.length_take, Nat.min_eq_left (by omega)]
    obtain ⟨j, rfl⟩ : ∃ j, i = k + j := ⟨i - k, by omega⟩
    rw [Nat.add_sub_cancel_left]
    match j with
    | 0 => simp [List.getD, List.getElem?_eq_getElem (show k < l.length by omega)]
    | 1 => simp [List.getD, List.getElem?_eq_getElem (show k + 1 < l.length by omega)]
    | 2 => simp [List.getD, List.getElem?_eq_getElem (show k + 2 < l.length by omega)]
    | 3 => simp [List.getD, List.getElem?_eq_getElem (show k + 3 < l.length by omega)]
    | j + 4 => simp [List.getElem?_drop]; congr 1; omega
theorem flp_at (l : List UInt8) (k c : Nat) (h : k + 4 ≤ l.length) (j : Nat) (hj : j < 4) : ∀ i, i ≤ 4 → j < i → (flp l k c i)[k + j]? = some (UInt8.ofNat ((l.getD (k + j) 0).toNat ^^^ (c / 256 ^ j % 256)))
  | 0, _, hi => by omega
  | i + 1, hi4, hi => by
    by_cases e : j = i
    · subst e
      rw [flp, List.getElem?_set, if_pos rfl, if_pos (by rw [flp_length]; omega)]
    · rw [flp, List.getElem?_set, if_neg (by omega), flp_at l k c h j hj i (by omega) (by omega)]
theorem flp_out (l : List UInt8) (k c j : Nat) (hj : j < k ∨ k + 4 ≤ j) : ∀ i, i ≤ 4 → (flp l k c i)[j]? = l[j]?
  | 0, _ => rfl
  | i + 1, hi => by rw [flp, List.getElem?_set, if_neg (by omega), flp_out l k c j hj i (by omega)]
theorem flp_four (l : List UInt8) (k c : Nat) (h : k + 4 ≤ l.length) : flp l k c 4 = l.take k ++ (UInt8.ofNat ((l.getD (k + 0) 0).toNat ^^^ (c / 256 ^ 0 % 256)) :: UInt8.ofNat ((l.getD (k + 1) 0).toNat ^^^ (c / 256 ^ 1 % 256)) :: UInt8.ofNat ((l.getD (k + 2) 0).toNat ^^^ (c / 256 ^ 2 % 256)) :: UInt8.ofNat ((l.getD (k + 3) 0).toNat ^^^ (c / 256 ^ 3 % 256)) :: l.drop (k + 4)) := by
  have h4 := four_of (l := flp l k c 4) (k := k) (by rw [flp_length]; exact h)
  have et : (flp l k c 4).take k = l.take k := by
    apply List.ext_getElem?
    intro i
    rw [List.getElem?_take, List.getElem?_take]
    split
    · exact flp_out l k c i (by omega) 4 (by omega)
    · rfl
  have ed : (flp l k c 4).drop (k + 4) = l.drop (k + 4) := by
    apply List.ext_getElem?
    intro i
    rw [List.getElem?_drop, List.getElem?_drop, flp_out l k c _ (by omega) 4 (by omega)]
  have eg : ∀ j, j < 4 → (flp l k c 4).getD (k + j) 0 = UInt8.ofNat ((l.getD (k + j) 0).toNat ^^^ (c / 256 ^ j % 256)) := fun j hj => by
    rw [List.getD, flp_at l k c h j hj 4 (by omega) (by omega)]; rfl
  rw [et, ed] at h4
  rw [h4, show (flp l k c 4).getD k 0 = _ from eg 0 (by omega), eg 1 (by omega), eg 2 (by omega), eg 3 (by omega)]
theorem u8_small (x : Nat) (h : x < 256) : (UInt8.ofNat x).toNat = x := by
  rw [UInt8.toNat_ofNat']; exact Nat.mod_eq_of_lt h
theorem sumN_flp (l : List UInt8) (k c : Nat) (h : k + 4 ≤ l.length) (hc : c < 4294967296) (h0 : c ≠ 0) : sumN (flp l k c 4) ≠ sumN l := by
  intro he
  have hq : crcS 4294967295 (flp l k c 4) = crcS 4294967295 l := by
    have a := crcS_lt (flp l k c 4) (r := 4294967295) (by omega)
    have b := crcS_lt l (r := 4294967295) (by omega)
    unfold sumN at he
    omega
  rw [flp_four l k c h] at hq
  conv at hq => rhs; rw [four_of h]
  unfold crcS at hq
  rw [List.foldl_append, List.foldl_append] at hq
  simp only [List.foldl_cons] at hq
  have hr : (l.take k).foldl (fun r b => crc8 r b.toNat) 4294967295 < 4294967296 := crcS_lt (l.take k) (by omega)
  generalize (l.take k).foldl (fun r b => crc8 r b.toNat) 4294967295 = r at hq hr
  have b0 := (l.getD (k + 0) 0).toNat_lt
  have b1 := (l.getD (k + 1) 0).toNat_lt
  have b2 := (l.getD (k + 2) 0).toNat_lt
  have b3 := (l.getD (k + 3) 0).toNat_lt
  have m0 : c / 256 ^ 0 % 256 < 256 := Nat.mod_lt _ (by omega)
  have m1 : c / 256 ^ 1 % 256 < 256 := Nat.mod_lt _ (by omega)
  have m2 : c / 256 ^ 2 % 256 < 256 := Nat.mod_lt _ (by omega)
  have m3 : c / 256 ^ 3 % 256 < 256 := Nat.mod_lt _ (by omega)
  rw [u8_small _ (xor_b24 (n := 8) b0 m0), u8_small _ (xor_b24 (n := 8) b1 m1), u8_small _ (xor_b24 (n := 8) b2 m2), u8_small _ (xor_b24 (n := 8) b3 m3)] at hq
  have y0 := crc8_lt hr (xor_b24 (n := 8) b0 m0)
  have y1 := crc8_lt y0 (xor_b24 (n := 8) b1 m1)
  have y2 := crc8_lt y1 (xor_b24 (n := 8) b2 m2)
  have y3 := crc8_lt y2 (xor_b24 (n := 8) b3 m3)
  have z0 := crc8_lt hr b0
  have z1 := crc8_lt z0 b1
  have z2 := crc8_lt z1 b2
  have z3 := crc8_lt z2 b3
  have hs := crcS_inj (l.drop (k + 4)) y3 z3 hq
  have hd := four_diff r _ _ _ _ _ _ _ _ hr b0 b1 b2 b3 m0 m1 m2 m3 hs.symm
  omega
end Go.Proofs.Ytbfghecemppoeaa

/- The methods of codec's readers: number, next. -/
import Derived.Test.YtcfglfnncpcfoaaPack
import Derived.Deep.RegionLaw
import Derived.RegionTactic
import Derived.BigRegion
import Derived.Lib.IndexBytes
namespace Go.Proofs.Ytcfglfnncpcfoaa
open Go.RowKit Go.Shelf
theorem rd_spec : ∀ (l : List UInt8) (i acc : Nat), i ≤ 10 → acc < 128 ^ i → (i = 10 → acc < 128 ^ 10) →
    ((rd i acc l).2.2 = 0 ∧ i < (rd i acc l).2.1 ∧ (rd i acc l).2.1 ≤ i + l.length ∧ (rd i acc l).2.1 ≤ 10 ∧ (rd i acc l).1 < 18446744073709551616) ∨ rd i acc l = (0, 0, 10) ∨ rd i acc l = (0, 0, 11)
  | [], i, acc, _, _, _ => by
    unfold rd
    split
    · exact .inr (.inl rfl)
    · exact .inr (.inr rfl)
  | b :: t, i, acc, hi, ha, _ => by
    unfold rd
    split
    · exact .inr (.inr rfl)
    · rename_i h10
      split
      · have := rd_spec t (i + 1) (acc + b.toNat % 128 * 128 ^ i) (by omega) (acc_lt ha) (fun h => by
          have := acc_lt (b := b.toNat) ha
          rw [h] at this
          exact this)
        rcases this with ⟨h1, h2, h3, h4, h5⟩ | h | h
        · exact .inl ⟨h1, by omega, by simp only [List.length_cons]; omega, h4, h5⟩
        · exact .inr (.inl h)
        · exact .inr (.inr h)
      · split
        · exact .inr (.inr rfl)
        · rename_i h128 hform
          refine .inl ⟨rfl, by simp, by simp, by simp; omega, ?_⟩
          have hp : (128 : Nat) ^ i ≤ 128 ^ 9 := Nat.pow_le_pow_right (by omega) (by omega)
          show acc + b.toNat % 128 * 128 ^ i < _
          by_cases h9 : i = 9
          · subst h9
            have hb : b.toNat % 128 ≤ 1 := by omega
            have := Nat.mul_le_mul_right (128 ^ 9) hb
            omega
          · have h8 : (128 : Nat) ^ (i + 1) ≤ 128 ^ 9 := Nat.pow_le_pow_right (by omega) (by omega)
            have := acc_lt (b := b.toNat) ha
            omega
theorem readN_spec (l : List UInt8) : ((readN l).2.2 = 0 ∧ 0 < (readN l).2.1 ∧ (readN l).2.1 ≤ l.length ∧ (readN l).1 < 18446744073709551616) ∨ readN l = (0, 0, 10) ∨ readN l = (0, 0, 11) := by
  rcases rd_spec l 0 0 (by omega) (by simp) (by omega) with ⟨h1, h2, h3, _, h5⟩ | h | h
  · exact .inl ⟨h1, h2, by rw [Nat.zero_add] at h3; exact h3, h5⟩
  · exact .inr (.inl h)
  · exact .inr (.inr h)
theorem readN_size (l : List UInt8) : (readN l).2.1 ≤ l.length := by
  rcases readN_spec l with ⟨_, _, h, _⟩ | h | h
  · exact h
  · rw [h]; simp
  · rw [h]; simp
theorem readN_lt (l : List UInt8) : (readN l).1 < 18446744073709551616 := by
  rcases readN_spec l with ⟨_, _, _, h⟩ | h | h
  · exact h
  · rw [h]; simp
  · rw [h]; simp
theorem bs_ext {s t : ByteArray} (h : s.data.toList = t.data.toList) : s = t := by rw [← bs_of s, ← bs_of t, h]
theorem bs_drop (l : List UInt8) (k : Nat) : (bs l).extract k (bs l).size = bs (l.drop k) := bs_ext (by rw [Lib.extract_to_end, bs_list, bs_list])
theorem bs_take (l : List UInt8) (k : Nat) : (bs l).extract 0 k = bs (l.take k) := bs_ext (by rw [ext_take, bs_list, bs_list])
theorem read_bs (l : List UInt8) (w : World) (hs : l.length ≤ 140737488355328) : Calls Try.prog 67 #[.string (bs l)] w fun e w' => e = .returned (.tuple #[.int .u64 ((readN l).1 : Int), .int .i64 ((readN l).2.1 : Int), .int .i64 (readN l).2.2]) ∧ Keeps [] w w' := by
  have := read_any (bs l) w (by rw [bs_size]; exact hs)
  rw [bs_list] at this
  exact this
set_option maxHeartbeats 1000000 in
set_option maxRecDepth 100000 in
theorem number_at (b : Nat) (t : TypeId) (l : List UInt8) (cs : List Value) (w : World) (hl : l.length ≤ 140737488355328) (hb : Bk w b t (.string (bs l) :: .int .i64 0 :: cs).toArray) :
    Calls Try.prog 56 #[.pointer (some ⟨b, 0, none⟩)] w fun e w' => e = .returned (.int .u64 ((readN l).1 : Int)) ∧ Bk w' b t (.string (bs (l.drop (readN l).2.1)) :: .int .i64 (readN l).2.2 :: cs).toArray ∧ Keeps [b] w w' := by
  have c0 : w.cell? ⟨b, 0, none⟩ = some (.string (bs l)) := by rw [hb.cell]; rfl
  have c1 : w.cell? ⟨b, 1, none⟩ = some (.int .i64 0) := by rw [hb.cell]; rfl
  have HB := hide hb
  clear hb
  go_enter Try.func56, Try.ntmps56
  go_wp2_with fail
  refine (read_bs l w hl).mono ?_
  rintro e w1 ⟨rfl, k1⟩
  have hb1 := HB.out.keep k1 (by simp)
  have HK1 := hide (k1.nil (F := [b]))
  have HB1 := hide hb1
  have c0 : w1.cell? ⟨b, 0, none⟩ = some (.string (bs l)) := by rw [hb1.cell]; rfl
  have c1 : w1.cell? ⟨b, 1, none⟩ = some (.int .i64 0) := by rw [hb1.cell]; rfl
  have f0 := hb1.free 0
  have f1 := hb1.free 1
  have hsz := readN_size l
  have hex := bs_drop l (readN l).2.1
  have hbl := bs_size l
  obtain ⟨⟨n, sz, er⟩, hr⟩ : ∃ r, r = readN l := ⟨_, rfl⟩
  rw [← hr] at hsz hex ⊢
  simp only at hsz hex ⊢
  have z0 : (0 : Int) ≤ (sz : Int) := by omega
  have z1 : (sz : Int) ≤ ((bs l).size : Int) := by rw [hbl]; omega
  have HR := hide hr
  clear hb1 k1 hr hbl
  go_wp2
  go_ret
  refine ⟨by rw [← HR.out]; rfl, ?_, (HK1.out.setCell (.inl (by simp)) _).setCell (.inl (by simp)) _⟩
  rw [← HR.out]
  have := (HB1.out.set 0 (.string (bs (l.drop sz)))).set 1 (.int .i64 er)
  simpa using this
end Go.Proofs.Ytcfglfnncpcfoaa

/- The walk of DiskFails. -/
import Derived.Test.YtppgddigcoojiaaOwn
namespace Go.Proofs.Ytppgddigcoojiaa
open Go.RowKit
attribute [local go_sem ↓] Go.wp_at_zero Go.wp_at_succ

/-- The disk behind i of the calls, of which 'many' succeed. -/
structure FI (many i : Nat) (S : DS) : Prop where
  f : S.failing = true
  l : S.left = ((many - i : Nat) : Int)
  c : S.calls = min i many
  n : S.now.length ≤ min i many
  p : S.pieces.length ≤ i
theorem FI.start (many : Nat) : FI many 0 (failS DS.new many) := ⟨by simp [failS]; omega, by simp [failS], by simp [failS, DS.new], by simp [failS, DS.new], by simp [failS, DS.new]⟩
theorem FI.off {many i : Nat} {S : DS} (h : FI many i S) : S.off = decide (many ≤ i) := by
  unfold DS.off
  rw [h.f, h.l]
  by_cases hm : many ≤ i
  · simp [hm]
  · simp only [Bool.true_and, hm, decide_false]
    have : ((many - i : Nat) : Int) ≠ 0 := by omega
    simpa using this
theorem FI.sync {many i : Nat} {S : DS} (h : FI many i S) : syncE S = (if (many : Int) ≤ i then 70 else 0) ∧ FI many (i + 1) (syncD S) := by
  have ho := h.off
  unfold syncE syncD
  rw [ho]
  by_cases hm : many ≤ i
  · have hm' : (many : Int) ≤ i := by omega
    simp only [hm, hm', decide_true, if_true]
    exact ⟨trivial, h.f, by rw [h.l]; omega, by rw [h.c]; omega, by have := h.n; omega, by have := h.p; omega⟩
  · have hm' : ¬ (many : Int) ≤ i := by omega
    simp only [hm, hm', decide_false, if_false]
    refine ⟨by simp, ?_, ?_, ?_, ?_, ?_⟩
    · simp [syncS, callS, h.f]
    · simp [syncS, callS, h.f, h.l]; omega
    · simp [syncS, callS, h.c]; omega
    · have := h.n; simp [syncS, callS]; omega
    · simp [syncS, callS]
theorem FI.write {many i : Nat} {S : DS} (h : FI many i S) (hi : i ≤ 1000) : writeE S i [122] = (if (many : Int) ≤ i then 70 else 0) ∧ FI many (i + 1) (writeD S i [122]) := by
  have ho := h.off
  have hb : wbad (i : Int) 1 = false := by simp [wbad]; omega
  unfold writeE writeD
  rw [ho]
  simp only [List.length_cons, List.length_nil, Nat.zero_add, hb]
  by_cases hm : many ≤ i
  · have hm' : (many : Int) ≤ i := by omega
    simp only [hm, hm', decide_true, if_true]
    exact ⟨by simp, h.f, by have := h.l; simp at this ⊢; omega, by have := h.c; simp; omega, by have := h.n; simp; omega, by have := h.p; simp; omega⟩
  · have hm' : ¬ (many : Int) ≤ i := by omega
    simp only [hm, hm', decide_false, if_false]
    have hp := parts_le i [122]
    refine ⟨by simp, ?_, ?_, ?_, ?_, ?_⟩
    · simp [writeS, callS, h.f]
    · simp [writeS, callS, h.f, h.l]; omega
    · simp [writeS, callS, h.c]; omega
    · have := h.n; simp [writeS, callS, putL_length]; omega
    · have := h.p; simp [writeS, callS] at hp ⊢; omega
def FG (w1 : World) (g many i : Nat) (wr : World) : Prop := ∃ F S, Held w1 wr g F S ∧ FI many i S

set_option maxRecDepth 100000 in
set_option maxHeartbeats 3200000 in
theorem fails_walk (n bits more : Int) (w : World) (hn1 : 0 ≤ n) (_hn2 : n ≤ 255) (_hb1 : 0 ≤ bits) (_hb2 : bits ≤ 4294967295) (hm1 : 0 ≤ more) (_hm2 : more ≤ 255) :
    Calls Try.prog 7 #[.int .u8 n, .int .u32 bits, .int .u8 more] w fun e w' => e = .returned (.bool true) ∧ Keeps [] w w' := by
  have m0 : 0 ≤ n % 30 := Int.emod_nonneg _ (by omega)
  have m1 : n % 30 < 30 := Int.emod_lt_of_pos _ (by omega)
  have p0 : 0 ≤ more % 5 := Int.emod_nonneg _ (by omega)
  have p1 : more % 5 < 5 := Int.emod_lt_of_pos _ (by omega)
  obtain ⟨many, hmany⟩ : ∃ k : Nat, n % 30 = k := ⟨(n % 30).toNat, by omega⟩
  obtain ⟨mr, hmr⟩ : ∃ k : Nat, more % 5 = k := ⟨(more % 5).toNat, by omega⟩
  have mb : many < 30 := by omega
  have rb : mr < 5 := by omega
  have t1 : n.tmod 30 = many := by rw [Int.tmod_eq_emod_of_nonneg hn1]; exact hmany
  have t2 : more.tmod 5 = mr := by rw [Int.tmod_eq_emod_of_nonneg hm1]; exact hmr
  clear m0 m1 p0 p1 hmany hmr
  go_enter Try.func7, Try.ntmps7
  go_wp2_with fail
  refine (sanity_any w).mono ?_
  rintro e w1 ⟨rfl, hk1⟩
  have HK1 := hide hk1
  clear hk1
  go_wp2_with fail
  refine (new_any w1).mono ?_
  rintro e w2 ⟨rfl, hd2, hk2⟩
  have HH2 : Hid (Held w1 w2 w1.heap.size [w1.heap.size] DS.new) := hide ⟨hd2, adds_one w1, hk2⟩
  clear hd2 hk2
  generalize w1.heap.size = g at HH2 ⊢
  go_wp2_with fail
  refine (fail_any g _ _ many w2 HH2.out.d (by omega) (by omega)).mono ?_
  rintro e w3 ⟨rfl, hd3, hk3⟩
  have hfg : FG w1 g many 0 w3 := by
    refine ⟨_, _, ⟨hd3, HH2.out.a, HH2.out.k.trans hk3 ?_⟩, FI.start many⟩
    intro i hi
    exact .inr ((HH2.out.a i (by simpa using hi)).resolve_left (by simp))
  have HFG := hide hfg
  clear hfg hd3 hk3 HH2
  have s1 : IntKind.i64.wrap ((many : Int) + (mr : Int)) = many + mr := IntWalk.i64_in _ (by omega)
  have s2 : IntKind.i64.wrap ((many : Int) + (mr : Int) + 1) = many + mr + 1 := IntWalk.i64_in _ (by omega)
  go_wp2_with fail
  go_loopw [10] (fun i wr => ∃ k : Nat, i = .int .i64 k ∧ k ≤ many + mr + 1 ∧ FG w1 g many k wr) (fun i _ => many + mr + 1 - (intOf i).toNat)
  case atStart => exact ⟨0, rfl, Nat.zero_le _, HFG.out⟩
  case round =>
    obtain ⟨k, rfl, hk, hG⟩ := hrel
    obtain ⟨F, S, hH, hI⟩ := hG
    by_cases hlt : k < many + mr + 1
    · have d1 : decide ((k : Int) < (many : Int) + mr + 1) = true := by simp; omega
      have hsy := hI.sync
      have hwr := hI.write (by omega)
      have hcl := hI.c
      have hpl := hI.p
      have HS := hide hsy
      have HW := hide hwr
      have HH := hide hH
      clear hsy hwr hH hI
      by_cases hm : (many : Int) ≤ k
      · have d2 : decide ((many : Int) ≤ k) = true := by simp; omega
        rw [if_pos hm] at HS HW
        have tm : (k : Int).tmod 32 = ((k % 32 : Nat) : Int) := by rw [Int.tmod_eq_emod_of_nonneg (by omega)]; omega
        go_wp2_with fail
        · refine (sync_any g F S wr HH.out.d (by omega)).mono ?_
          rintro e w4 ⟨rfl, F4, hd4, ha4, hk4⟩
          rw [HS.out.1]
          have hfg : FG w1 g many (k + 1) w4 := ⟨F4, _, ⟨hd4, (own_step HH.out.k HH.out.a ha4 hk4).2, (own_step HH.out.k HH.out.a ha4 hk4).1⟩, HS.out.2⟩
          have HFG := hide hfg
          clear hfg hd4 ha4 hk4 HS HW HH
          go_wp2_with fail
          go_roundw
          case rel => exact ⟨k + 1, by go_num, by omega, HFG.out⟩
          case measure => simp [intOf]; omega
        · refine (write_any g F S k ⟨#[122]⟩ wr HH.out.d (by omega) (by omega) (by simp [ByteArray.size]) (by omega) (by omega)).mono ?_
          rintro e w4 ⟨rfl, F4, hd4, ha4, hk4⟩
          have e4 : writeE S k (ByteArray.mk #[122]).data.toList = 70 := HW.out.1
          rw [e4]
          have hfg : FG w1 g many (k + 1) w4 := ⟨F4, _, ⟨hd4, (own_step HH.out.k HH.out.a ha4 hk4).2, (own_step HH.out.k HH.out.a ha4 hk4).1⟩, HW.out.2⟩
          have HFG := hide hfg
          clear hfg hd4 ha4 hk4 HS HW HH e4
          go_wp2_with fail
          go_roundw
          case rel => exact ⟨k + 1, by go_num, by omega, HFG.out⟩
          case measure => simp [intOf]; omega
      · have d2 : decide ((many : Int) ≤ k) = false := by simp; omega
        rw [if_neg hm] at HS HW
        have tm : (k : Int).tmod 32 = ((k % 32 : Nat) : Int) := by rw [Int.tmod_eq_emod_of_nonneg (by omega)]; omega
        go_wp2_with fail
        · refine (sync_any g F S wr HH.out.d (by omega)).mono ?_
          rintro e w4 ⟨rfl, F4, hd4, ha4, hk4⟩
          rw [HS.out.1]
          have hfg : FG w1 g many (k + 1) w4 := ⟨F4, _, ⟨hd4, (own_step HH.out.k HH.out.a ha4 hk4).2, (own_step HH.out.k HH.out.a ha4 hk4).1⟩, HS.out.2⟩
          have HFG := hide hfg
          clear hfg hd4 ha4 hk4 HS HW HH
          go_wp2_with fail
          go_roundw
          case rel => exact ⟨k + 1, by go_num, by omega, HFG.out⟩
          case measure => simp [intOf]; omega
        · refine (write_any g F S k ⟨#[122]⟩ wr HH.out.d (by omega) (by omega) (by simp [ByteArray.size]) (by omega) (by omega)).mono ?_
          rintro e w4 ⟨rfl, F4, hd4, ha4, hk4⟩
          have e4 : writeE S k (ByteArray.mk #[122]).data.toList = 0 := HW.out.1
          rw [e4]
          have hfg : FG w1 g many (k + 1) w4 := ⟨F4, _, ⟨hd4, (own_step HH.out.k HH.out.a ha4 hk4).2, (own_step HH.out.k HH.out.a ha4 hk4).1⟩, HW.out.2⟩
          have HFG := hide hfg
          clear hfg hd4 ha4 hk4 HS HW HH e4
          go_wp2_with fail
          go_roundw
          case rel => exact ⟨k + 1, by go_num, by omega, HFG.out⟩
          case measure => simp [intOf]; omega
    · have d1 : decide ((k : Int) < (many : Int) + mr + 1) = false := by simp; omega
      have hcl : S.calls = many := by rw [hI.c]; omega
      have hnl : S.now.length ≤ many := by have := hI.n; omega
      have hpl := hI.p
      have HH := hide hH
      clear hH hI
      obtain ⟨len, hlen⟩ : ∃ len, S.now.length = len := ⟨_, rfl⟩
      rw [hlen] at hnl
      have d3 : decide ((len : Int) ≤ many) = true := by simp; omega
      have s3 : IntKind.i64.wrap ((many : Int) + 1) = many + 1 := IntWalk.i64_in _ (by omega)
      go_wp2_with fail
      refine (calls_at g F S many wr HH.out.d hcl).mono ?_
      rintro e w4 ⟨rfl, rfl⟩
      go_wp2_with fail
      refine (size_at g F S len wr HH.out.d hlen).mono ?_
      rintro e w4 ⟨rfl, rfl⟩
      go_wp2_with fail
      refine (fail_any g F S (-1) wr HH.out.d (by omega) (by omega)).mono ?_
      rintro e w4 ⟨rfl, hd4, hk4⟩
      have hH4 : Held w1 w4 g F (failS S (-1)) := ⟨hd4, HH.out.a, HH.out.k.trans hk4 HH.out.a⟩
      have HH4 := hide hH4
      clear hH4 hd4 hk4
      go_wp2_with fail
      refine (write_held w1 w4 g F _ 0 ⟨#[97, 103, 97, 105, 110]⟩ HH4.out rfl (by omega) (by simp [ByteArray.size]) (by simp [failS]; omega) (by simp [failS]; omega)).mono ?_
      rintro e w5 ⟨rfl, F5, hH5, ha5, hk5⟩
      have HH5 := hide hH5
      clear hH5 ha5 hk5
      have hc5 : (writeS (callS (failS S (-1))) (0 : Int).toNat (ByteArray.mk #[97, 103, 97, 105, 110]).data.toList).calls = many + 1 := by simp [writeS, callS, failS, hcl]
      go_wp2_with fail
      refine (calls_at g F5 _ (many + 1) w5 HH5.out.d hc5).mono ?_
      rintro e w6 ⟨rfl, rfl⟩
      go_wp2_with fail
      go_ret
      refine ⟨?_, HK1.out.trans' HH5.out.k⟩
      simp
end Go.Proofs.Ytppgddigcoojiaa

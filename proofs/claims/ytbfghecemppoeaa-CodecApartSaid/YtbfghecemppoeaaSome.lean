/- The lists that the laws make: some. -/
import Derived.Test.YtbfghecemppoeaaNumbers
namespace Go.Proofs.Ytbfghecemppoeaa
open Go.RowKit Go.Shelf
/-- A list that a law has made. -/
structure Lst (w0 w : World) (v : Value) (x : List ByteArray) : Prop where
  own : OS w v x
  new : New w0 v
  sz : ∀ s ∈ x, s.size ≤ 700
theorem Lst.keep {w0 w w' : World} {v : Value} {x : List ByteArray} (h : Lst w0 w v x) (k : Keeps [] w w') : Lst w0 w' v x := ⟨Own.keep h.own k (by simp), h.new, h.sz⟩
theorem mk_zeros (k : Nat) (hk : k ≤ 1000) (w : World) : (Instr.makeSlice 27 (.int .i64 (k : Int)) (.int .i64 (k : Int))).run Try.prog w = .ok (.slice (some ⟨w.heap.size, 0, none⟩) k k) (w.alloc (.cells (Array.replicate k (.int .u8 0)) 5)) := by
  obtain ⟨i0, hi, hz0, hz1, hz2⟩ := info_parts Try.info5
  have := run_make (P := Try.prog) w 27 5 i0 _ Try.underlying27 hi hz0 .i64 .i64 k k (by omega) (by omega) (by rw [hz2]; omega) (by omega)
  simp only [Int.toNat_natCast] at this
  rw [this, hz1]
  congr 3
  apply Array.ext'
  have : (Value.int .u8 0).cells = #[.int .u8 0] := rfl
  rw [this, toList_madeCells_one]
  simp
set_option maxHeartbeats 4000000 in
set_option maxRecDepth 100000 in
theorem some_any (A : Option Addr) (c : Nat) (l : List ByteArray) (many : Int) (w : World) (hs : SS w (.slice A l.length c) l) (hl : l.length ≤ 9223372036854775807) (hsz : ∀ s ∈ l, s.size ≤ 140737488351232) (h1 : -9223372036854775808 ≤ many) (h2 : many ≤ 9223372036854775807) :
    Calls Try.prog 28 #[.slice A l.length c, .int .i64 many] w fun e w' => ∃ v x, e = .returned v ∧ Lst w w' v x ∧ x.length ≤ 41 ∧ Keeps [] w w' := by
  obtain ⟨i0, hi, hz0, hz1, hz2⟩ := info_parts Try.info9b
  have HI := hide (And.intro hi (And.intro hz0 (And.intro hz1 hz2)))
  have HSZ := hide hsz
  clear hi hz0 hz1 hz2 hsz
  go_enter Try.func28, Try.ntmps28
  go_wp2
  go_loopw [5, 6] (fun s5 s6 wr => ∃ (k : Nat) (x : List ByteArray), k ≤ l.length ∧ k ≤ 40 ∧ s6 = .int .i64 k ∧ Hid (Lst w wr s5 x ∧ x.length = k) ∧ Hid (Keeps [] w wr)) (fun _ s6 _ => 40 - (intOf s6).toNat)
  case atStart => exact ⟨0, [], Nat.zero_le _, by omega, rfl, hide ⟨⟨own_nil9 _, new_nil _, by simp⟩, rfl⟩, hide (Keeps.refl _ _)⟩
  case round =>
    obtain ⟨k, x, hk, hk40, rfl, HO, HK⟩ := hrel
    obtain rfl : k = x.length := HO.out.2.symm
    by_cases hlt : x.length < l.length ∧ x.length < 40
    · obtain ⟨hlt, hlt40⟩ := hlt
      have hltz : (x.length : Int) < (l.length : Int) := by omega
      have hk0 : (0 : Int) ≤ (x.length : Int) := by omega
      have hd1 : decide (x.length < l.length) = true := by simp [hlt]
      have hd2 : decide ((x.length : Int) < 40) = true := by simp; omega
      obtain ⟨b0, o0, rfl, hcell⟩ := (Src.keep hs HK.out (by simp)).headN (by omega) (by omega)
      have hc := hcell x.length (.string l[x.length]) (by simp [ssv, hlt])
      have hsk := HSZ.out l[x.length] (List.getElem_mem _)
      clear hcell
      generalize l[x.length] = s at hc hsk
      obtain ⟨n, hn⟩ : ∃ n : Nat, n = min s.size 150 := ⟨_, rfl⟩
      have hmn : min (s.size : Int) 150 = (n : Int) := by omega
      have hmn2 : (if (150 : Int) < (s.size : Int) then (150 : Int) else (s.size : Int)) = (n : Int) := by split <;> omega
      have hns : min n s.size = n := by omega
      have z1 : (0 : Int) ≤ (n : Int) := by omega
      have z2 : (n : Int) ≤ (s.size : Int) := by omega
      have HX := hide (show (s.extract 0 n).size ≤ 700 by rw [ByteArray.size_extract]; omega)
      clear hn
      obtain ⟨Ax, cx, hv⟩ := Own.slice HO.out.1.own
      subst hv
      have HOA := hide (Own.drew (Own.alloc HO.out.1.own (.cells #[.string (s.extract 0 n)] 9)))
      have HKA := hide (HK.out.alloc (.cells #[.string (s.extract 0 n)] 9)).drew
      have hne : b0 ≠ wr.heap.size := by have := World.block_lt_of_cell? wr _ hc; simp at this; omega
      go_wp2
      go_region_law ((refine step_append_src _ (by rfl) _ _ _ (by rfl) 9 i0 _ 1 16 Try.underlying43 HI.out.1 HI.out.2.1 HI.out.2.2.1 HI.out.2.2.2 rfl (by omega) (.slice Ax x.length cx) _ _ (by rfl) HOA.out (.slice (some ⟨wr.heap.size, 0, none⟩) 1 1) 1 [.string (s.extract 0 n)] (by rfl) (Src.drew (Src.built wr 9 #[.string (s.extract 0 n)] 1 1 rfl _ rfl)) (by simp [Value.oneCell']) (by unfold maxLen; omega) (by omega) ?_; intro v' w2 hown hgrow hblk))
      all_goals
        obtain ⟨hK2, hN2⟩ := step_own HKA.out HO.out.1.new hgrow hblk
        have HO2 := hide (And.intro (show Lst w w2 v' (x ++ [s.extract 0 n]) from ⟨by
          show Own w2 9 1 v' _ _
          rw [ssv_append, List.length_append]
          exact hown, hN2, fun t ht => by
          rw [List.mem_append, List.mem_singleton] at ht
          rcases ht with ht | rfl
          · exact HO.out.1.sz t ht
          · exact HX.out⟩) (show (x ++ [s.extract 0 n]).length = x.length + 1 by rw [List.length_append, List.length_singleton]))
        have HK2 := hide hK2
        clear hown hgrow hblk hK2 hN2 HOA HKA HO HK
        go_wp2
        go_roundw
        case measure => simp [intOf]; omega
        case rel => exact ⟨x.length + 1, _, by omega, by omega, by go_num, HO2, HK2⟩
    · have hcs : (decide (x.length < l.length) = false ∨ (decide (x.length < l.length) = true ∧ decide ((x.length : Int) < 40) = false)) := by
        by_cases h : x.length < l.length
        · exact .inr ⟨by simp [h], by rw [decide_eq_false_iff_not]; omega⟩
        · exact .inl (by simp; omega)
      obtain ⟨Ax, cx, hv⟩ := Own.slice HO.out.1.own
      subst hv
      clear hlt
      obtain ⟨z, hz⟩ : ∃ z : Nat, many % 700 = (z : Int) := ⟨(many % 700).toNat, by omega⟩
      have hz7 : z < 700 := by omega
      have hmk := mk_zeros z (by omega) wr
      have hcv := run_bytes_str (wr.alloc (.cells (Array.replicate z (.int .u8 0)) 5)) (some ⟨wr.heap.size, 0, none⟩) z z (List.replicate z 0) (by simp) (by
        have := Src.built wr 5 (Array.replicate z (.int .u8 0)) 1 z (by simp) _ rfl
        simpa [bv] using this)
      have HZS := hide (show (⟨(List.replicate z (0 : UInt8)).toArray⟩ : ByteArray).size ≤ 700 by simp [ByteArray.size]; omega)
      generalize (⟨(List.replicate z (0 : UInt8)).toArray⟩ : ByteArray) = zz at hcv HZS
      rcases hcs with hd1 | ⟨hd1, hd2⟩
      all_goals
        by_cases hm : many.tmod 4 = 0
        · have hmb : (many.tmod 4 == 0) = true := by simp [hm]
          go_wp2_with fail
          refine (mod_any many 700 wr h1 h2 (by omega) (by omega)).mono ?_
          rintro e w' ⟨rfl, rfl⟩
          rw [hz]
          go_wp2_with (with_reducible refine Halt.append ?_)
          refine Halt.on ?_
          have HKA := hide ((HK.out.alloc (.cells (Array.replicate z (.int .u8 0)) 5)).alloc (.cells #[.string zz] 9))
          refine wpList_append_src _ rfl _ _ _ rfl 9 i0 _ 1 16 Try.underlying43 HI.out.1 HI.out.2.1 HI.out.2.2.1 HI.out.2.2.2 rfl (by omega) (.slice Ax x.length cx) _ _ rfl (Own.alloc (Own.alloc HO.out.1.own _) _) (.slice (some ⟨wr.heap.size + 1, 0, none⟩) 1 1) 1 [.string zz] rfl (Src.built (wr.alloc (.cells (Array.replicate z (.int .u8 0)) 5)) 9 #[.string zz] 1 1 rfl _ (by simp)) (by simp [Value.oneCell']) (by unfold maxLen; omega) (by omega) ?_
          intro v' w2 hown hgrow hblk
          obtain ⟨hK2, hN2⟩ := step_own HKA.out HO.out.1.new hgrow hblk
          have HO2 := hide (show Lst w w2 v' (x ++ [zz]) from ⟨by
            show Own w2 9 1 v' _ _
            rw [ssv_append, List.length_append]
            exact hown, hN2, fun t ht => by
            rw [List.mem_append, List.mem_singleton] at ht
            rcases ht with ht | rfl
            · exact HO.out.1.sz t ht
            · exact HZS.out⟩)
          have HK2 := hide hK2
          clear hown hgrow hblk hK2 hN2
          go_wp2
          go_ret
          exact ⟨_, _, rfl, HO2.out, by rw [List.length_append, List.length_singleton]; omega, HK2.out⟩
        · have hmb : (many.tmod 4 == 0) = false := by simp [hm]
          go_wp2
          go_ret
          first | exact ⟨_, _, rfl, HO.out.1, by omega, HK.out⟩ | exact ⟨_, rfl, x, HO.out.1, by omega, HK.out⟩ | exact ⟨_, _, _, rfl, HO.out.1, by omega, HK.out⟩ | (trace_state; fail)
end Go.Proofs.Ytbfghecemppoeaa

/- The law's function script: at most twelve troubles, their delays cut. -/
import Derived.Test.YtefjoiinoaofcaaNext
namespace Go.Proofs.Ytefjoiinoaofcaa
open Go.RowKit

def Tr.cut (t : Tr) : Tr := { t with delay := t.delay.tmod 100000 }
def scrL (l : List Tr) : List Tr := (l.take 12).map Tr.cut
theorem scrL_length (l : List Tr) : (scrL l).length ≤ 12 := by simp [scrL]; omega
theorem scrL_delay (l : List Tr) : ∀ t ∈ scrL l, -100000 < t.delay ∧ t.delay < 100000 := by
  intro t ht
  simp only [scrL, List.mem_map] at ht
  obtain ⟨u, _, rfl⟩ := ht
  unfold Tr.cut
  simp only []
  have h1 := Int.natAbs_tmod u.delay 100000
  have h2 : u.delay.natAbs % 100000 < 100000 := Nat.mod_lt _ (by omega)
  have e : (100000 : Int).natAbs = 100000 := rfl
  rw [e] at h1
  omega
theorem take_map_snoc (l : List Tr) (k : Nat) (h : k < l.length) : (l.take (k + 1)).map Tr.cut = (l.take k).map Tr.cut ++ [(trAt l k).cut] := by
  rw [List.take_succ_eq_append_getElem h, List.map_append]
  simp [trAt, h]
theorem tr_pos (l : List Tr) (k : Nat) (h : k < l.length) : trAt l k = l[k] := by simp [trAt, h]

set_option maxHeartbeats 800000 in
theorem script_any (A : Option Addr) (c : Nat) (l : List Tr) (w : World) (h : Src w 3 (.slice A l.length c) l.length (trs l)) (hlen : l.length ≤ 9223372036854775807) :
    Calls Try.prog 11 #[.slice A l.length c] w fun e w' => ∃ v, e = .returned v ∧ Cloned w (scrL l) v w' := by
  obtain ⟨i0, hi, hz0, hz1, hz2⟩ := info_parts Try.info42
  have HS := hide h
  have HZ2 := hide hz2
  clear h hz2
  go_enter Try.func11, Try.ntmps11
  go_wp2_with fail
  go_loopw [3, 4] (fun v iv wr => ∃ k : Nat, iv = .int .i64 k ∧ k ≤ l.length ∧ k ≤ 12 ∧ Hid (Cloned w ((l.take k).map Tr.cut) v wr)) (fun _ iv _ => 12 - (intOf iv).toNat)
  case atStart => exact ⟨0, rfl, Nat.zero_le _, by omega, hide ⟨by simpa [trs] using World.ownsRow_nil w 0 42 3, Keeps.refl _ _, by simp [Value.ownBlock]⟩⟩
  case round =>
    obtain ⟨k, rfl, hk, hk12, HR⟩ := hrel
    by_cases hlt : k < l.length ∧ k < 12
    · obtain ⟨hlt1, hlt2⟩ := hlt
      have d12 : decide ((k : Int) < 12) = true := by simp; omega
      have hsr := HS.out.keep HR.out.2.1 (by simp)
      obtain ⟨b, o, hA, hcells⟩ := hsr.headN (by omega) (by omega)
      subst hA
      obtain ⟨x0, x1, x2⟩ := trs_at l k hlt1
      have q0 := hcells _ _ x0
      have q1 := hcells _ _ x1
      have q2 := hcells _ _ x2
      rw [← Nat.add_assoc] at q1 q2
      have b1 : (0 : Int) ≤ (k : Int) := by omega
      have b2 : (k : Int) < (l.length : Int) := by omega
      have hbl := World.block_lt_of_cell? wr _ q0
      clear hsr hcells x0 x1 x2
      generalize ht : trAt l k = t at *
      go_wp2_with (first | (with_reducible refine Halt.append ?_))
      refine Halt.on ?_
      have hk0 := ((Keeps.refl [] wr).alloc (.cells t.cut.cells.toArray 42)).alloc (.cells t.cut.cells.toArray 42)
      have hown0 := HR.out.1.keep hk0 (by simp)
      have hsrc : Src ((wr.alloc (.cells t.cut.cells.toArray 42)).alloc (.cells t.cut.cells.toArray 42)) 3 (.slice (some ⟨wr.heap.size + 1, 0, none⟩) 1 1) 1 t.cut.cells :=
        Src.built (wr.alloc (.cells t.cut.cells.toArray 42)) 42 t.cut.cells.toArray 3 1 rfl _ (by simp)
      have hln : ((l.take k).map Tr.cut).length = k := by simp; omega
      refine wpList_append_src _ rfl _ _ _ rfl 42 i0 _ 3 24 Try.underlying22 hi hz0 hz1 HZ2.out rfl (by omega) u3 _ _ rfl hown0 _ 1 t.cut.cells rfl hsrc (by have := trs_one [t.cut]; simpa [trs] using this) (by rw [hln]; unfold maxLen; omega) (by rw [hln]; omega) ?_
      intro v1 w1 hown1 hg1 hat1
      have hfin : Cloned w ((l.take (k + 1)).map Tr.cut) v1 w1 := by
        rw [take_map_snoc l k hlt1, ht]
        refine ⟨?_, ?_, fun b hb => ?_⟩
        · rw [trs_append, List.length_append]
          have e : trs [t.cut] = t.cut.cells := by simp [trs]
          rw [e]
          exact hown1
        · refine (HR.out.2.1.trans' hk0).trans (Keeps.of_grown hg1 (F := u3.ownBlock.toList) (fun k hk => by simp [hk])) (fun i hi => .inr (HR.out.2.2 i (by simpa using hi)))
        · rcases hat1 with e | e
          · rw [hb] at e; exact HR.out.2.2 b e.symm
          · rw [hb] at e
            have hsz := HR.out.2.1.size
            simp at e; omega
      have HF := hide hfin
      clear hfin hown1 hg1 hat1 hk0 hown0 hsrc hln hi hz0 hz1 HZ2 HS q0 q1 q2 ht
      go_wp2_with fail
      go_roundw
      case rel => exact ⟨k + 1, by go_num, by omega, by omega, HF⟩
      case measure => simp [intOf]; omega
    · by_cases hlt1 : k < l.length
      · have d12 : decide ((k : Int) < 12) = false := by simp; omega
        go_wp2_with fail
        go_ret
        refine ⟨_, rfl, ?_⟩
        have hk' : k = 12 := by omega
        subst hk'
        exact HR.out
      · go_wp2_with fail
        go_ret
        refine ⟨_, rfl, ?_⟩
        have hk' : k = l.length := by omega
        have := HR.out
        rw [List.take_of_length_le (by omega)] at this
        unfold scrL
        rw [List.take_of_length_le (by omega)]
        exact this
end Go.Proofs.Ytefjoiinoaofcaa

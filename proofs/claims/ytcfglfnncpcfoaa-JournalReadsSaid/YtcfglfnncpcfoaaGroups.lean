/- The groups of a number, as plain data; the iterator that hands them out. -/
import Derived.Test.YtcfglfnncpcfoaaRange
import Derived.IntWalk
import Derived.Outline
import Derived.Laws.BitsAllLaws
namespace Go.Proofs.Ytcfglfnncpcfoaa
open Go.RowKit Go.Shelf
attribute [local go_sem] Oper.semAt_some

/-- The groups of a number, and whether there are more behind. -/
def gsF : Nat → Nat → List (Nat × Bool)
  | 0, _ => []
  | f + 1, m => if m / 128 = 0 then [(m % 128, false)] else (m % 128, true) :: gsF f (m / 128)
def gs (m : Nat) : List (Nat × Bool) := gsF (m + 1) m
theorem gsF_more : ∀ (f f' m : Nat), m < f → m < f' → gsF f m = gsF f' m
  | 0, _, m, h, _ => by omega
  | f + 1, 0, m, _, h => by omega
  | f + 1, f' + 1, m, h, h' => by
    unfold gsF
    by_cases h0 : m / 128 = 0
    · rw [if_pos h0, if_pos h0]
    · rw [if_neg h0, if_neg h0, gsF_more f f' (m / 128) (by omega) (by omega)]
theorem gs_last (m : Nat) (h : m / 128 = 0) : gs m = [(m % 128, false)] := by
  unfold gs gsF
  rw [if_pos h]
theorem gs_more (m : Nat) (h : m / 128 ≠ 0) : gs m = (m % 128, true) :: gs (m / 128) := by
  unfold gs
  conv => lhs; unfold gsF
  rw [if_neg h, gsF_more m (m / 128 + 1) (m / 128) (by omega) (by omega)]
def gEnc (x : Nat × Bool) : Array Value := #[.int .u8 x.1, .bool x.2]

/-- What the iterator's cell holds. -/
def numAt (Bn : Nat) (w : World) : Nat := (intOf ((w.cell? ⟨Bn, 0, none⟩).getD undef)).toNat
theorem numAt_eq {Bn m : Nat} {w : World} (h : Bk w Bn 64 #[.int .u64 (m : Int)]) : numAt Bn w = m := by
  unfold numAt
  rw [h.cell 0]
  simp [intOf]

set_option maxHeartbeats 1000000 in
set_option maxRecDepth 100000 in
theorem groups_hand (n : Nat) (Bn m : Nat) (hm : m < 18446744073709551616) : HandsOut n Try.prog Bn 73 #[.pointer (some ⟨Bn, 0, none⟩)] gEnc (gs m) (some (.cells #[.int .u64 (m : Int)] 64 (0, 0))) := by
  intro l J W hW hJ hY h0
  refine callsIn_of_wp Try.func73 rfl trivial ?_ rfl
  simp only [Try.ntmps73, List.size_toArray, List.length_cons, List.length_nil, Nat.reduceAdd, Nat.reduceSub, Array.replicate_succ, Array.replicate_zero, List.push_toArray, List.append_toArray, List.nil_append, List.cons_append]
  gi_wp2
  gi_loopw [3] (fun _ wr => ∃ (pre : List (Nat × Bool)) (k : Nat), k < 18446744073709551616 ∧ Hid (gs m = pre ++ gs k ∧ Bk wr Bn 64 #[.int .u64 (k : Int)] ∧ J pre wr)) (fun _ wr => numAt Bn wr)
  case atStart => exact ⟨[], m, hm, ⟨by simp, hW, h0⟩⟩
  case round =>
    obtain ⟨pre, k, hk, HR⟩ := hrel
    have hb := HR.out.2.1
    have c0 := hb.cell 0
    have f0 := hb.free 0
    simp at c0
    have hk0 : (0 : Int) ≤ (k : Int) := by omega
    have hJs : J pre (wr.setCell ⟨Bn, 0, none⟩ (.int .u64 ((k : Int) / 128))) := hJ pre wr _ (some Bn) HR.out.2.2 ⟨rfl, rfl, rfl, by simp [World.setCell], fun j _ hj => Below.heap_setCell _ _ _ _ (by simpa using fun e => hj (by rw [e]))⟩ (fun r e => by cases e; rfl)
    have hb1 : Bk (wr.setCell ⟨Bn, 0, none⟩ (.int .u64 ((k : Int) / 128))) Bn 64 #[.int .u64 (((k / 128 : Nat) : Int))] := by
      have := hb.set 0 (.int .u64 ((k : Int) / 128))
      simpa using this
    have HB1 := hide hb1
    have hq := numAt_eq hb
    have HQ := hide hq
    clear hb hb1 hq
    by_cases hz : k / 128 = 0
    · have hl := gs_last k hz
      obtain ⟨fn, tmps, assign, body, hy, hR⟩ := hY pre (k % 128, false) _ hJs (by rw [HR.out.1, hl]; exact List.prefix_rfl)
      unfold gEnc at hy
      simp only [Int.natCast_emod, Int.cast_ofNat_Int] at hy
      have hd : decide ((0 : Int) < (k : Int) / 128) = false := by simp; omega
      have hz' : ((k : Int) / 128 == 0) = true := by simp; omega
      have HL := hide hl
      have HZ := hide hz
      clear hl hz hJs hJ hY h0
      gi_wp2
      refine ⟨fun h => (by cases h), hR.mono ?_⟩
      rintro e W3 ⟨rfl, hJ3, hn3⟩
      have hb3 : Bk W3 Bn 64 #[.int .u64 (((k / 128 : Nat) : Int))] := hn3.trans HB1.out
      have c3 := hb3.cell 0
      simp at c3
      have HJ3 := hide hJ3
      clear hJ3 hn3 hb3
      gi_wp2
      refine bodyPost_ret (results_none rfl _ _ _) rfl ?_
      exact ⟨⟨_, rfl⟩, by rw [HR.out.1, HL.out]; exact HJ3.out⟩
    · have hl := gs_more k hz
      obtain ⟨fn, tmps, assign, body, hy, hR⟩ := hY pre (k % 128, true) _ hJs (by rw [HR.out.1, hl]; exact ⟨gs (k / 128), by simp⟩)
      unfold gEnc at hy
      simp only [Int.natCast_emod, Int.cast_ofNat_Int] at hy
      have hd : decide ((0 : Int) < (k : Int) / 128) = true := by simp; omega
      have hz' : ((k : Int) / 128 == 0) = false := by simp; omega
      have HL := hide hl
      have HZ := hide hz
      have hkk : k / 128 < k := by omega
      clear hl hz hJs h0
      have HJ := hide hJ
      have HY := hide hY
      clear hJ hY
      gi_wp2
      refine ⟨fun h => (by cases h), hR.mono ?_⟩
      rintro e W3 ⟨rfl, hJ3, hn3⟩
      have hb3 : Bk W3 Bn 64 #[.int .u64 (((k / 128 : Nat) : Int))] := hn3.trans HB1.out
      have c3 := hb3.cell 0
      simp at c3
      have hq3 := numAt_eq hb3
      have HQ3 := hide hq3
      have HJ3 := hide hJ3
      have HB3 := hide hb3
      clear hJ3 hn3 hb3 hq3
      gi_wp2
      go_roundw
      case rel => exact ⟨pre ++ [(k % 128, true)], k / 128, by omega, ⟨by rw [HR.out.1, HL.out]; simp, HB3.out, HJ3.out⟩⟩
      case measure => rw [HQ3.out, HQ.out]; exact hkk
end Go.Proofs.Ytcfglfnncpcfoaa

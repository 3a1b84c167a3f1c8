/- The walk of NetOvertakes. -/
import Derived.Test.YtefjoiinoaofcaaTwo
namespace Go.Proofs.Ytefjoiinoaofcaa
open Go.RowKit

def ovS (d0 d1 : Int) : List Tr := [⟨false, 0, d0⟩, ⟨false, 0, d1⟩]
theorem ov_copies (d : Int) : copiesOf ⟨false, 0, d⟩ = 1 := rfl
theorem ov_one (d0 d1 a : Int) (h0 : 0 ≤ d0) : sendS (NS.new 1 (ovS d0 d1)) a 0 0 1 ⟨#[]⟩ = ⟨1, ovS d0 d1, [⟨0, 0, 1, ⟨#[]⟩, a + d0, 0⟩], 1⟩ := by
  have e : (NS.new 1 (ovS d0 d1)).tr = ⟨false, 0, d0⟩ := rfl
  unfold sendS NS.drops
  rw [e]
  have hm : max d0 0 = d0 := by omega
  simp [NS.new, ov_copies, addC, ins, hm]
theorem ov_two (d0 d1 a b : Int) (h1 : 0 ≤ d1) : sendS ⟨1, ovS d0 d1, [⟨0, 0, 1, ⟨#[]⟩, a + d0, 0⟩], 1⟩ b 0 0 2 ⟨#[]⟩ =
    ⟨1, ovS d0 d1, if b + d1 < a + d0 then [⟨0, 0, 2, ⟨#[]⟩, b + d1, 1⟩, ⟨0, 0, 1, ⟨#[]⟩, a + d0, 0⟩] else [⟨0, 0, 1, ⟨#[]⟩, a + d0, 0⟩, ⟨0, 0, 2, ⟨#[]⟩, b + d1, 1⟩], 2⟩ := by
  have e : (⟨1, ovS d0 d1, [⟨0, 0, 1, ⟨#[]⟩, a + d0, 0⟩], 1⟩ : NS).tr = ⟨false, 0, d1⟩ := rfl
  unfold sendS NS.drops
  rw [e]
  have hm : max d1 0 = d1 := by omega
  simp [ov_copies, addC, ins, hm, lessB]

set_option maxRecDepth 100000 in
set_option maxHeartbeats 1600000 in
theorem overtakes_walk (a b d0 d1 : Int) (w : World) (ha0 : 0 ≤ a) (ha1 : a ≤ 65535) (hb0 : 0 ≤ b) (hb1 : b ≤ 65535) (hd0 : 0 ≤ d0) (hd1 : d0 ≤ 65535) (he0 : 0 ≤ d1) (he1 : d1 ≤ 65535) :
    Calls Try.prog 7 #[.int .u16 a, .int .u16 b, .agg #[.int .u16 d0, .int .u16 d1]] w fun e w' => e = .returned (.bool true) ∧ Keeps [] w w' := by
  have kb := (Keeps.refl [] w).alloc (.cells #[.int .u16 d0, .int .u16 d1] 47)
  have HKB := hide kb
  have bm : Bk (w.alloc (.cells #[.int .u16 d0, .int .u16 d1] 47)) w.heap.size 47 #[.int .u16 d0, .int .u16 d1] := Bk.new _ _ _
  have HB := hide bm
  clear kb bm
  go_enter Try.func7, Try.ntmps7
  go_wp2_with fail
  generalize w.alloc (.cells #[.int .u16 d0, .int .u16 d1] 47) = w0 at HKB HB ⊢
  generalize w.heap.size = bb at HB ⊢
  refine (sanity_any _).mono ?_
  rintro e w1 ⟨rfl, hk1⟩
  have hb1' := HB.out.keep hk1 (by simp)
  have HB1 := hide hb1'
  have q0 := hb1'.cell 0
  have q1 := hb1'.cell 1
  simp at q0 q1
  have HK1 := hide hk1
  clear hk1 HB hb1'
  go_wp2_with fail
  have hsrc : Src (w1.alloc (.cells (trs (ovS d0 d1)).toArray 42)) 3 (.slice (some ⟨w1.heap.size, 0, none⟩) 2 2) 2 (trs (ovS d0 d1)) := Src.built w1 42 (trs (ovS d0 d1)).toArray 3 2 rfl _ rfl
  have HK2 := hide ((Keeps.refl [] w1).alloc (.cells (trs (ovS d0 d1)).toArray 42))
  refine (new_any 1 _ _ (ovS d0 d1) _ hsrc (by show 2 ≤ 1000; omega)).mono ?_
  rintro e w3 ⟨g, rfl, hm3⟩
  have HM := hide (hm3.old HK2.out)
  clear hsrc hm3 HK2
  go_wp2_with fail
  have hs := HM.out.send a 0 0 1 ⟨#[]⟩ (by show 0 < 100000; omega) (fun _ => ⟨by omega, by omega, by show d0 ≤ _; omega⟩)
  rw [ov_one d0 d1 a hd0] at hs
  unfold msgV at hs
  refine hs.mono ?_
  rintro e w4 ⟨rfl, h4⟩
  have HM4 := hide h4
  clear h4 hs HM q0 q1
  go_wp2_with fail
  have hs := HM4.out.send b 0 0 2 ⟨#[]⟩ (by show 1 < 100000; omega) (fun _ => ⟨by omega, by omega, by show d1 ≤ _; omega⟩)
  rw [ov_two d0 d1 a b he0] at hs
  unfold msgV at hs
  refine hs.mono ?_
  rintro e w5 ⟨rfl, h5⟩
  have HM5 := hide h5
  clear h5 hs HM4
  by_cases hlt : b + d1 < a + d0
  · rw [if_pos hlt] at HM5
    have hn := HM5.out.next _ _ rfl
    unfold msgV at hn
    go_wp2_with fail
    refine hn.mono ?_
    rintro e w6 ⟨rfl, h6⟩
    have hb6 := HB1.out.keep h6.keeps (by simp)
    have q0 := hb6.cell 0
    have q1 := hb6.cell 1
    simp at q0 q1
    have hl6 := hb6.lt
    have HK6 := hide ((HKB.out.trans' HK1.out).trans' h6.keeps)
    have v1 : IntKind.i64.wrap (a + d0) = a + d0 := IntWalk.i64_in _ (by omega)
    have v2 : IntKind.i64.wrap (b + d1) = b + d1 := IntWalk.i64_in _ (by omega)
    clear h6 hn hb6 HM5 HB1
    go_wp2_with fail
    go_quiet (fail)
    clear v1 v2
    go_wp2_with fail
    go_ret
    exact ⟨rfl, (HK6.out.alloc _).drewN nq⟩
  · rw [if_neg hlt] at HM5
    have hn := HM5.out.next _ _ rfl
    unfold msgV at hn
    go_wp2_with fail
    refine hn.mono ?_
    rintro e w6 ⟨rfl, h6⟩
    have hb6 := HB1.out.keep h6.keeps (by simp)
    have q0 := hb6.cell 0
    have q1 := hb6.cell 1
    simp at q0 q1
    have hl6 := hb6.lt
    have HK6 := hide ((HKB.out.trans' HK1.out).trans' h6.keeps)
    have v1 : IntKind.i64.wrap (a + d0) = a + d0 := IntWalk.i64_in _ (by omega)
    have v2 : IntKind.i64.wrap (b + d1) = b + d1 := IntWalk.i64_in _ (by omega)
    clear h6 hn hb6 HM5 HB1
    go_wp2_with fail
    go_quiet (fail)
    clear v1 v2
    go_wp2_with fail
    go_ret
    exact ⟨rfl, (HK6.out.alloc _).drewN nq⟩
end Go.Proofs.Ytefjoiinoaofcaa

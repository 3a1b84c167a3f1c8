/- readsInts. -/
import Derived.Test.YtbfghecemppoeaaRuni
import Derived.Test.YtbfghecemppoeaaSamei
namespace Go.Proofs.Ytbfghecemppoeaa
open Go.RowKit Go.Shelf
set_option maxHeartbeats 4000000 in
set_option maxRecDepth 100000 in
theorem readsints_any (s : ByteArray) (w : World) (hs : s.size ≤ 1000000000) : Calls Try.prog 38 #[.string s] w fun e w' => e = .returned (.bool true) ∧ Keeps [] w w' := by
  have HU := hide (fun (W : World) => readints_any s.data.toList W (by rw [Array.length_toList]; exact hs))
  have HV := hide (fun (W : World) => runi_any s W hs)
  rw [bs_of s] at HU
  obtain ⟨⟨x, f⟩, hh⟩ : ∃ r, r = readI s.data.toList := ⟨_, rfl⟩
  rw [← hh] at HU HV
  simp only at HU HV
  clear hh
  go_enter Try.func38, Try.ntmps38
  go_wp2_with fail
  refine (HU.out w).mono ?_
  rintro e w1 ⟨v1, rfl, ho1, -, k1⟩
  obtain ⟨A1, c1, rfl⟩ := Own.slice ho1
  have HO1 := hide ho1
  have HK1 := hide k1
  clear ho1 k1 HU
  go_wp2_with fail
  refine (HV.out w1).mono ?_
  rintro e w2 ⟨v2, rfl, ho2, -, k2⟩
  obtain ⟨A2, c2, rfl⟩ := Own.slice ho2
  have hcap := Own.cap ho2
  have HO2 := hide ho2
  have HO1b := hide (Own.keep HO1.out k2 (by simp))
  have HK2 := hide (HK1.out.trans' k2)
  clear ho2 k2 HV HO1 HK1
  go_wp2_with fail
  refine (ints_same A1 A2 c1 c2 x w2 (Own.src HO1b.out) (Own.src HO2.out) (by omega)).mono ?_
  rintro e w3 ⟨rfl, k3⟩
  have HK3 := hide (HK2.out.trans' k3)
  clear k3 HO1b HO2 HK2
  go_wp2
  go_ret
  exact ⟨by simp, HK3.out⟩
end Go.Proofs.Ytbfghecemppoeaa

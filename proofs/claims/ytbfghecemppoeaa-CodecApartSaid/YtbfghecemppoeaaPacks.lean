/- The law CodecPacks. -/
import Derived.Test.YtbfghecemppoeaaSome
import Derived.Test.YtbfghecemppoeaaSane
import Derived.Test.YtbfghecemppoeaaRound
import Derived.Test.YtbfghecemppoeaaSame
import Derived.Test.YtbfghecemppoeaaRpack
import Derived.Test.YtbfghecemppoeaaOpen
namespace Go.Proofs.Ytbfghecemppoeaa
open Go.RowKit Go.Shelf
theorem flat_small : ∀ (x : List ByteArray), (∀ s ∈ x, s.size ≤ 700) → (x.flatMap itemL).length ≤ x.length * 710
  | [], _ => by simp
  | s :: x, h => by
    have h1 := flat_small x (fun t ht => h t (by simp [ht]))
    have h2 := h s (by simp)
    have h3 := numL_length s.size (by omega)
    rw [List.flatMap_cons, List.length_append, List.length_cons, itemL, List.length_append]
    have : s.data.toList.length = s.size := by rw [Array.length_toList]; rfl
    omega
theorem packB_small (x : List ByteArray) (hl : x.length ≤ 41) (h : ∀ s ∈ x, s.size ≤ 700) : (packB x).length ≤ 30000 := by
  have h1 := flat_small x h
  have h3 := numL_length x.length (by omega)
  rw [packB, List.length_append]
  omega
set_option maxHeartbeats 4000000 in
set_option maxRecDepth 100000 in
theorem packs_walk (A : Option Addr) (c : Nat) (l : List ByteArray) (many : Int) (w : World) (H : CameS w A c l) (h1 : -9223372036854775808 ≤ many) (h2 : many ≤ 9223372036854775807) :
    Calls Try.prog 9 #[.slice A l.length c, .int .i64 many] w fun e w' => e = .returned (.bool true) ∧ Keeps [] w w' := by
  have HC := hide H
  clear H
  go_enter Try.func9, Try.ntmps9
  go_wp2_with fail
  refine (sanity_any w).mono ?_
  rintro e w1 ⟨rfl, k1⟩
  have HK1 := hide k1
  have HS := hide (show SS w1 (.slice A l.length c) l from Src.keep HC.out.s k1 (by simp))
  have hll := Nat.le_trans HC.out.le HC.out.cm
  have HZ := hide HC.out.sz
  clear k1 HC
  go_wp2_with fail
  refine (some_any A c l many w1 HS.out hll HZ.out h1 h2).mono ?_
  rintro e w2 ⟨v2, x, rfl, hL, hx, k2⟩
  obtain ⟨A2, c2, rfl⟩ := Own.slice hL.own
  have HL := hide hL
  have HK2 := hide (HK1.out.trans' k2)
  have HB := hide (packB_small x hx hL.sz)
  have HU := hide (unpB_packB x (by omega) (fun s hs => by have := hL.sz s hs; omega))
  clear k2 hL HK1 HS HZ hll
  go_wp2_with fail
  refine (pack_any A2 c2 x w2 (Own.src HL.out.own) (by have := HB.out; omega) (by omega) (fun s hs => by have := HL.out.sz s hs; omega)).mono ?_
  rintro e w3 ⟨rfl, k3⟩
  have HL3 := hide (HL.out.keep k3)
  have HK3 := hide (HK2.out.trans' k3)
  clear k3 HL HK2
  go_wp2_with fail
  refine (unpack_any (packB x) w3 (by have := HB.out; omega)).mono ?_
  rw [HU.out]
  rintro e w4 ⟨v4, rfl, ho4, hn4, k4⟩
  obtain ⟨A4, c4, rfl⟩ := Own.slice ho4
  have HL4 := hide (HL3.out.keep k4)
  have HO4 := hide ho4
  have HK4 := hide (HK3.out.trans' k4)
  clear k4 HL3 HK3 ho4 hn4
  go_wp2_with fail
  refine (strings_same A2 A4 c2 c4 x w4 (Own.src HL4.out.own) (Own.src HO4.out) (by omega)).mono ?_
  rintro e w5 ⟨rfl, k5⟩
  have HL5 := hide (HL4.out.keep k5)
  have HK5 := hide (HK4.out.trans' k5)
  clear k5 HL4 HK4 HO4
  go_wp2_with fail
  refine (rpack_any A2 c2 x w5 (Own.src HL5.out.own) (by have := HB.out; omega) (by omega) (fun s hs => by have := HL5.out.sz s hs; omega)).mono ?_
  rintro e w6 ⟨rfl, k6⟩
  have HK6 := hide (HK5.out.trans' k6)
  clear k6 HL5 HK5
  go_wp2
  go_ret
  exact ⟨rfl, HK6.out⟩
end Go.Proofs.Ytbfghecemppoeaa

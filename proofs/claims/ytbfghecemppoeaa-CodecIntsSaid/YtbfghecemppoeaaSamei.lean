/- Two lists of integers that are the same: ref.Same. -/
import Derived.BigQuiet
import Derived.Test.YtbfghecemppoeaaUnp
namespace Go.Proofs.Ytbfghecemppoeaa
open Go.RowKit Go.Shelf
set_option maxHeartbeats 4000000 in
set_option maxRecDepth 100000 in
theorem ints_same (A B : Option Addr) (c d : Nat) (l : List Int) (w : World) (hs : IS w (.slice A l.length c) l) (ht : IS w (.slice B l.length d) l) (hl : l.length ≤ 9223372036854775807) :
    Calls Try.prog 36 #[.slice A l.length c, .slice B l.length d] w fun e w' => e = .returned (.bool true) ∧ Keeps [] w w' := by
  go_enter Try.func36, Try.ntmps36
  go_wp2
  go_loopw [5] (fun s5 wr => ∃ (k : Nat), k ≤ l.length ∧ s5 = .int .i64 k ∧ Hid (Keeps [] w wr)) (fun s5 _ => l.length - (intOf s5).toNat)
  case atStart => exact ⟨0, Nat.zero_le _, rfl, hide (Keeps.refl _ _)⟩
  case round =>
    obtain ⟨k, hk, rfl, HK⟩ := hrel
    have hk0 : (0 : Int) ≤ (k : Int) := by omega
    by_cases hlt : k < l.length
    · have hltz : (k : Int) < (l.length : Int) := by omega
      have hd1 : decide (k < l.length) = true := by simp [hlt]
      obtain ⟨b0, o0, rfl, hcell⟩ := (Src.keep hs HK.out (by simp)).headN (by omega) (by omega)
      have hc := hcell k (.int .i64 l[k]) (by simp [isv, hlt])
      obtain ⟨b1, o1, rfl, hcell1⟩ := (Src.keep ht HK.out (by simp)).headN (by omega) (by omega)
      have hc1 := hcell1 k (.int .i64 l[k]) (by simp [isv, hlt])
      clear hcell hcell1
      generalize l[k] = s at hc hc1
      go_wp2
      go_region
      go_wp2
      go_roundw
      case measure => simp [intOf]; omega
      case rel => exact ⟨k + 1, by omega, by go_num, hide (HK.out.drewN _)⟩
    · have hltz : ¬ (k : Int) < (l.length : Int) := by omega
      have hd1 : decide (k < l.length) = false := by simp [hlt]
      go_wp2
      go_ret
      exact ⟨rfl, HK.out⟩
end Go.Proofs.Ytbfghecemppoeaa

/- Two lists compared: ref.Strings. -/
import Derived.BigQuiet
import Derived.Test.YtbfghecemppoeaaUnp
namespace Go.Proofs.Ytbfghecemppoeaa
open Go.RowKit Go.Shelf
theorem strs_step {L M : List ByteArray} {k : Nat} (h1 : k < L.length) (h2 : k < M.length) (ht : L.take k = M.take k) (he : L[k] = M[k]) : L.take (k + 1) = M.take (k + 1) := by
  rw [List.take_succ_eq_append_getElem h1, List.take_succ_eq_append_getElem h2, ht, he]
theorem strs_not {L M : List ByteArray} {k : Nat} (h1 : k < L.length) (h2 : k < M.length) (he : L[k] ≠ M[k]) : L ≠ M := fun e => he (by subst e; rfl)
set_option maxHeartbeats 4000000 in
set_option maxRecDepth 100000 in
theorem strings_any (A B : Option Addr) (c d : Nat) (l m : List ByteArray) (w : World) (hs : SS w (.slice A l.length c) l) (ht : SS w (.slice B m.length d) m) (hl : l.length ≤ 9223372036854775807) (hm : m.length ≤ 9223372036854775807) :
    Calls Try.prog 31 #[.slice A l.length c, .slice B m.length d] w fun e w' => e = .returned (.bool (decide (l = m))) ∧ Keeps [] w w' := by
  by_cases hlen : l.length = m.length
  · have HLN := hide hlen
    have hne : (l.length != m.length) = false := by simp [hlen]
    have hne' : ((l.length : Int) != (m.length : Int)) = false := by simp [hlen]
    clear hlen
    go_enter Try.func31, Try.ntmps31
    go_wp2
    go_loopw [5] (fun s5 wr => ∃ (k : Nat), k ≤ l.length ∧ s5 = .int .i64 k ∧ Hid (l.take k = m.take k ∧ Keeps [] w wr)) (fun s5 _ => l.length - (intOf s5).toNat)
    case atStart => exact ⟨0, Nat.zero_le _, rfl, hide ⟨rfl, Keeps.refl _ _⟩⟩
    case round =>
      obtain ⟨k, hk, rfl, HK⟩ := hrel
      have hk0 : (0 : Int) ≤ (k : Int) := by omega
      clear hne hne'
      by_cases hlt : k < l.length
      · have hltM : k < m.length := by rw [← HLN.out]; exact hlt
        have hltz : (k : Int) < (l.length : Int) := by omega
        have hltz' : (k : Int) < (m.length : Int) := by omega
        have hd1 : decide (k < l.length) = true := by simp [hlt]
        obtain ⟨b0, o0, rfl, hcell⟩ := (Src.keep hs HK.out.2 (by simp)).headN (by omega) (by omega)
        have hc := hcell k (.string l[k]) (by simp [ssv, hlt])
        obtain ⟨b1, o1, rfl, hcell1⟩ := (Src.keep ht HK.out.2 (by simp)).headN (by omega) (by omega)
        have hc1 := hcell1 k (.string m[k]) (by simp [ssv, hltM])
        have HY := hide (fun e => strs_step hlt hltM HK.out.1 e)
        have HX := hide (fun e => strs_not (L := l) (M := m) hlt hltM e)
        clear hcell hcell1
        generalize l[k] = s at hc HX HY
        generalize m[k] = t at hc1 HX HY
        by_cases he : s = t
        · have HR := hide (HY.out he)
          subst he
          clear HX HY
          go_wp2
          go_region
          go_wp2
          go_roundw
          case measure => simp [intOf]; omega
          case rel => exact ⟨k + 1, by omega, by go_num, hide ⟨HR.out, HK.out.2.drewN _⟩⟩
        · have HR := hide (HX.out he)
          have he3 : ¬ s.toList = t.toList := fun e => he (by
            rw [Lib.toList_data, Lib.toList_data] at e
            exact ByteArray.ext (Array.ext' e))
          have he4 : (s.toList == t.toList) = false := by simp [he3]
          have he5 : decide (s = t) = false := by simp [he]
          clear HX HY he
          go_wp2
          go_region
          go_wp2
          go_ret
          exact ⟨by rw [decide_eq_false HR.out]; rfl, HK.out.2.drewN _⟩
      · have hltz : ¬ (k : Int) < (l.length : Int) := by omega
        have hd1 : decide (k < l.length) = false := by simp [hlt]
        obtain rfl : k = l.length := by omega
        have HE := hide (show l = m by
          have := HK.out.1
          rw [List.take_length, HLN.out, List.take_length] at this
          exact this)
        go_wp2
        go_ret
        exact ⟨by rw [decide_eq_true HE.out]; rfl, HK.out.2⟩
  · have HX := hide (show ¬ l = m from fun e => hlen (by rw [e]))
    have hne : (l.length != m.length) = true := by simp [hlen]
    have hne' : ((l.length : Int) != (m.length : Int)) = true := by simp; omega
    clear hlen
    go_enter Try.func31, Try.ntmps31
    go_wp2
    go_ret
    exact ⟨by rw [decide_eq_false HX.out]; rfl, Keeps.refl _ _⟩
end Go.Proofs.Ytbfghecemppoeaa

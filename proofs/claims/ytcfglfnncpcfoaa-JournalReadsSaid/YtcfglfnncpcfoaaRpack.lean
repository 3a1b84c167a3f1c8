/- ref.Pack. -/
import Derived.Test.YtcfglfnncpcfoaaRnum
import Derived.Test.YtcfglfnncpcfoaaNum
import Derived.Test.YtcfglfnncpcfoaaPack
namespace Go.Proofs.Ytcfglfnncpcfoaa
open Go.RowKit Go.Shelf
set_option maxHeartbeats 4000000 in
set_option maxRecDepth 100000 in
theorem rpack_any (A : Option Addr) (c : Nat) (l : List ByteArray) (w : World) (hs : SS w (.slice A l.length c) l) (hp : (packB l).length ≤ 140737488355328) (hl : l.length ≤ 1000000000) (hz : ∀ s ∈ l, s.size ≤ 140737488355328) :
    Calls Try.prog 20 #[.slice A l.length c] w fun e w' => e = .returned (.string (bs (packB l))) ∧ Keeps [] w w' := by
  have HP := hide hp
  have HZ := hide hz
  have HN := hide (fun (W : World) => rnumber_any (l.length + 1) l.length W (by omega) (by omega))
  have hwl : IntKind.u64.wrap (l.length : Int) = (l.length : Int) := by rw [IntKind.wrap_u64]; omega
  clear hp hz
  go_enter Try.func20, Try.ntmps20
  go_wp2_with fail
  refine (HN.out _).mono ?_
  rintro e w1 ⟨rfl, k1⟩
  have HK1 := hide k1
  clear k1 HN
  go_wp2
  go_loopw [3, 4] (fun s3 s4 wr => ∃ (k : Nat) (p : ByteArray), k ≤ l.length ∧ s3 = .string p ∧ s4 = .int .i64 k ∧ Hid (p = bs (numL l.length ++ (l.take k).flatMap itemL)) ∧ Hid (Keeps [] w wr)) (fun _ s4 _ => l.length - (intOf s4).toNat)
  case atStart => exact ⟨0, _, Nat.zero_le _, rfl, rfl, hide (by simp), HK1⟩
  case round =>
    obtain ⟨k, p, hk, rfl, rfl, HE, HK⟩ := hrel
    clear HK1
    have hk0 : (0 : Int) ≤ (k : Int) := by omega
    by_cases hlt : k < l.length
    · have hltz : (k : Int) < (l.length : Int) := by omega
      have hd1 : decide (k < l.length) = true := by simp [hlt]
      obtain ⟨b0, o0, rfl, hcell⟩ := (Src.keep hs HK.out (by simp)).headN (by omega) (by omega)
      have hc := hcell k (.string l[k]) (by simp [ssv, hlt])
      clear hcell
      have hsz := HZ.out l[k] (List.getElem_mem _)
      have hpl : p.size ≤ 140737488355328 := by
        have h1 := HP.out
        have h2 := flat_le itemL l k
        rw [HE.out, bs_size, List.length_append]
        rw [packB, List.length_append] at h1
        omega
      have HE2 := hide (show p ++ bs (numL l[k].size) ++ l[k] = bs (numL l.length ++ (l.take (k + 1)).flatMap itemL) from bs_ext (by
        rw [flat_succ itemL hlt, HE.out, ByteArray.data_append, ByteArray.data_append, Array.toList_append, Array.toList_append, bs_list, bs_list, bs_list, itemL]
        simp only [List.append_assoc]))
      have hnl := numL_length l[k].size (by omega)
      generalize l[k] = s at hc hsz HE2 hnl
      have hw1 : IntKind.u64.wrap (s.size : Int) = (s.size : Int) := by rw [IntKind.wrap_u64]; omega
      have HR := hide (fun (W : World) => rnumber_any (s.size + 1) s.size W (by omega) (by omega))
      have hpq : (p ++ bs (numL s.size)).size ≤ 140737488355428 := by rw [ByteArray.size_append, bs_size]; omega
      have ha1 := fun W => run_string_add_sum (P := Try.prog) (w := W) p (bs (numL s.size)) (by rw [bs_size]; omega)
      have ha2 := fun W => run_string_add_sum (P := Try.prog) (w := W) (p ++ bs (numL s.size)) s (by omega)
      generalize bs (numL s.size) = q at ha1 ha2 HE2 HR
      generalize p ++ q = pq at ha1 ha2 HE2
      generalize pq ++ s = r at ha2 HE2
      clear hpq hpl hnl HP HZ
      go_wp2_with fail
      go_region_with (go_at_call 38; refine (HR.out _).mono ?_; rintro e w2 ⟨rfl, hk2⟩; (try have hc2 : w2.cell? ⟨b0, o0 + k, none⟩ = some (.string s) := hk2.cell hc))
      all_goals
        go_wp2
        go_roundw
        case measure => simp [intOf]; omega
        case rel => exact ⟨k + 1, r, by omega, rfl, by go_num, HE2, hide (HK.out.trans' ((Keeps.refl [] wr).drew.trans' hk2))⟩
    · have hltz : ¬ (k : Int) < (l.length : Int) := by omega
      obtain rfl : k = l.length := by omega
      have hd1 : decide (l.length < l.length) = false := by simp
      have HPK := hide (show p = bs (packB l) by rw [HE.out, List.take_length]; rfl)
      clear HE
      go_wp2
      go_ret
      exact ⟨by rw [HPK.out]; rfl, HK.out⟩
end Go.Proofs.Ytcfglfnncpcfoaa

/- ref.Ints. -/
import Derived.Test.YtcfglfnncpcfoaaRnum
import Derived.Test.YtcfglfnncpcfoaaNum
import Derived.Test.YtcfglfnncpcfoaaPack
import Derived.Test.YtcfglfnncpcfoaaSigns
namespace Go.Proofs.Ytcfglfnncpcfoaa
open Go.RowKit Go.Shelf
set_option maxHeartbeats 4000000 in
set_option maxRecDepth 100000 in
theorem rints_any (A : Option Addr) (c : Nat) (l : List Int) (w : World) (hs : IS w (.slice A l.length c) l) (hp : (intsB l).length ≤ 1000000000) (hl : l.length ≤ 1000000000) (hz : ∀ n ∈ l, -9223372036854775808 ≤ n ∧ n ≤ 9223372036854775807) :
    Calls Try.prog 18 #[.slice A l.length c] w fun e w' => e = .returned (.string (bs (intsB l))) ∧ Keeps [] w w' := by
  have HP := hide hp
  have HZ := hide hz
  have HN := hide (fun (W : World) => rnumber_any (l.length + 1) l.length W (by omega) (by omega))
  have hwl : IntKind.u64.wrap (l.length : Int) = (l.length : Int) := by rw [IntKind.wrap_u64]; omega
  clear hp hz
  go_enter Try.func18, Try.ntmps18
  go_wp2_with fail
  refine (HN.out _).mono ?_
  rintro e w1 ⟨rfl, k1⟩
  have HK1 := hide k1
  clear k1 HN
  go_wp2
  go_loopw [3, 4] (fun s3 s4 wr => ∃ (k : Nat) (p : ByteArray), k ≤ l.length ∧ s3 = .string p ∧ s4 = .int .i64 k ∧ Hid (p = bs (numL l.length ++ (l.take k).flatMap intL)) ∧ Hid (Keeps [] w wr)) (fun _ s4 _ => l.length - (intOf s4).toNat)
  case atStart => exact ⟨0, _, Nat.zero_le _, rfl, rfl, hide (by simp), HK1⟩
  case round =>
    obtain ⟨k, p, hk, rfl, rfl, HE, HK⟩ := hrel
    clear HK1
    have hk0 : (0 : Int) ≤ (k : Int) := by omega
    by_cases hlt : k < l.length
    · have hltz : (k : Int) < (l.length : Int) := by omega
      have hd1 : decide (k < l.length) = true := by simp [hlt]
      obtain ⟨b0, o0, rfl, hcell⟩ := (Src.keep hs HK.out (by simp)).headN (by omega) (by omega)
      have hc := hcell k (.int .i64 l[k]) (by simp [isv, hlt])
      clear hcell
      obtain ⟨n1, n2⟩ := HZ.out l[k] (List.getElem_mem _)
      obtain ⟨m1, m2⟩ := sgn_b l[k] n1 n2
      have hpl : p.size ≤ 1000000000 := by
        have h1 := HP.out
        have h2 := flat_le intL l k
        rw [HE.out, bs_size, List.length_append]
        rw [intsB, List.length_append] at h1
        omega
      have HE2 := hide (show p ++ bs (numL (sgn l[k]).toNat) = bs (numL l.length ++ (l.take (k + 1)).flatMap intL) from bs_ext (by
        rw [flat_succ intL hlt, HE.out, ByteArray.data_append, Array.toList_append, bs_list, bs_list, bs_list, intL]
        simp only [List.append_assoc]))
      have hnl := numL_length (sgn l[k]).toNat (by omega)
      generalize l[k] = n at hc n1 n2 m1 m2 HE2 hnl
      obtain ⟨m, hm⟩ := Int.eq_ofNat_of_zero_le m1
      have HG := hide (fun (W : World) => rsigned_any n W n1 n2)
      rw [hm, Int.toNat_natCast] at HE2 hnl
      rw [hm] at HG m2
      have HR := hide (fun (W : World) => rnumber_any (m + 1) m W (by omega) (by omega))
      have ha1 := fun W => run_string_add_sum (P := Try.prog) (w := W) p (bs (numL m)) (by rw [bs_size]; omega)
      generalize bs (numL m) = q at ha1 HE2 HR
      generalize p ++ q = r at ha1 HE2
      clear hpl hnl HP HZ hm
      go_wp2_with fail
      refine (HG.out _).mono ?_
      rintro e w2 ⟨rfl, rfl⟩
      go_wp2_with fail
      refine (HR.out _).mono ?_
      rintro e w3 ⟨rfl, k3⟩
      have HK3 := hide (HK.out.trans' k3)
      clear k3 HR HG
      go_wp2
      go_roundw
      case measure => simp [intOf]; omega
      case rel => exact ⟨k + 1, r, by omega, rfl, by go_num, HE2, HK3⟩
    · have hltz : ¬ (k : Int) < (l.length : Int) := by omega
      obtain rfl : k = l.length := by omega
      have hd1 : decide (l.length < l.length) = false := by simp
      have HPK := hide (show p = bs (intsB l) by rw [HE.out, List.take_length]; rfl)
      clear HE
      go_wp2
      go_ret
      exact ⟨by rw [HPK.out]; rfl, HK.out⟩
end Go.Proofs.Ytcfglfnncpcfoaa

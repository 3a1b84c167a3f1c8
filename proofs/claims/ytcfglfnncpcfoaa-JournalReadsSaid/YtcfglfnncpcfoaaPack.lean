/- codec.Pack, codec.Ints. -/
import Derived.Test.YtcfglfnncpcfoaaSmall
namespace Go.Proofs.Ytcfglfnncpcfoaa
open Go.RowKit Go.Shelf
/-- Strings as cells. -/
def ssv (l : List ByteArray) : List Value := l.map Value.string
def isv (l : List Int) : List Value := l.map (Value.int .i64)
abbrev SS (w : World) (v : Value) (l : List ByteArray) : Prop := Src w 1 v l.length (ssv l)
abbrev IS (w : World) (v : Value) (l : List Int) : Prop := Src w 1 v l.length (isv l)
/-- What follows the number of elements. -/
def itemL (s : ByteArray) : List UInt8 := numL s.size ++ s.data.toList
def packB (l : List ByteArray) : List UInt8 := numL l.length ++ l.flatMap itemL
def intL (n : Int) : List UInt8 := numL (sgn n).toNat
def intsB (l : List Int) : List UInt8 := numL l.length ++ l.flatMap intL
theorem flat_succ {α : Type} (f : α → List UInt8) {l : List α} {k : Nat} (hk : k < l.length) : (l.take (k + 1)).flatMap f = (l.take k).flatMap f ++ f l[k] := by
  rw [List.take_succ_eq_append_getElem hk, List.flatMap_append]
  simp
theorem flat_le {α : Type} (f : α → List UInt8) : ∀ (l : List α) (k : Nat), ((l.take k).flatMap f).length ≤ (l.flatMap f).length
  | [], k => by simp
  | a :: t, 0 => by simp
  | a :: t, k + 1 => by
    have := flat_le f t k
    simp only [List.take_succ_cons, List.flatMap_cons, List.length_append]
    omega
theorem bs_add (l : List UInt8) (s : ByteArray) : (bs l ++ s).data.toList = l ++ s.data.toList := by
  rw [ByteArray.data_append, Array.toList_append]
  simp [bs]
set_option maxHeartbeats 2000000 in
set_option maxRecDepth 100000 in
theorem pack_any (A : Option Addr) (c : Nat) (l : List ByteArray) (w : World) (hs : SS w (.slice A l.length c) l) (hp : (packB l).length ≤ 140737488355328) (hl : l.length ≤ 1000000000) (hz : ∀ s ∈ l, s.size ≤ 140737488355328) :
    Calls Try.prog 51 #[.slice A l.length c] w fun e w' => e = .returned (.string (bs (packB l))) ∧ Keeps [] w w' := by
  have HB := hide (Bld.new w)
  have HW := hide ((Below.refl w.heap.size w).alloc (Nat.le_refl _) (.cells #[.pointer none, .slice none 0 0] 96))
  have hlz : (0 : Int) ≤ (l.length : Int) := by omega
  have hlz2 : IntKind.u64.wrap (l.length : Int) = (l.length : Int) := by rw [IntKind.wrap_u64]; omega
  go_enter Try.func51, Try.ntmps51
  go_wp2_with fail
  generalize w.alloc (.cells #[.pointer none, .slice none 0 0] 96) = w1 at HB HW ⊢
  refine (number_any l.length w1 (by omega)).mono ?_
  rintro e w2 ⟨rfl, b2⟩
  have hw1 := HW.out.size
  replace HB := hide (HB.out.keep (keeps_of_below b2 (Nat.le_refl _)))
  replace HW := hide (HW.out.trans (b2.mono hw1))
  have hw2 := HW.out.size
  have hnl := numL_length l.length (by omega)
  clear b2 hw1 hlz2
  go_wp2_with fail
  refine (wstr_any w.heap.size w.heap.size [] (bs (numL l.length)) w2 HB.out (by rw [bs_size]; simp; omega) hw2).mono ?_
  rintro e w3 ⟨rfl, hb3, b3⟩
  rw [List.nil_append, bs_list] at hb3
  replace HB := hide (show Bld w.heap.size w.heap.size (numL l.length ++ (l.take 0).flatMap itemL) w3 by simpa using hb3)
  replace HW := hide (HW.out.trans b3)
  have HS := hide hs
  have HZ := hide hz
  have HP := hide hp
  clear hb3 b3 hw2 hs hz hp
  go_wp2
  go_loopw [5, 13] (fun _ s13 wr => ∃ k : Nat, k ≤ l.length ∧ s13 = .int .i64 k ∧ Hid (Bld w.heap.size w.heap.size (numL l.length ++ (l.take k).flatMap itemL) wr) ∧ Hid (Below w.heap.size w wr)) (fun _ s13 _ => l.length - (intOf s13).toNat)
  case atStart => exact ⟨0, Nat.zero_le _, rfl, HB, HW⟩
  case round =>
    obtain ⟨k, hk, rfl, HBR, HWR⟩ := hrel
    by_cases hlt : k < l.length
    · have hltz : (k : Int) < (l.length : Int) := by omega
      have hk0 : (0 : Int) ≤ (k : Int) := by omega
      obtain ⟨b0, o0, rfl, hcell⟩ := (Src.keep HS.out (keeps_of_below HWR.out (Nat.le_refl _)) (by simp)).headN (by omega) (by omega)
      have hc := hcell k (.string l[k]) (by simp [ssv, hlt])
      have hzk := HZ.out l[k] (List.getElem_mem _)
      have HF := hide (flat_succ itemL hlt)
      have hle : (numL l.length).length + ((l.take (k + 1)).flatMap itemL).length ≤ 140737488355328 := by
        have h1 := flat_le itemL l (k + 1)
        have h2 := HP.out
        unfold packB at h2
        rw [List.length_append] at h2
        omega
      rw [HF.out, List.length_append] at hle
      clear hcell
      generalize l[k] = s at hc hzk HF hle
      have hsz0 : (0 : Int) ≤ (s.size : Int) := by omega
      have hwz : IntKind.u64.wrap (s.size : Int) = (s.size : Int) := by rw [IntKind.wrap_u64]; omega
      have hil : (itemL s).length = (numL s.size).length + s.size := by rw [itemL, List.length_append, Array.length_toList]; rfl
      go_wp2_with fail
      refine (number_any s.size wr (by omega)).mono ?_
      rintro e w4 ⟨rfl, b4⟩
      have hw4 := HWR.out.size
      have HB4 := hide (HBR.out.keep (keeps_of_below b4 (Nat.le_refl _)))
      have HW4 := hide (HWR.out.trans (b4.mono hw4))
      have hw5 := HW4.out.size
      clear b4 hw4 hc hwz
      have hadd := fun W => run_string_add_sum (P := Try.prog) (w := W) (bs (numL s.size)) s (by rw [bs_size]; omega)
      go_wp2_with fail
      refine (wstr_any w.heap.size w.heap.size _ (bs (numL s.size) ++ s) w4 HB4.out (by rw [ByteArray.size_append, bs_size, List.length_append]; omega) hw5).mono ?_
      rintro e w5 ⟨rfl, hb5, b5⟩
      have HB5 := hide (show Bld w.heap.size w.heap.size (numL l.length ++ (l.take (k + 1)).flatMap itemL) w5 by
        rw [HF.out, ← List.append_assoc, itemL, ← bs_add]; exact hb5)
      have HW5 := hide (HW4.out.trans b5)
      clear hb5 b5 HB4 HW4 hw5
      go_wp2
      go_roundw
      case measure => simp [intOf]; omega
      case rel => exact ⟨k + 1, by omega, by go_num, HB5, HW5⟩
    · obtain rfl : k = l.length := by omega
      have hltz : ¬ (l.length : Int) < (l.length : Int) := by omega
      have hw4 := HWR.out.size
      have HBE := hide (show Bld w.heap.size w.heap.size (packB l) wr by have := HBR.out; rwa [List.take_length] at this)
      clear HBR
      go_wp2_with fail
      refine (bstr_any w.heap.size w.heap.size _ wr HBE.out hw4).mono ?_
      rintro e w5 ⟨rfl, b5⟩
      have HKE := hide (keeps_of_below (HWR.out.trans b5) (Nat.le_refl _))
      go_wp2
      go_ret
      exact ⟨rfl, HKE.out⟩
set_option maxHeartbeats 2000000 in
set_option maxRecDepth 100000 in
theorem ints_any (A : Option Addr) (c : Nat) (l : List Int) (w : World) (hs : IS w (.slice A l.length c) l) (hp : (intsB l).length ≤ 1000000000) (hl : l.length ≤ 1000000000) (hz : ∀ n ∈ l, -9223372036854775808 ≤ n ∧ n ≤ 9223372036854775807) :
    Calls Try.prog 35 #[.slice A l.length c] w fun e w' => e = .returned (.string (bs (intsB l))) ∧ Keeps [] w w' := by
  have HB := hide (Bld.new w)
  have HW := hide ((Below.refl w.heap.size w).alloc (Nat.le_refl _) (.cells #[.pointer none, .slice none 0 0] 96))
  have hlz : (0 : Int) ≤ (l.length : Int) := by omega
  have hlz2 : IntKind.u64.wrap (l.length : Int) = (l.length : Int) := by rw [IntKind.wrap_u64]; omega
  go_enter Try.func35, Try.ntmps35
  go_wp2_with fail
  generalize w.alloc (.cells #[.pointer none, .slice none 0 0] 96) = w1 at HB HW ⊢
  refine (number_any l.length w1 (by omega)).mono ?_
  rintro e w2 ⟨rfl, b2⟩
  have hw1 := HW.out.size
  replace HB := hide (HB.out.keep (keeps_of_below b2 (Nat.le_refl _)))
  replace HW := hide (HW.out.trans (b2.mono hw1))
  have hw2 := HW.out.size
  have hnl := numL_length l.length (by omega)
  clear b2 hw1 hlz2
  go_wp2_with fail
  refine (wstr_any w.heap.size w.heap.size [] (bs (numL l.length)) w2 HB.out (by rw [bs_size]; simp; omega) hw2).mono ?_
  rintro e w3 ⟨rfl, hb3, b3⟩
  rw [List.nil_append, bs_list] at hb3
  replace HB := hide (show Bld w.heap.size w.heap.size (numL l.length ++ (l.take 0).flatMap intL) w3 by simpa using hb3)
  replace HW := hide (HW.out.trans b3)
  have HS := hide hs
  have HZ := hide hz
  have HP := hide hp
  clear hb3 b3 hw2 hs hz hp
  go_wp2
  go_loopw [5, 13] (fun _ s13 wr => ∃ k : Nat, k ≤ l.length ∧ s13 = .int .i64 k ∧ Hid (Bld w.heap.size w.heap.size (numL l.length ++ (l.take k).flatMap intL) wr) ∧ Hid (Below w.heap.size w wr)) (fun _ s13 _ => l.length - (intOf s13).toNat)
  case atStart => exact ⟨0, Nat.zero_le _, rfl, HB, HW⟩
  case round =>
    obtain ⟨k, hk, rfl, HBR, HWR⟩ := hrel
    by_cases hlt : k < l.length
    · have hltz : (k : Int) < (l.length : Int) := by omega
      have hk0 : (0 : Int) ≤ (k : Int) := by omega
      obtain ⟨b0, o0, rfl, hcell⟩ := (Src.keep HS.out (keeps_of_below HWR.out (Nat.le_refl _)) (by simp)).headN (by omega) (by omega)
      have hc := hcell k (.int .i64 l[k]) (by simp [isv, hlt])
      have hzk := HZ.out l[k] (List.getElem_mem _)
      have HF := hide (flat_succ intL hlt)
      have hle : ((l.take (k + 1)).flatMap intL).length ≤ 1000000000 := by
        have h1 := flat_le intL l (k + 1)
        have h2 := HP.out
        unfold intsB at h2
        rw [List.length_append] at h2
        omega
      rw [HF.out, List.length_append] at hle
      clear hcell
      generalize l[k] = n at hc hzk HF hle
      obtain ⟨m, hm⟩ : ∃ m : Nat, m = (sgn n).toNat := ⟨_, rfl⟩
      have hm1 : sgn n = (m : Int) ∧ m < 18446744073709551616 := by rw [hm]; unfold sgn; split <;> omega
      have hil : intL n = numL m := by rw [intL, ← hm]
      have HIL := hide hil
      have hc24 := fun W => signed_any n W hzk.1 hzk.2
      rw [hm1.1] at hc24
      rw [hil] at hle
      have hm2 := hm1.2
      clear hil hm hm1 hzk
      go_wp2_with fail
      refine (hc24 wr).mono ?_
      rintro e w' ⟨rfl, rfl⟩
      go_wp2_with fail
      refine (number_any m wr hm2).mono ?_
      rintro e w4 ⟨rfl, b4⟩
      have hw4 := HWR.out.size
      have HB4 := hide (HBR.out.keep (keeps_of_below b4 (Nat.le_refl _)))
      have HW4 := hide (HWR.out.trans (b4.mono hw4))
      have hw5 := HW4.out.size
      clear b4 hw4 hc hc24
      go_wp2_with fail
      refine (wstr_any w.heap.size w.heap.size _ (bs (numL m)) w4 HB4.out (by rw [bs_size, List.length_append]; omega) hw5).mono ?_
      rintro e w5 ⟨rfl, hb5, b5⟩
      have HB5 := hide (show Bld w.heap.size w.heap.size (numL l.length ++ (l.take (k + 1)).flatMap intL) w5 by
        rw [HF.out, ← List.append_assoc, HIL.out]; rw [bs_list] at hb5; exact hb5)
      have HW5 := hide (HW4.out.trans b5)
      clear hb5 b5 HB4 HW4 hw5
      go_wp2
      go_roundw
      case measure => simp [intOf]; omega
      case rel => exact ⟨k + 1, by omega, by go_num, HB5, HW5⟩
    · obtain rfl : k = l.length := by omega
      have hltz : ¬ (l.length : Int) < (l.length : Int) := by omega
      have hw4 := HWR.out.size
      have HBE := hide (show Bld w.heap.size w.heap.size (intsB l) wr by have := HBR.out; rwa [List.take_length] at this)
      clear HBR
      go_wp2_with fail
      refine (bstr_any w.heap.size w.heap.size _ wr HBE.out hw4).mono ?_
      rintro e w5 ⟨rfl, b5⟩
      have HKE := hide (keeps_of_below (HWR.out.trans b5) (Nat.le_refl _))
      go_wp2
      go_ret
      exact ⟨rfl, HKE.out⟩
end Go.Proofs.Ytcfglfnncpcfoaa

/- The reference's Number and ReadNumber. -/
import Derived.Test.YtcfglfnncpcfoaaNum
import Derived.Deep.RegionWith
namespace Go.Proofs.Ytcfglfnncpcfoaa
open Go.RowKit Go.Shelf
theorem numL_last (m : Nat) (h : m < 128) : numL m = [UInt8.ofNat m] := by
  unfold numL
  rw [gs_last m (by omega)]
  simp [gByte, Nat.mod_eq_of_lt h]
theorem numL_more (m : Nat) (h : ¬ m < 128) : numL m = UInt8.ofNat (m % 128 + 128) :: numL (m / 128) := by
  unfold numL
  rw [gs_more m (by omega)]
  simp [gByte]
theorem conv_one (W : World) (b r : Nat) (hr : r < 256) (h : W.cell? ⟨b, 0, none⟩ = some (.int .u8 (r : Int))) : (convert 36 9 (.slice (some ⟨b, 0, none⟩) 1 1)).run Try.prog W = .ok (.string ⟨#[UInt8.ofNat r]⟩) W := by
  refine run_bytes_str W _ 1 1 [UInt8.ofNat r] rfl ⟨by simp [bv], _, _, rfl, fun h => by (cases h), fun ad had j u hu => ?_⟩
  injection had with had
  subst had
  have hj : j = 0 := by
    have := (List.getElem?_eq_some_iff.1 hu).1
    simp [bv] at this
    omega
  subst hj
  have : u = .int .u8 (r : Int) := by
    simp [bv] at hu
    rw [← hu]
    congr 1
    omega
  subst this
  exact h
set_option maxHeartbeats 2000000 in
set_option maxRecDepth 100000 in
theorem rnumber_any : ∀ (f m : Nat) (w : World), m < f → m < 18446744073709551616 → Calls Try.prog 38 #[.int .u64 (m : Int)] w fun e w' => e = .returned (.string (bs (numL m))) ∧ Keeps [] w w'
  | 0, m, w, h, _ => by omega
  | f + 1, m, w, h, hm => by
    have hm0 : (0 : Int) ≤ (m : Int) := by omega
    by_cases hlt : m < 128
    · have h1 : (m : Int) < 128 := by omega
      have HN := hide (numL_last m hlt)
      have hcv : ∀ (W : World), (convert 36 9 (.slice (some ⟨w.heap.size, 0, none⟩) 1 1)).run Try.prog (w.alloc (.cells #[.int .u8 (m : Int)] 5)) = .ok (.string ⟨#[UInt8.ofNat m]⟩) (w.alloc (.cells #[.int .u8 (m : Int)] 5)) := fun _ => by
        have hsrc := Src.built w 5 #[.int .u8 (m : Int)] 1 1 rfl _ rfl
        have e : (#[.int .u8 (m : Int)] : Array Value).toList = bv [UInt8.ofNat m] := by
          simp [bv]; omega
        rw [e] at hsrc
        exact run_bytes_str _ _ 1 1 [UInt8.ofNat m] rfl hsrc
      have hcv := hcv w
      have HK := hide ((Keeps.refl [] w).alloc (.cells #[.int .u8 (m : Int)] 5))
      have hw8 : IntKind.u8.wrap (m : Int) = m := by rw [IntKind.wrap_u8']; omega
      go_enter Try.func38, Try.ntmps38
      go_wp2
      go_ret
      exact ⟨by rw [HN.out]; rfl, HK.out⟩
    · have h1 : ¬ (m : Int) < 128 := by omega
      have HN := hide (numL_more m hlt)
      obtain ⟨q, hq⟩ : ∃ q : Nat, q = m / 128 := ⟨_, rfl⟩
      have hqi : (m : Int) / 128 = (q : Int) := by omega
      obtain ⟨r, hr⟩ : ∃ r : Nat, r = m % 128 + 128 := ⟨_, rfl⟩
      have hri : (m : Int) % 128 + 128 = (r : Int) := by omega
      have hr8 : (r : Int) < 256 := by omega
      have hr0 : (0 : Int) ≤ (r : Int) := by omega
      rw [← hq, ← hr] at HN
      have HREC := hide (fun (W : World) => rnumber_any f q W (by omega) (by omega))
      have hql := numL_length q (by omega)
      clear hq hr
      go_enter Try.func38, Try.ntmps38
      have hcv := fun (W : World) (b : Nat) => conv_one W b r (by omega)
      have hadd := fun W => run_string_add_sum (P := Try.prog) (w := W) ⟨#[UInt8.ofNat r]⟩ (bs (numL q)) (by rw [bs_size]; simp [ByteArray.size]; omega)
      have hw8 : IntKind.u8.wrap (r : Int) = r := by rw [IntKind.wrap_u8']; omega
      have hwt : IntKind.u64.wrap ((m : Int).tmod 128 + 128) = (r : Int) := by rw [Int.tmod_eq_emod_of_nonneg hm0, IntKind.wrap_u64]; omega
      have hwq : IntKind.u64.wrap (q : Int) = q := by rw [IntKind.wrap_u64]; omega
      have HB := hide (Bk.new w 5 #[.int .u8 (r : Int)])
      have HEQ := hide (show (⟨#[UInt8.ofNat r]⟩ : ByteArray) ++ bs (numL q) = bs (numL m) from bs_ext (by rw [HN.out, ByteArray.data_append, Array.toList_append]; simp [bs]))
      go_wp2_with fail
      go_region_with (go_at_call 38; refine (HREC.out _).mono ?_; rintro e w2 ⟨rfl, hk2⟩; (try have e0 : w2.cell? ⟨w.heap.size, 0, none⟩ = some (.int .u8 (r : Int)) := hk2.cell (HB.out.cell 0)))
      all_goals
        go_wp2
        go_ret
        refine ⟨by rw [← HEQ.out]; rfl, ?_⟩
        first
          | exact ((Keeps.refl [] w).drew.trans' hk2).alloc _
          | exact ((Keeps.refl [] w).alloc _).drew.trans' hk2
          | fail
end Go.Proofs.Ytcfglfnncpcfoaa

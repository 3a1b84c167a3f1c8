/- The order of stamps: cmp.Compare, cmp.Or, compare, Less, and the reference's Less. -/
import Derived.Test.YtcfglfnncpcfoaaEv
import Derived.Deep.QuietTactic
import Derived.BigQuiet
import Derived.RegionTactic
import Derived.BigRegion
import Derived.Outline
import Derived.Lib.Hide
import Derived.StillTailTactics
namespace Go.Proofs.Ytcfglfnncpcfoaa
open Go.RowKit

def cmpI (a b : Int) : Int := if a < b then -1 else if b < a then 1 else 0
def orL : List Int → Int
  | [] => 0
  | a :: t => if a = 0 then orL t else a
def cmpS (a b c x y z : Int) : Int := orL [cmpI a x, cmpI b y, cmpI c z]
/-- The first stamp comes before the second. -/
def sltI (a b c x y z : Int) : Prop := a < x ∨ (a = x ∧ (b < y ∨ (b = y ∧ c < z)))
instance (a b c x y z : Int) : Decidable (sltI a b c x y z) := by unfold sltI; infer_instance
theorem cmpI_neg (a b : Int) : cmpI a b < 0 ↔ a < b := by unfold cmpI; split <;> (try split) <;> omega
theorem cmpI_zero (a b : Int) : cmpI a b = 0 ↔ a = b := by unfold cmpI; split <;> (try split) <;> omega
theorem cmpS_neg (a b c x y z : Int) : cmpS a b c x y z < 0 ↔ sltI a b c x y z := by
  unfold cmpS sltI orL orL orL orL
  have h1 := cmpI_neg a x
  have h2 := cmpI_neg b y
  have h3 := cmpI_neg c z
  have z1 := cmpI_zero a x
  have z2 := cmpI_zero b y
  have z3 := cmpI_zero c z
  split
  · split
    · split <;> omega
    · omega
  · omega
theorem cmpS_zero (a b c x y z : Int) : cmpS a b c x y z = 0 ↔ (a = x ∧ b = y ∧ c = z) := by
  unfold cmpS orL orL orL orL
  have z1 := cmpI_zero a x
  have z2 := cmpI_zero b y
  have z3 := cmpI_zero c z
  split
  · split
    · split <;> omega
    · omega
  · omega
theorem nan_any (a : Int) (w : World) : Calls Try.prog 70 #[.int .i64 a] w fun e w' => e = .returned (.bool false) ∧ w = w' := by
  go_enter Try.func70, Try.ntmps70
  go_wp2
  go_ret
  exact ⟨by simp, rfl⟩
theorem cmp_any (a b : Int) (w : World) : Calls Try.prog 62 #[.int .i64 a, .int .i64 b] w fun e w' => e = .returned (.int .i64 (cmpI a b)) ∧ w = w' := by
  unfold cmpI
  go_enter Try.func62, Try.ntmps62
  go_wp2_with (go_at_call 70; refine (nan_any _ _).mono ?_; rintro e w' ⟨rfl, rfl⟩)
  all_goals (go_ret; exact ⟨by simp_all, rfl⟩)
theorem or_any (l : List Int) (b o c : Nat) (w : World) (hl : l.length ≤ 64) (hcell : ∀ j u, l[j]? = some u → w.cell? ⟨b, o + j, none⟩ = some (.int .i64 u)) :
    Calls Try.prog 61 #[.slice (some ⟨b, o, none⟩) l.length c] w fun e w' => e = .returned (.int .i64 (orL l)) ∧ w = w' := by
  go_enter Try.func61, Try.ntmps61
  go_wp2
  go_loop [5, 8] (fun _ s8 => ∃ k : Nat, k ≤ l.length ∧ s8 = .int .i64 k ∧ Hid (orL l = orL (l.drop k))) (fun _ s8 => l.length - (intOf s8).toNat)
  case atStart => exact ⟨0, Nat.zero_le _, rfl, rfl⟩
  case round =>
    obtain ⟨k, hk, rfl, HD⟩ := hrel
    by_cases hlt : k < l.length
    · have hltz : (k : Int) < (l.length : Int) := by omega
      have hk0 : (0 : Int) ≤ (k : Int) := by omega
      have hce := hcell k l[k] (List.getElem?_eq_getElem hlt)
      have hdr : orL (l.drop k) = if l[k] = 0 then orL (l.drop (k + 1)) else l[k] := by
        rw [List.drop_eq_getElem_cons hlt]
        rfl
      have HR := hide hdr
      clear hdr hcell
      generalize l[k] = x at hce HR
      by_cases hx : x = 0
      · subst hx
        go_wp2
        go_round
        case measure => simp [intOf]; omega
        case rel =>
          refine ⟨k + 1, by omega, by go_num, ?_⟩
          show orL l = _
          rw [HD.out, HR.out]; simp
      · have hxb : (x != 0) = true := by simp [hx]
        go_wp2
        go_ret
        refine ⟨?_, rfl⟩
        rw [HD.out, HR.out, if_neg hx]
        rfl
    · have hltz : ¬ (k : Int) < (l.length : Int) := by omega
      obtain rfl : k = l.length := by omega
      go_wp2
      go_ret
      refine ⟨?_, rfl⟩
      rw [HD.out, List.drop_length]
      rfl
set_option maxRecDepth 100000 in
theorem compare_any (a b c x y z : Int) (w : World) : Calls Try.prog 47 #[sv a b c, sv x y z] w fun e w' => e = .returned (.int .i64 (cmpS a b c x y z)) ∧ Keeps [] w w' := by
  unfold sv
  go_enter Try.func47, Try.ntmps47
  go_wp2
  have hK : Keeps [] w ((w.alloc (.cells #[.int .i64 a, .int .i64 b, .int .i64 c] 23)).alloc (.cells #[.int .i64 x, .int .i64 y, .int .i64 z] 23)) := ((Keeps.refl [] w).alloc _).alloc _
  have hA : Bk ((w.alloc (.cells #[.int .i64 a, .int .i64 b, .int .i64 c] 23)).alloc (.cells #[.int .i64 x, .int .i64 y, .int .i64 z] 23)) w.heap.size 23 #[.int .i64 a, .int .i64 b, .int .i64 c] := (Bk.new w 23 _).alloc _
  have hB : Bk ((w.alloc (.cells #[.int .i64 a, .int .i64 b, .int .i64 c] 23)).alloc (.cells #[.int .i64 x, .int .i64 y, .int .i64 z] 23)) (w.heap.size + 1) 23 #[.int .i64 x, .int .i64 y, .int .i64 z] := by
    have := Bk.new (w.alloc (.cells #[.int .i64 a, .int .i64 b, .int .i64 c] 23)) 23 #[.int .i64 x, .int .i64 y, .int .i64 z]
    simpa using this
  change Code.wp _ _ _ _ ((w.alloc (.cells #[.int .i64 a, .int .i64 b, .int .i64 c] 23)).alloc (.cells #[.int .i64 x, .int .i64 y, .int .i64 z] 23))
  generalize (w.alloc (.cells #[.int .i64 a, .int .i64 b, .int .i64 c] 23)).alloc (.cells #[.int .i64 x, .int .i64 y, .int .i64 z] 23) = W at hK hA hB ⊢
  have HK := hide hK.drew
  replace hA := hA.drew
  replace hB := hB.drew
  refine wp_region_still_tail 15 (by kernel_rfl) (by kernel_rfl) ?_
  simp only [List.take_succ_cons, List.take_zero, List.drop_succ_cons, List.drop_zero]
  change wpStill _ _ W.drew _ _ _
  change wpStill _ _ _ (fun a' => wpList _ _ _ _ a' W.drew) _ _
  clear hK
  generalize W.drew = W2 at hA hB HK ⊢
  have a0 := hA.cell 0
  have a1 := hA.cell 1
  have a2 := hA.cell 2
  have b0 := hB.cell 0
  have b1 := hB.cell 1
  have b2 := hB.cell 2
  simp at a0 a1 a2 b0 b1 b2
  clear hA hB
  repeat (first | still_call ((cmp_any _ _ _).mono (by rintro e w' ⟨rfl, rfl⟩; exact ⟨rfl, rfl⟩)) | still_step)
  refine wpStill_nil ?_
  clear a0 a1 a2 b0 b1 b2
  go_wp2_with (go_at_call 61; refine (or_any [cmpI a x, cmpI b y, cmpI c z] _ _ _ _ (by simp) (by
    intro j u hu
    match j, hu with
    | 0, hu => simpa using hu
    | 1, hu => simpa using hu
    | 2, hu => simpa using hu
    | j + 3, hu => simp at hu)).mono ?_; rintro e w' ⟨rfl, rfl⟩)
  go_ret
  exact ⟨rfl, HK.out.alloc _⟩
set_option maxRecDepth 100000 in
theorem less_any (a b c x y z : Int) (w : World) : Calls Try.prog 31 #[sv a b c, sv x y z] w fun e w' => e = .returned (.bool (decide (sltI a b c x y z))) ∧ Keeps [] w w' := by
  unfold sv
  have HK := hide (((Keeps.refl [] w).alloc (.cells #[.int .i64 a, .int .i64 b, .int .i64 c] 23)).alloc (.cells #[.int .i64 x, .int .i64 y, .int .i64 z] 23))
  have HE := hide (cmpS_neg a b c x y z)
  go_enter Try.func31, Try.ntmps31
  go_wp2_with fail
  refine (compare_any a b c x y z _).mono ?_
  rintro e w2 ⟨rfl, k2⟩
  have HK2 := hide (HK.out.trans' k2)
  clear k2
  generalize cmpS a b c x y z = m at HE ⊢
  go_wp2
  go_ret
  refine ⟨?_, HK2.out⟩
  by_cases h : m < 0
  · simp [h, HE.out.1 h]
  · simp [h, mt HE.out.2 h]
theorem rless_any (a b c x y z : Int) (w : World) : Calls Try.prog 32 #[sv a b c, sv x y z] w fun e w' => e = .returned (.bool (decide (sltI a b c x y z))) ∧ Keeps [] w w' := by
  unfold sv
  have HK := hide (((Keeps.refl [] w).alloc (.cells #[.int .i64 a, .int .i64 b, .int .i64 c] 23)).alloc (.cells #[.int .i64 x, .int .i64 y, .int .i64 z] 23))
  go_enter Try.func32, Try.ntmps32
  by_cases h1 : a = x
  · have e1 : (a != x) = false := by simp [h1]
    by_cases h2 : b = y
    · have e2 : (b != y) = false := by simp [h2]
      have HS := hide (show decide (sltI a b c x y z) = decide (c < z) by simp [sltI, h1, h2])
      clear h1 h2
      go_wp2
      go_ret
      exact ⟨by rw [HS.out]; rfl, HK.out⟩
    · have e2 : (b != y) = true := by simp [h2]
      have HS := hide (show decide (sltI a b c x y z) = decide (b < y) by simp [sltI, h1, h2])
      clear h1 h2
      go_wp2
      go_ret
      exact ⟨by rw [HS.out]; rfl, HK.out⟩
  · have e1 : (a != x) = true := by simp [h1]
    have HS := hide (show decide (sltI a b c x y z) = decide (a < x) by simp [sltI, h1])
    clear h1
    go_wp2
    go_ret
    exact ⟨by rw [HS.out]; rfl, HK.out⟩
/-- The closure of Take. -/
theorem take1_any (e : Ev) (x y z : Int) (w : World) : Calls Try.prog 46 #[evl e, sv x y z] w fun r w' => r = .returned (.int .i64 (cmpS e.t e.s e.n x y z)) ∧ Keeps [] w w' := by
  obtain ⟨t, s, n, kind, item, patron, branch, hold, day, amount, version, fund, order, rs, rn, os, on, tx⟩ := e
  unfold sv evl
  simp only
  have HK := hide (((Keeps.refl [] w).alloc (.cells #[.int .i64 t, .int .i64 s, .int .i64 n, .int .i64 kind, .int .i64 item, .int .i64 patron, .int .i64 branch, .int .i64 hold, .int .i64 day, .int .i64 amount, .int .i64 version, .int .i64 fund, .int .i64 order, .int .i64 rs, .int .i64 rn, .int .i64 os, .int .i64 on, .string tx] 27)).alloc (.cells #[.int .i64 x, .int .i64 y, .int .i64 z] 23))
  go_enter Try.func46, Try.ntmps46
  go_wp2_with fail
  refine (compare_any t s n x y z _).mono ?_
  rintro e w2 ⟨rfl, k2⟩
  have HK2 := hide (HK.out.trans' k2)
  clear k2
  go_wp2
  go_ret
  exact ⟨rfl, HK2.out⟩
/-- The closure of Settle. -/
theorem settle1_any (e : Ev) (x : Int) (w : World) : Calls Try.prog 50 #[evl e, .int .i64 x] w fun r w' => r = .returned (.int .i64 (if x < e.t then 1 else -1)) ∧ Keeps [] w w' := by
  obtain ⟨t, s, n, kind, item, patron, branch, hold, day, amount, version, fund, order, rs, rn, os, on, tx⟩ := e
  unfold evl
  simp only
  have HK := hide ((Keeps.refl [] w).alloc (.cells #[.int .i64 t, .int .i64 s, .int .i64 n, .int .i64 kind, .int .i64 item, .int .i64 patron, .int .i64 branch, .int .i64 hold, .int .i64 day, .int .i64 amount, .int .i64 version, .int .i64 fund, .int .i64 order, .int .i64 rs, .int .i64 rn, .int .i64 os, .int .i64 on, .string tx] 27))
  by_cases h : x < t
  · have hd : decide (x < t) = true := by simp [h]
    rw [if_pos h]
    go_enter Try.func50, Try.ntmps50
    go_wp2
    go_ret
    exact ⟨rfl, HK.out⟩
  · have hd : decide (x < t) = false := by simp; omega
    rw [if_neg h]
    go_enter Try.func50, Try.ntmps50
    go_wp2
    go_ret
    exact ⟨rfl, HK.out⟩
end Go.Proofs.Ytcfglfnncpcfoaa

/- The order of holds: cmp.Compare, cmp.Or, compare, and the reference's Before. -/
import Derived.Test.YtlpmalkjbagbgaaHold
import Derived.Deep.QuietTactic
import Derived.BigQuiet
import Derived.RegionTactic
import Derived.BigRegion
import Derived.Outline
import Derived.StillTailTactics
namespace Go.Proofs.Ytlpmalkjbagbgaa
open Go.RowKit

def cmpI (a b : Int) : Int := if a < b then -1 else if b < a then 1 else 0
def orL : List Int → Int
  | [] => 0
  | a :: t => if a = 0 then orL t else a
def cmpH (a b : Hold) : Int := orL [cmpI a.time b.time, cmpI a.site b.site, cmpI a.stamp b.stamp, cmpI a.id b.id]

theorem nan_any (a : Int) (w : World) : Calls Try.prog 45 #[.int .i64 a] w fun e w' => e = .returned (.bool false) ∧ w = w' := by
  go_enter Try.func45, Try.ntmps45
  go_wp2
  go_ret
  exact ⟨by simp, rfl⟩
theorem cmp_any (a b : Int) (w : World) : Calls Try.prog 43 #[.int .i64 a, .int .i64 b] w fun e w' => e = .returned (.int .i64 (cmpI a b)) ∧ w = w' := by
  unfold cmpI
  go_enter Try.func43, Try.ntmps43
  go_wp2_with (go_at_call 45; refine (nan_any _ _).mono ?_; rintro e w' ⟨rfl, rfl⟩)
  all_goals (go_ret; exact ⟨by simp_all, rfl⟩)
theorem or_any (l : List Int) (b o c : Nat) (w : World) (hl : l.length ≤ 64) (hcell : ∀ j u, l[j]? = some u → w.cell? ⟨b, o + j, none⟩ = some (.int .i64 u)) :
    Calls Try.prog 42 #[.slice (some ⟨b, o, none⟩) l.length c] w fun e w' => e = .returned (.int .i64 (orL l)) ∧ w = w' := by
  go_enter Try.func42, Try.ntmps42
  go_wp2
  go_loop [5, 8] (fun _ s8 => ∃ k : Nat, k ≤ l.length ∧ s8 = .int .i64 k ∧ Hid (orL l = orL (l.drop k))) (fun _ s8 => l.length - (intOf s8).toNat)
  case atStart => exact ⟨0, Nat.zero_le _, rfl, rfl⟩
  case round =>
    obtain ⟨k, hk, rfl, HD⟩ := hrel
    by_cases hlt : k < l.length
    · have hltz : (k : Int) < (l.length : Int) := by omega
      have hk0 : (0 : Int) ≤ (k : Int) := by omega
      have hce := hcell k l[k] (List.getElem?_eq_getElem hlt)
      have hdr : orL (l.drop k) = if l[k] = 0 then orL (l.drop (k + 1)) else l[k] := by
        rw [List.drop_eq_getElem_cons hlt]
        rfl
      have HR := hide hdr
      clear hdr hcell
      generalize l[k] = x at hce HR
      by_cases hx : x = 0
      · subst hx
        go_wp2
        go_round
        case measure => simp [intOf]; omega
        case rel =>
          refine ⟨k + 1, by omega, by go_num, ?_⟩
          show orL l = _
          rw [HD.out, HR.out]; simp
      · have hxb : (x != 0) = true := by simp [hx]
        go_wp2
        go_ret
        refine ⟨?_, rfl⟩
        rw [HD.out, HR.out, if_neg hx]
        rfl
    · have hltz : ¬ (k : Int) < (l.length : Int) := by omega
      obtain rfl : k = l.length := by omega
      go_wp2
      go_ret
      refine ⟨?_, rfl⟩
      rw [HD.out, List.drop_length]
      rfl
theorem compare_any (a b : Hold) (w : World) : Calls Try.prog 30 #[hv a, hv b] w fun e w' => e = .returned (.int .i64 (cmpH a b)) ∧ Keeps [] w w' := by
  unfold hv
  have e1 : hc a = [.int .i64 a.id, .int .i64 a.patron, .int .i64 a.item, .int .i64 a.src, .int .i64 a.num, .int .i64 a.pickup, .int .i64 a.till, .int .i64 a.time, .int .i64 a.site, .int .i64 a.stamp] := rfl
  rw [e1]
  unfold hc
  go_enter Try.func30, Try.ntmps30
  go_wp2
  have hK : Keeps [] w ((w.alloc (.cells (hc a).toArray 28)).alloc (.cells (hc b).toArray 28)) := ((Keeps.refl [] w).alloc _).alloc _
  have hA : Bk ((w.alloc (.cells (hc a).toArray 28)).alloc (.cells (hc b).toArray 28)) w.heap.size 28 (hc a).toArray := (Bk.new w 28 _).alloc _
  have hB : Bk ((w.alloc (.cells (hc a).toArray 28)).alloc (.cells (hc b).toArray 28)) (w.heap.size + 1) 28 (hc b).toArray := by
    have := Bk.new (w.alloc (.cells (hc a).toArray 28)) 28 (hc b).toArray
    simpa using this
  change Code.wp _ _ _ _ ((w.alloc (.cells (hc a).toArray 28)).alloc (.cells (hc b).toArray 28))
  generalize (w.alloc (.cells (hc a).toArray 28)).alloc (.cells (hc b).toArray 28) = W at hK hA hB ⊢
  have HK := hide hK.drew
  replace hA := hA.drew
  replace hB := hB.drew
  refine wp_region_still_tail 26 (by kernel_rfl) (by kernel_rfl) ?_
  simp only [List.take_succ_cons, List.take_zero, List.drop_succ_cons, List.drop_zero]
  change wpStill _ _ W.drew _ _ _
  change wpStill _ _ _ (fun a' => wpList _ _ _ _ a' W.drew) _ _
  clear hK
  generalize W.drew = W2 at hA hB HK ⊢
  have a0 := hA.cell 0
  have a7 := hA.cell 7
  have a8 := hA.cell 8
  have a9 := hA.cell 9
  have b0 := hB.cell 0
  have b7 := hB.cell 7
  have b8 := hB.cell 8
  have b9 := hB.cell 9
  simp [hc] at a0 a7 a8 a9 b0 b7 b8 b9
  clear hA hB e1
  repeat (first | still_call ((cmp_any _ _ _).mono (by rintro e w' ⟨rfl, rfl⟩; exact ⟨rfl, rfl⟩)) | still_step)
  refine wpStill_nil ?_
  clear a0 a7 a8 a9 b0 b7 b8 b9
  go_wp2_with (go_at_call 42; refine (or_any [cmpI a.time b.time, cmpI a.site b.site, cmpI a.stamp b.stamp, cmpI a.id b.id] _ _ _ _ (by simp) (by
    intro j u hu
    match j, hu with
    | 0, hu => simpa using hu
    | 1, hu => simpa using hu
    | 2, hu => simpa using hu
    | 3, hu => simpa using hu
    | j + 4, hu => simp at hu)).mono ?_; rintro e w' ⟨rfl, rfl⟩)
  go_ret
  exact ⟨rfl, HK.out.alloc _⟩

def beforeB (a b : Hold) : Bool := decide (cmpH a b < 0)
def hkey (h : Hold) : List Int := [h.time, h.site, h.stamp, h.id]
def befL : List Int → List Int → Bool
  | x :: s, y :: t => if x = y then befL s t else decide (x < y)
  | _, _ => false
theorem orL_cmp (x y : Int) (r : List Int) : decide (orL (cmpI x y :: r) < 0) = if x = y then decide (orL r < 0) else decide (x < y) := by
  rcases Int.lt_trichotomy x y with h | h | h
  · have e : cmpI x y = -1 := by simp [cmpI, h]
    rw [e, if_neg (by omega)]
    simp [orL, h]
  · subst h
    have e : cmpI x x = 0 := by simp [cmpI]
    rw [e, if_pos rfl]
    simp [orL]
  · have e : cmpI x y = 1 := by unfold cmpI; rw [if_neg (by omega), if_pos h]
    rw [e, if_neg (by omega)]
    have : ¬ x < y := by omega
    simp [orL, this]
theorem befL_eq (a b : Hold) : beforeB a b = befL (hkey a) (hkey b) := by
  unfold beforeB cmpH
  rw [orL_cmp, orL_cmp, orL_cmp, orL_cmp]
  rfl
theorem befL_drop (s t : List Int) (k : Nat) (hs : k < s.length) (ht : k < t.length) : befL (s.drop k) (t.drop k) = if s[k] = t[k] then befL (s.drop (k + 1)) (t.drop (k + 1)) else decide (s[k] < t[k]) := by
  rw [List.drop_eq_getElem_cons hs, List.drop_eq_getElem_cons ht]
  rfl
set_option maxHeartbeats 1000000 in
theorem before_any (a b : Hold) (w : World) : Calls Try.prog 18 #[hv a, hv b] w fun e w' => e = .returned (.bool (beforeB a b)) ∧ Keeps [] w w' := by
  rw [befL_eq]
  unfold hv
  have e1 : hc a = [.int .i64 a.id, .int .i64 a.patron, .int .i64 a.item, .int .i64 a.src, .int .i64 a.num, .int .i64 a.pickup, .int .i64 a.till, .int .i64 a.time, .int .i64 a.site, .int .i64 a.stamp] := rfl
  rw [e1]
  unfold hc
  go_enter Try.func18, Try.ntmps18
  go_wp2
  let W0 : World := (((w.alloc (.cells (hc a).toArray 28)).alloc (.cells (hc b).toArray 28)).alloc (.cells #[.int .i64 a.time, .int .i64 a.site, .int .i64 a.stamp, .int .i64 a.id] 67)).alloc (.cells #[.int .i64 b.time, .int .i64 b.site, .int .i64 b.stamp, .int .i64 b.id] 67)
  have hK : Keeps [] w W0 := ((((Keeps.refl [] w).alloc _).alloc _).alloc _).alloc _
  have hA : Bk W0 (w.heap.size + 1 + 1) 67 #[.int .i64 a.time, .int .i64 a.site, .int .i64 a.stamp, .int .i64 a.id] := by
    have := (Bk.new ((w.alloc (.cells (hc a).toArray 28)).alloc (.cells (hc b).toArray 28)) 67 #[.int .i64 a.time, .int .i64 a.site, .int .i64 a.stamp, .int .i64 a.id]).alloc (.cells #[.int .i64 b.time, .int .i64 b.site, .int .i64 b.stamp, .int .i64 b.id] 67)
    simpa [W0] using this
  have hB : Bk W0 (w.heap.size + 1 + 1 + 1) 67 #[.int .i64 b.time, .int .i64 b.site, .int .i64 b.stamp, .int .i64 b.id] := by
    have := Bk.new (((w.alloc (.cells (hc a).toArray 28)).alloc (.cells (hc b).toArray 28)).alloc (.cells #[.int .i64 a.time, .int .i64 a.site, .int .i64 a.stamp, .int .i64 a.id] 67)) 67 #[.int .i64 b.time, .int .i64 b.site, .int .i64 b.stamp, .int .i64 b.id]
    simpa [W0] using this
  change Code.wp _ _ _ _ W0
  have HK := hide hK
  clear hK
  generalize W0 = W at HK hA hB ⊢
  clear e1
  have cA : ∀ k (h : k < (hkey a).length), W.cell? ⟨w.heap.size + 1 + 1, k, none⟩ = some (.int .i64 (hkey a)[k]) := fun k h => by
    rw [hA.cell k]
    match k, h with
    | 0, _ => rfl
    | 1, _ => rfl
    | 2, _ => rfl
    | 3, _ => rfl
  have cB : ∀ k (h : k < (hkey b).length), W.cell? ⟨w.heap.size + 1 + 1 + 1, k, none⟩ = some (.int .i64 (hkey b)[k]) := fun k h => by
    rw [hB.cell k]
    match k, h with
    | 0, _ => rfl
    | 1, _ => rfl
    | 2, _ => rfl
    | 3, _ => rfl
  clear hA hB
  go_loopw [7] (fun s7 wr => ∃ k q : Nat, k ≤ 4 ∧ s7 = .int .i64 k ∧ wr = W.drewN q ∧ Hid (befL (hkey a) (hkey b) = befL ((hkey a).drop k) ((hkey b).drop k))) (fun s7 _ => 4 - (intOf s7).toNat)
  case atStart => exact ⟨0, 0, by omega, rfl, rfl, rfl⟩
  case round =>
    obtain ⟨k, q, hk, rfl, rfl, HD⟩ := hrel
    by_cases hlt : k < 4
    · have hltz : (k : Int) < 4 := by omega
      have hk0 : (0 : Int) ≤ (k : Int) := by omega
      have cx := cA k hlt
      have cy := cB k hlt
      have hdr := befL_drop (hkey a) (hkey b) k hlt hlt
      have HR := hide hdr
      clear hdr cA cB
      generalize (hkey a)[k] = x at cx HR
      generalize (hkey b)[k] = y at cy HR
      by_cases hx : x = y
      · subst hx
        have hxb : (x != x) = false := by simp
        go_wp2
        go_quiet (fail)
        go_wp2
        go_roundw
        case measure => simp [intOf]; omega
        case rel =>
          refine ⟨k + 1, _, by omega, by go_num, rfl, ?_⟩
          show befL _ _ = _
          rw [HD.out, HR.out]; simp
      · have hxb : (x != y) = true := by simp [hx]
        go_wp2
        go_quiet (fail)
        go_wp2
        go_quiet (fail)
        go_wp2
        go_ret
        refine ⟨?_, ((HK.out.drewN _).drewN _).drewN _⟩
        rw [HD.out, HR.out, if_neg hx]
        rfl
    · have hltz : ¬ (k : Int) < 4 := by omega
      obtain rfl : k = 4 := by omega
      go_wp2
      go_ret
      exact ⟨by rw [HD.out]; rfl, HK.out.drewN _⟩
end Go.Proofs.Ytlpmalkjbagbgaa

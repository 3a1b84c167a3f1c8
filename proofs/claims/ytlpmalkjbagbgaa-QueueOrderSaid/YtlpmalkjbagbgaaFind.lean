/- Predicates handed to the library, slices.IndexFunc and ContainsFunc over holds. -/
import Derived.Test.YtlpmalkjbagbgaaCmp
import Derived.Shelf.Abstract
namespace Go.Proofs.Ytlpmalkjbagbgaa
open Go.RowKit Go.Shelf

/-- A predicate over holds, in every world that keeps w. -/
def Pred (g : Nat) (lb : Array Value) (p : Hold → Bool) (w : World) : Prop :=
  (∀ args w, (callFunc g args).run Try.prog w = .ok (.enter g args) w) ∧ ∀ (W : World) (x : Hold), Keeps [] w W → Calls Try.prog g (#[hvl x] ++ lb) W fun e w' => e = .returned (.bool (p x)) ∧ Keeps [] W w'
theorem Pred.keep {g : Nat} {lb : Array Value} {p : Hold → Bool} {w w' : World} (h : Pred g lb p w) (k : Keeps [] w w') : Pred g lb p w' := ⟨h.1, fun W x hk => h.2 W x (k.trans' hk)⟩

theorem has_any (id : Int) (w : World) : Calls Try.prog 27 #[.int .i64 id] w fun e w' => e = .returned (.func (.func 41) #[] #[.pointer (some ⟨w.heap.size, 0, none⟩)]) ∧ w.alloc (.cells #[.int .i64 id] 3) = w' := by
  go_enter Try.func27, Try.ntmps27
  go_wp2
  go_ret
  exact ⟨rfl, rfl⟩
theorem has_pred (id : Int) (b : Nat) (w : World) (h : w.cell? ⟨b, 0, none⟩ = some (.int .i64 id)) : Pred 41 #[.pointer (some ⟨b, 0, none⟩)] (fun x => decide (x.id = id)) w :=
  ⟨enters_of Try.func41 (by kernel_rfl) rfl, fun W x hb => by
    have hcW := hb.cell h
    have hbz : b < W.heap.size := World.block_lt_of_cell? W _ hcW
    have hne : b ≠ W.heap.size := by omega
    show Calls Try.prog 41 #[.agg #[.int .i64 x.id, .int .i64 x.patron, .int .i64 x.item, .int .i64 x.src, .int .i64 x.num, .int .i64 x.pickup, .int .i64 x.till, .int .i64 x.time, .int .i64 x.site, .int .i64 x.stamp], .pointer (some ⟨b, 0, none⟩)] W _
    go_enter Try.func41, Try.ntmps41
    go_wp2
    go_ret
    exact ⟨by simp; rfl, (Keeps.refl [] W).alloc _⟩⟩
/-- The first place at which p holds, or -1. -/
def firstI (p : Hold → Bool) (k : Nat) : List Hold → Int
  | [] => -1
  | a :: t => if p a then k else firstI p (k + 1) t
set_option maxHeartbeats 1000000 in
theorem index_any (g : Nat) (lb : Array Value) (p : Hold → Bool) (A : Option Addr) (c : Nat) (L : List Hold) (w : World) (hL : L.length ≤ 64) (hs : HS w (.slice A L.length c) L) (hp : Pred g lb p w) :
    Calls Try.prog 28 #[.slice A L.length c, .func (.func g) #[] lb] w fun e w' => e = .returned (.int .i64 (firstI p 0 L)) ∧ Keeps [] w w' := by
  obtain ⟨eg, hp⟩ := hp
  go_enter Try.func28, Try.ntmps28
  go_wp2
  go_loopw [5, 8] (fun _ s8 wr => ∃ k : Nat, k ≤ L.length ∧ s8 = .int .i64 k ∧ Hid (Keeps [] w wr) ∧ Hid (firstI p 0 L = firstI p k (L.drop k))) (fun _ s8 _ => L.length - (intOf s8).toNat)
  case atStart => exact ⟨0, Nat.zero_le _, rfl, hide (Keeps.refl _ _), rfl⟩
  case round =>
    obtain ⟨k, hk, rfl, HK, HD⟩ := hrel
    by_cases hlt : k < L.length
    · have hltz : (k : Int) < (L.length : Int) := by omega
      have hk0 : (0 : Int) ≤ (k : Int) := by omega
      obtain ⟨b, o, rfl, hcell⟩ := (Src.keep hs HK.out (by simp)).headN (by omega) (by omega)
      obtain ⟨c0, c1, c2, c3, c4, c5, c6, c7, c8, c9⟩ := hold_cells hcell k hlt
      have hcall := hp wr L[k] HK.out
      have HR := hide (show firstI p k (L.drop k) = if p L[k] then (k : Int) else firstI p (k + 1) (L.drop (k + 1)) by rw [List.drop_eq_getElem_cons hlt]; rfl)
      clear hcell hs hp
      generalize L[k] = y at c0 c1 c2 c3 c4 c5 c6 c7 c8 c9 hcall HR
      cases hq : p y with
      | true =>
        rw [hq] at hcall
        go_wp2_with (go_at_fn g; refine hcall.mono ?_; rintro e w' ⟨rfl, hb'⟩)
        go_ret
        refine ⟨?_, HK.out.trans' hb'⟩
        rw [HD.out, HR.out, hq]
        rfl
      | false =>
        rw [hq] at hcall
        go_wp2_with (go_at_fn g; refine hcall.mono ?_; rintro e w' ⟨rfl, hb'⟩)
        go_roundw
        case measure => simp [intOf]; omega
        case rel =>
          refine ⟨k + 1, by omega, by go_num, hide (HK.out.trans' hb'), ?_⟩
          show firstI p 0 L = _
          rw [HD.out, HR.out, hq]
          rfl
    · have hltz : ¬ (k : Int) < (L.length : Int) := by omega
      obtain rfl : k = L.length := by omega
      go_wp2
      go_ret
      refine ⟨?_, HK.out⟩
      rw [HD.out, List.drop_length]
      rfl
theorem firstI_any (p : Hold → Bool) : ∀ (L : List Hold) (k : Nat), decide (0 ≤ firstI p k L) = L.any p
  | [], k => by simp [firstI]
  | a :: t, k => by
    unfold firstI
    cases h : p a with
    | true => simp [h]
    | false => simp [h]; simpa using firstI_any p t (k + 1)
theorem contains_any (g : Nat) (lb : Array Value) (p : Hold → Bool) (A : Option Addr) (c : Nat) (L : List Hold) (w : World) (hL : L.length ≤ 64) (hs : HS w (.slice A L.length c) L) (hp : Pred g lb p w) :
    Calls Try.prog 26 #[.slice A L.length c, .func (.func g) #[] lb] w fun e w' => e = .returned (.bool (L.any p)) ∧ Keeps [] w w' := by
  rw [← firstI_any p L 0]
  go_enter Try.func26, Try.ntmps26
  go_wp2_with (go_at_call 28; refine (index_any g lb p A c L _ hL hs hp).mono ?_; rintro e w' ⟨rfl, hK⟩)
  go_ret
  exact ⟨rfl, hK⟩
theorem put1_pred (h : Hold) (b : Nat) (w : World) (hb : Bk w b 28 (hc h).toArray) : Pred 29 #[.pointer (some ⟨b, 0, none⟩)] (fun x => beforeB h x) w :=
  ⟨enters_of Try.func29 (by kernel_rfl) rfl, fun W x hk => by
    have hbW := hb.keep hk (by simp)
    have hne : b ≠ W.heap.size := by have := hbW.lt; omega
    have hb1 := hbW.alloc (.cells (hc x).toArray 28)
    obtain ⟨c0, c1, c2, c3, c4, c5, c6, c7, c8, c9⟩ := box_cells hb1
    simp only [hc] at c0 c1 c2 c3 c4 c5 c6 c7 c8 c9
    have HK := hide ((Keeps.refl [] W).alloc (.cells (hc x).toArray 28))
    clear hb1 hbW hb
    show Calls Try.prog 29 #[.agg #[.int .i64 x.id, .int .i64 x.patron, .int .i64 x.item, .int .i64 x.src, .int .i64 x.num, .int .i64 x.pickup, .int .i64 x.till, .int .i64 x.time, .int .i64 x.site, .int .i64 x.stamp], .pointer (some ⟨b, 0, none⟩)] W _
    go_enter Try.func29, Try.ntmps29
    go_wp2_with (go_at_call 30; refine (compare_any h x _).mono ?_; rintro e w' ⟨rfl, hK⟩)
    go_ret
    exact ⟨rfl, HK.out.trans' hK⟩⟩
end Go.Proofs.Ytlpmalkjbagbgaa

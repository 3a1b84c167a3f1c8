/- queue.For. -/
import Derived.Test.YtlpmalkjbagbgaaTitle
import Derived.Deep.RegionHeld3
namespace Go.Proofs.Ytlpmalkjbagbgaa
open Go.RowKit Go.Shelf
/-- May the copy serve the hold? -/
def serve (item ms mn : Int) (T : List Sm) (x : Hold) : Bool := if 0 < x.item then decide (x.item = item) else decide ((titleOf x.src x.num T).1 = ms ∧ (titleOf x.src x.num T).2 = mn)
set_option maxHeartbeats 2000000 in
theorem serve_pred (item ms mn : Int) (T : List Sm) (A : Option Addr) (c b6 b8 b11 b12 : Nat) (w : World) (hT : T.length ≤ 64) (h6 : w.cell? ⟨b6, 0, none⟩ = some (.int .i64 item)) (h8 : w.cell? ⟨b8, 0, none⟩ = some (.slice A T.length c)) (hs : TS w (.slice A T.length c) T)
    (h11 : w.cell? ⟨b11, 0, none⟩ = some (.func (.func 32) #[] #[.pointer (some ⟨b8, 0, none⟩)])) (h12 : w.cell? ⟨b12, 0, none⟩ = some (.int .i64 ms)) (h13 : w.cell? ⟨b12, 1, none⟩ = some (.int .i64 mn)) :
    Pred 36 #[.pointer (some ⟨b6, 0, none⟩), .pointer (some ⟨b11, 0, none⟩), .pointer (some ⟨b12, 0, none⟩)] (serve item ms mn T) w :=
  ⟨enters_of Try.func36 (by kernel_rfl) rfl, fun W x hk => by
    have k1 := hk.alloc (.cells (hc x).toArray 28)
    have HKW := hide ((Keeps.refl [] W).alloc (.cells (hc x).toArray 28))
    have HB := hide (Bk.new W 28 (hc x).toArray)
    replace hs := Src.keep hs k1 (by simp)
    replace h6 := k1.cell h6
    replace h8 := k1.cell h8
    replace h11 := k1.cell h11
    replace h12 := k1.cell h12
    replace h13 := k1.cell h13
    have HS := hide hs
    clear hk k1 hs
    show Calls Try.prog 36 #[.agg #[.int .i64 x.id, .int .i64 x.patron, .int .i64 x.item, .int .i64 x.src, .int .i64 x.num, .int .i64 x.pickup, .int .i64 x.till, .int .i64 x.time, .int .i64 x.site, .int .i64 x.stamp], .pointer (some ⟨b6, 0, none⟩), .pointer (some ⟨b11, 0, none⟩), .pointer (some ⟨b12, 0, none⟩)] W _
    by_cases hpos : 0 < x.item
    · have HE := hide (show serve item ms mn T x = (x.item == item) by simp only [serve, hpos, if_true]; rfl)
      have hd : decide (0 < x.item) = true := by simp [hpos]
      go_enter Try.func36, Try.ntmps36
      simp only [hc] at HKW HB HS h6 h8 h11 h12 h13
      go_wp2
      go_ret
      exact ⟨by rw [HE.out]; rfl, HKW.out⟩
    · have HE := hide (show serve item ms mn T x = decide ((titleOf x.src x.num T).1 = ms ∧ (titleOf x.src x.num T).2 = mn) by simp only [serve, hpos, if_false])
      have hd : decide (0 < x.item) = false := by simp; omega
      have e32 := enters_of Try.func32 (by kernel_rfl) rfl
      have hg := Try.guard24
      have hE : ∀ w, (Op.equalIn 10000 24 (.agg #[.int .i64 (titleOf x.src x.num T).1, .int .i64 (titleOf x.src x.num T).2]) (.agg #[.int .i64 ms, .int .i64 mn])).run Try.prog w = .ok (serve item ms mn T x) w := fun w => by rw [HE.out]; exact eq24 9998 _ _ _ _ w
      clear HE
      generalize serve item ms mn T x = r at hE
      go_enter Try.func36, Try.ntmps36
      go_wp2
      simp only [hc] at HKW HB HS h6 h8 h11 h12 h13
      generalize W.alloc (.cells #[Value.int .i64 x.id, .int .i64 x.patron, .int .i64 x.item, .int .i64 x.src, .int .i64 x.num, .int .i64 x.pickup, .int .i64 x.till, .int .i64 x.time, .int .i64 x.site, .int .i64 x.stamp] 28) = W1 at HKW HB HS h6 h8 h11 h12 h13 ⊢
      obtain ⟨c0, c1, c2, c3, c4, c5, c6, c7, c8, c9⟩ := box_cells (h := x) HB.out
      have HC := hide (of_any x.src x.num b8 A c T W1.drew hT h8 HS.out)
      clear c0 c1 c2 c5 c6 c7 c8 c9 h6
      go_region_held3 (fun w' => w'.cell? ⟨W.heap.size, 3, none⟩ = some (.int .i64 x.src) ∧ w'.cell? ⟨W.heap.size, 4, none⟩ = some (.int .i64 x.num) ∧ w'.cell? ⟨b11, 0, none⟩ = some (.func (.func 32) #[] #[.pointer (some ⟨b8, 0, none⟩)]) ∧ w'.cell? ⟨b12, 0, none⟩ = some (.int .i64 ms) ∧ w'.cell? ⟨b12, 1, none⟩ = some (.int .i64 mn))
        (first
          | go_keep
          | (go_split_ands; exact ⟨hk2.cell (by assumption), hk2.cell (by assumption), hk2.cell (by assumption), hk2.cell (by assumption), hk2.cell (by assumption)⟩)
          | fail)
        (first
          | (go_at_call 32; refine HC.out.mono ?_; rintro e w2 ⟨rfl, hk2⟩)
          | (go_at_fn 32; refine HC.out.mono ?_; rintro e w2 ⟨rfl, hk2⟩)
          | fail)
      all_goals
        go_wp2
        go_ret
        exact ⟨rfl, HKW.out.trans' (((Keeps.refl [] _).drew).trans' hk2)⟩⟩
end Go.Proofs.Ytlpmalkjbagbgaa

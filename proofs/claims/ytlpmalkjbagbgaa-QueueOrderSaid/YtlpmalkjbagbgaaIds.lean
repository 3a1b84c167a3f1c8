/- ids; queue.Active. -/
import Derived.Test.YtlpmalkjbagbgaaQueue
namespace Go.Proofs.Ytlpmalkjbagbgaa
open Go.RowKit Go.Shelf
theorem ids_step {L : List Hold} {W : List Int} {k : Nat} (h1 : k < L.length) (h2 : k < W.length) (ht : (L.take k).map (·.id) = W.take k) (he : L[k].id = W[k]) : (L.take (k + 1)).map (·.id) = W.take (k + 1) := by
  rw [List.take_succ_eq_append_getElem h1, List.take_succ_eq_append_getElem h2, List.map_append, ht]
  simp [he]
theorem ids_not {L : List Hold} {W : List Int} {k : Nat} (h1 : k < L.length) (h2 : k < W.length) (he : L[k].id ≠ W[k]) : L.map (·.id) ≠ W := fun e => he (by subst e; simp)
set_option maxHeartbeats 2000000 in
theorem ids_any (A : Option Addr) (c : Nat) (L : List Hold) (b : Nat) (M : List Int) (w : World) (hL : L.length ≤ 64) (hs : HS w (.slice A L.length c) L) (hw : ∀ j u, M[j]? = some u → w.cell? ⟨b, j, none⟩ = some (.int .i64 u)) :
    Calls Try.prog 25 #[.slice A L.length c, .slice (some ⟨b, 0, none⟩) M.length M.length] w fun e w' => e = .returned (.bool (decide (L.map (·.id) = M))) ∧ Keeps [] w w' := by
  by_cases hlen : L.length = M.length
  · have HLN := hide hlen
    have hne : (L.length != M.length) = false := by simp [hlen]
    have hne' : ((L.length : Int) != (M.length : Int)) = false := by simp [hlen]
    clear hlen
    go_enter Try.func25, Try.ntmps25
    go_wp2
    go_loopw [5, 6, 14] (fun _ _ s14 wr => ∃ k : Nat, k ≤ L.length ∧ s14 = .int .i64 k ∧ Hid (Keeps [] w wr) ∧ Hid ((L.take k).map (·.id) = M.take k)) (fun _ _ s14 _ => L.length - (intOf s14).toNat)
    case atStart => exact ⟨0, Nat.zero_le _, rfl, hide (Keeps.refl _ _), hide rfl⟩
    case round =>
      obtain ⟨k, hk, rfl, HK, HN⟩ := hrel
      clear hne hne'
      by_cases hlt : k < L.length
      · have hltM : k < M.length := by rw [← HLN.out]; exact hlt
        have hltz : (k : Int) < (L.length : Int) := by omega
        have hltz' : (k : Int) < (M.length : Int) := by omega
        have hk0 : (0 : Int) ≤ (k : Int) := by omega
        obtain ⟨b1, o1, rfl, hcell⟩ := (Src.keep hs HK.out (by simp)).headN (by omega) (by omega)
        obtain ⟨c0, c1, c2, c3, c4, c5, c6, c7, c8, c9⟩ := hold_cells hcell k hlt
        have d0 := HK.out.cell (hw k M[k] (List.getElem?_eq_getElem hltM))
        have hbl : b ≠ wr.heap.size := by have := World.block_lt_of_cell? wr _ d0; simp at this; omega
        have HY := hide (fun e => ids_step hlt hltM HN.out e)
        have HX := hide (fun e => ids_not (L := L) (W := M) hlt hltM e)
        have HA := hide (HK.out.alloc (.cells (hc L[k]).toArray 28))
        have HB := hide (Bk.new wr 28 (hc L[k]).toArray)
        have HD := hide (((Keeps.refl [] wr).alloc (.cells (hc L[k]).toArray 28)).cell d0)
        clear hcell hs hw
        generalize L[k] = x at c0 c1 c2 c3 c4 c5 c6 c7 c8 c9 HX HY HA HB HD
        generalize M[k] = y at d0 HX HY HD
        clear d0
        by_cases he : x.id = y
        · have HR := hide (HY.out he)
          rw [← he] at HD
          have hxb : (x.id != x.id) = false := by simp
          clear he HX HY
          go_wp2
          simp only [hc] at HA HB HD
          generalize wr.alloc (.cells #[Value.int .i64 x.id, .int .i64 x.patron, .int .i64 x.item, .int .i64 x.src, .int .i64 x.num, .int .i64 x.pickup, .int .i64 x.till, .int .i64 x.time, .int .i64 x.site, .int .i64 x.stamp] 28) = W2 at HA HB HD ⊢
          obtain ⟨e0, -⟩ := box_cells (h := x) HB.out
          have e1 := HD.out
          go_quiet (fail)
          go_wp2
          go_roundw
          case measure => simp [intOf]; omega
          case rel => exact ⟨k + 1, by omega, by go_num, hide (HA.out.drewN _), HR⟩
        · have HR := hide (HX.out he)
          have hxb : (x.id != y) = true := by simp [he]
          clear he HX HY
          go_wp2
          simp only [hc] at HA HB HD
          generalize wr.alloc (.cells #[Value.int .i64 x.id, .int .i64 x.patron, .int .i64 x.item, .int .i64 x.src, .int .i64 x.num, .int .i64 x.pickup, .int .i64 x.till, .int .i64 x.time, .int .i64 x.site, .int .i64 x.stamp] 28) = W2 at HA HB HD ⊢
          obtain ⟨e0, -⟩ := box_cells (h := x) HB.out
          have e1 := HD.out
          go_quiet (fail)
          go_wp2
          go_ret
          exact ⟨by rw [decide_eq_false HR.out]; rfl, HA.out.drewN _⟩
      · have hltz : ¬ (k : Int) < (L.length : Int) := by omega
        obtain rfl : k = L.length := by omega
        go_wp2
        go_ret
        refine ⟨?_, HK.out⟩
        have := HN.out
        rw [List.take_length, HLN.out, List.take_length] at this
        rw [decide_eq_true this]; rfl
  · have HX := hide (show ¬ L.map (·.id) = M from fun e => hlen (by rw [← e]; simp))
    have hne : (L.length != M.length) = true := by simp [hlen]
    have hne' : ((L.length : Int) != (M.length : Int)) = true := by simp; omega
    clear hlen
    go_enter Try.func25, Try.ntmps25
    go_wp2
    go_ret
    exact ⟨by rw [decide_eq_false HX.out]; rfl, Keeps.refl _ _⟩

def act (day : Int) (x : Hold) : Bool := decide (x.till ≤ day)
theorem act_pred (day : Int) (b : Nat) (w : World) (h : w.cell? ⟨b, 0, none⟩ = some (.int .i64 day)) : Pred 38 #[.pointer (some ⟨b, 0, none⟩)] (act day) w :=
  ⟨enters_of Try.func38 (by kernel_rfl) rfl, fun W x hb => by
    have hcW := hb.cell h
    have hbz : b < W.heap.size := World.block_lt_of_cell? W _ hcW
    have hne : b ≠ W.heap.size := by omega
    show Calls Try.prog 38 #[.agg #[.int .i64 x.id, .int .i64 x.patron, .int .i64 x.item, .int .i64 x.src, .int .i64 x.num, .int .i64 x.pickup, .int .i64 x.till, .int .i64 x.time, .int .i64 x.site, .int .i64 x.stamp], .pointer (some ⟨b, 0, none⟩)] W _
    go_enter Try.func38, Try.ntmps38
    go_wp2
    go_ret
    exact ⟨rfl, (Keeps.refl [] W).alloc _⟩⟩
theorem active_any (A : Option Addr) (c : Nat) (L : List Hold) (day : Int) (w : World) (hL : L.length ≤ 64) (hs : HS w (.slice A L.length c) L) :
    Calls Try.prog 19 #[.slice A L.length c, .int .i64 day] w fun e w' => ∃ v, e = .returned v ∧ HO w' v (L.filter (act day)) ∧ New w v ∧ Keeps [] w w' := by
  have HK := hide ((Keeps.refl [] w).alloc (.cells #[.int .i64 day] 3))
  have HC := hide (with_any 38 _ (act day) A c L (w.alloc (.cells #[.int .i64 day] 3)) hL (Src.keep hs HK.out (by simp)) (act_pred day w.heap.size _ (by simp)))
  clear hs
  go_enter Try.func19, Try.ntmps19
  go_wp2_with (go_at_call 35; refine HC.out.mono ?_; rintro e w1 ⟨v, rfl, ho, hn, hk1⟩)
  go_ret
  exact ⟨_, rfl, ho, fun g hg => Nat.le_trans HK.out.size (hn g hg), HK.out.trans' hk1⟩
end Go.Proofs.Ytlpmalkjbagbgaa

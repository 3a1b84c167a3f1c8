/- The walk of DiskAgain. -/
import Derived.Test.YtppgddigcoojiaaCrashes
namespace Go.Proofs.Ytppgddigcoojiaa
open Go.RowKit
attribute [local go_sem ↓] Go.wp_at_zero Go.wp_at_succ

theorem crash_again (S : DS) (a b : List Int) : crashS (crashS S a) b = crashS S a := rfl

set_option maxRecDepth 100000 in
set_option maxHeartbeats 3200000 in
theorem again_walk (A : Option Addr) (c : Nat) (l : List ActD) (Aq : Option Addr) (cq : Nat) (q : List Int) (Ar : Option Addr) (cr : Nat) (r : List Int) (w : World) (hl : Src w 4 (.slice A l.length c) l.length (acs l)) (hok : ∀ a, a ∈ l → a.ok) (hlen : l.length ≤ 9223372036854775807)
    (hq : Src w 1 (.slice Aq q.length cq) q.length (iv q)) (hql : q.length ≤ 9223372036854775807) (hqr : ∀ x, x ∈ q → -9223372036854775808 ≤ x ∧ x ≤ 9223372036854775807)
    (hr : Src w 1 (.slice Ar r.length cr) r.length (iv r)) (hrl : r.length ≤ 9223372036854775807) (hrr : ∀ x, x ∈ r → -9223372036854775808 ≤ x ∧ x ≤ 9223372036854775807) :
    Calls Try.prog 9 #[.slice A l.length c, .slice Aq q.length cq, .slice Ar r.length cr] w fun e w' => e = .returned (.bool true) ∧ Keeps [] w w' := by
  have HL := hide hl
  have HOK := hide hok
  have HQ := hide (And.intro hq hqr)
  have HR := hide (And.intro hr hrr)
  clear hl hok hq hqr hr hrr
  go_enter Try.func9, Try.ntmps9
  go_wp2_with fail
  refine (sanity_any w).mono ?_
  rintro e w1 ⟨rfl, hk1⟩
  go_wp2_with fail
  refine (new_any w1).mono ?_
  rintro e w2 ⟨rfl, hd2, hk2⟩
  go_wp2_with fail
  refine (rnew_any w2).mono ?_
  rintro e w3 ⟨rfl, hd3, hk3⟩
  have hst := Going.start hd2 hk2 hd3 hk3
  have HK1 := hide hk1
  have c0 : (w3.alloc (.cells #[.pointer (some ⟨w1.heap.size, 0, none⟩), .pointer (some ⟨w2.heap.size, 0, none⟩)] 30)).cell? ⟨w3.heap.size, 0, none⟩ = some (.pointer (some ⟨w1.heap.size, 0, none⟩)) := by simp
  have HST := hide hst
  clear hk1 hd2 hk2 hd3 hk3 hst
  go_wp2_with fail
  generalize hw4 : w3.alloc (.cells #[.pointer (some ⟨w1.heap.size, 0, none⟩), .pointer (some ⟨w2.heap.size, 0, none⟩)] 30) = w4 at HST c0 ⊢
  generalize w3.heap.size = gx at HST ⊢
  clear hw4 c0
  go_loopw [9] (fun i wr => ∃ k : Nat, i = .int .i64 k ∧ k ≤ l.length ∧ k ≤ 15 ∧ Going w1 gx k wr) (fun i _ => 15 - (intOf i).toNat)
  case atStart => exact ⟨0, rfl, Nat.zero_le _, by omega, HST.out⟩
  case round =>
    obtain ⟨k, rfl, hk, hk40, hG⟩ := hrel
    by_cases hlt : k < l.length ∧ k < 15
    · obtain ⟨hlt1, hlt2⟩ := hlt
      have kw : Keeps [] w wr := by
        obtain ⟨_, _, _, _, _, _, _, _, _, _, _, hK⟩ := hG
        exact HK1.out.trans' hK
      obtain ⟨ba, o, hA, hcells⟩ := (HL.out.keep kw (by simp)).headN (by omega) (by omega)
      subst hA
      obtain ⟨x0, x1, x2, x3⟩ := acs_get l k l[k] (List.getElem?_eq_getElem hlt1)
      have q0 := hcells _ _ x0
      have q1 := hcells _ _ x1
      have q2 := hcells _ _ x2
      have q3 := hcells _ _ x3
      rw [← Nat.add_assoc] at q1 q2 q3
      have hact := hG.act (Keeps.refl [] wr) l[k] (HOK.out _ (List.getElem_mem hlt1)) (by omega)
      have HA := hide hact
      clear hact x0 x1 x2 x3 hcells hG kw
      unfold ActD.val at HA
      have d40 : decide ((k : Int) < 15) = true := by simp; omega
      go_wp2_with fail
      refine HA.out.mono ?_
      rintro e w5 ⟨rfl, hG5⟩
      have HG5 := hide hG5
      clear hG5 HA
      go_wp2_with fail
      go_roundw
      case rel => exact ⟨k + 1, by go_num, by omega, by omega, HG5.out⟩
      case measure => simp [intOf]; omega
    · obtain ⟨gd, gm, Fd, Fm, S, M, hx, hs, hc, hp, hA, hK⟩ := hG
      have hK' := HK1.out.trans' hK
      have c0 := hx.blk.cell 0
      simp at c0
      have HX := hide hx
      have HK := hide hK'
      clear hx hs hc hp hA hK hK'
      by_cases hlt1 : k < l.length
      case' pos => have d40 : decide ((k : Int) < 15) = false := by simp; omega
      all_goals
        go_wp2_with fail
        refine (crash_ex gd Fd S Aq cq q wr HX.out.d (HQ.out.1.keep HK.out (by simp)) hql HQ.out.2).mono ?_
        rintro e w5 ⟨g5, F5, rfl, hd5, had5, hk5⟩
        have HK5 := hide (HK.out.trans' hk5)
        have HD5 := hide hd5
        clear hd5 had5 hk5
        go_wp2_with fail
        refine (crash_ex g5 F5 _ Ar cr r w5 HD5.out (HR.out.1.keep HK5.out (by simp)) hrl HR.out.2).mono ?_
        rintro e w6 ⟨g6, F6, rfl, hd6, had6, hk6⟩
        rw [crash_again] at hd6
        have HD5 := hide (HD5.out.keep hk6 (apart_nil _))
        have HK6 := hide (HK5.out.trans' hk6)
        have HD6 := hide hd6
        clear hd6 had6 hk6
        have hc0 : (crashS S q).calls = 0 := rfl
        generalize crashS S q = S5 at HD5 HD6 hc0
        go_wp2_with fail
        refine (size_any g6 F6 S5 _ HD6.out).mono ?_
        rintro e w7 ⟨rfl, rfl⟩
        go_wp2_with fail
        refine (size_any g5 F5 S5 _ HD5.out).mono ?_
        rintro e w7 ⟨rfl, rfl⟩
        go_wp2_with fail
        refine (read_any g6 F6 S5 0 33554432 _ HD6.out (by omega) (by omega) (by omega)).mono ?_
        rintro e w7 ⟨rfl, hk7⟩
        have HD5 := hide (HD5.out.keep hk7 (apart_nil _))
        have HD6 := hide (HD6.out.keep hk7 (apart_nil _))
        have HK7 := hide (HK6.out.trans' hk7)
        clear hk7
        go_wp2_with fail
        refine (read_any g5 F5 S5 0 33554432 _ HD5.out (by omega) (by omega) (by omega)).mono ?_
        rintro e w8 ⟨rfl, hk8⟩
        have HD6 := hide (HD6.out.keep hk8 (apart_nil _))
        have HK8 := hide (HK7.out.trans' hk8)
        clear hk8
        go_wp2_with fail
        refine (calls_at g6 F6 S5 0 _ HD6.out hc0).mono ?_
        rintro e w9 ⟨rfl, rfl⟩
        go_wp2_with fail
        go_ret
        exact ⟨rfl, HK8.out⟩
end Go.Proofs.Ytppgddigcoojiaa

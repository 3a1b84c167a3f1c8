/- The walk of DiskCrashes. -/
import Derived.Test.YtppgddigcoojiaaPlays
namespace Go.Proofs.Ytppgddigcoojiaa
open Go.RowKit
attribute [local go_sem ↓] Go.wp_at_zero Go.wp_at_succ

/-- A disk and a model that lie apart make a desk. -/
theorem desk_pair {w : World} {gd gm : Nat} {Fd Fm : List Nat} {S M : DS} (hd : IsDisk w gd Fd S) (hm : IsRef w gm Fm M) (ap : Apart Fd Fm) :
    DeskAt (w.alloc (.cells #[.pointer (some ⟨gd, 0, none⟩), .pointer (some ⟨gm, 0, none⟩)] 30)) w.heap.size gd gm Fd Fm S M := by
  have kb := (Keeps.refl [] w).alloc (.cells #[.pointer (some ⟨gd, 0, none⟩), .pointer (some ⟨gm, 0, none⟩)] 30)
  exact ⟨Bk.new _ _ _, hd.keep kb (apart_nil _), hm.keep kb (apart_nil _), ap, fun e => absurd (hd.all _ e) (Nat.lt_irrefl _), fun e => absurd (hm.all _ e) (Nat.lt_irrefl _)⟩

theorem crash_ex (g : Nat) (F : List Nat) (S : DS) (Aq : Option Addr) (cq : Nat) (q : List Int) (w : World) (hd : IsDisk w g F S) (hq : Src w 1 (.slice Aq q.length cq) q.length (iv q)) (hql : q.length ≤ 9223372036854775807) (hqr : ∀ x, x ∈ q → -9223372036854775808 ≤ x ∧ x ≤ 9223372036854775807) :
    Calls Try.prog 23 #[.pointer (some ⟨g, 0, none⟩), .slice Aq q.length cq] w fun e w' => ∃ g' F', e = .returned (.pointer (some ⟨g', 0, none⟩)) ∧ IsDisk w' g' F' (crashS S q) ∧ Adds w [] F' ∧ Keeps [] w w' :=
  (crash_any g F S Aq cq q w hd hq hql hqr).mono fun _ _ ⟨he, F', h⟩ => ⟨_, F', he, h⟩

set_option maxRecDepth 100000 in
set_option maxHeartbeats 3200000 in
theorem crashes_walk (A : Option Addr) (c : Nat) (l : List ActD) (Aq : Option Addr) (cq : Nat) (q : List Int) (b : Int) (w : World) (hl : Src w 4 (.slice A l.length c) l.length (acs l)) (hok : ∀ a, a ∈ l → a.ok) (hlen : l.length ≤ 9223372036854775807)
    (hq : Src w 1 (.slice Aq q.length cq) q.length (iv q)) (hql : q.length ≤ 9223372036854775807) (hqr : ∀ x, x ∈ q → -9223372036854775808 ≤ x ∧ x ≤ 9223372036854775807) (hb1 : -9223372036854775808 ≤ b) (hb2 : b ≤ 9223372036854775807) :
    Calls Try.prog 4 #[.slice A l.length c, .slice Aq q.length cq, .int .i64 b] w fun e w' => e = .returned (.bool true) ∧ Keeps [] w w' := by
  have HL := hide hl
  have HOK := hide hok
  have HQ := hide (And.intro hq hqr)
  clear hl hok hq hqr
  go_enter Try.func4, Try.ntmps4
  go_wp2_with fail
  refine (sanity_any w).mono ?_
  rintro e w1 ⟨rfl, hk1⟩
  go_wp2_with fail
  refine (new_any w1).mono ?_
  rintro e w2 ⟨rfl, hd2, hk2⟩
  go_wp2_with fail
  refine (rnew_any w2).mono ?_
  rintro e w3 ⟨rfl, hd3, hk3⟩
  have hst := Going.start hd2 hk2 hd3 hk3
  have HK1 := hide hk1
  have c0 : (w3.alloc (.cells #[.pointer (some ⟨w1.heap.size, 0, none⟩), .pointer (some ⟨w2.heap.size, 0, none⟩)] 30)).cell? ⟨w3.heap.size, 0, none⟩ = some (.pointer (some ⟨w1.heap.size, 0, none⟩)) := by simp
  have HST := hide hst
  clear hk1 hd2 hk2 hd3 hk3 hst
  go_wp2_with fail
  generalize hw4 : w3.alloc (.cells #[.pointer (some ⟨w1.heap.size, 0, none⟩), .pointer (some ⟨w2.heap.size, 0, none⟩)] 30) = w4 at HST c0 ⊢
  generalize w3.heap.size = gx at HST ⊢
  clear hw4 c0
  go_loopw [9] (fun i wr => ∃ k : Nat, i = .int .i64 k ∧ k ≤ l.length ∧ k ≤ 20 ∧ Going w1 gx k wr) (fun i _ => 20 - (intOf i).toNat)
  case atStart => exact ⟨0, rfl, Nat.zero_le _, by omega, HST.out⟩
  case round =>
    obtain ⟨k, rfl, hk, hk40, hG⟩ := hrel
    by_cases hlt : k < l.length ∧ k < 20
    · obtain ⟨hlt1, hlt2⟩ := hlt
      have kw : Keeps [] w wr := by
        obtain ⟨_, _, _, _, _, _, _, _, _, _, _, hK⟩ := hG
        exact HK1.out.trans' hK
      obtain ⟨ba, o, hA, hcells⟩ := (HL.out.keep kw (by simp)).headN (by omega) (by omega)
      subst hA
      obtain ⟨x0, x1, x2, x3⟩ := acs_get l k l[k] (List.getElem?_eq_getElem hlt1)
      have q0 := hcells _ _ x0
      have q1 := hcells _ _ x1
      have q2 := hcells _ _ x2
      have q3 := hcells _ _ x3
      rw [← Nat.add_assoc] at q1 q2 q3
      have hlb : ba < wr.heap.size := World.block_lt_of_cell? wr _ q0
      have hok := HOK.out _ (List.getElem_mem hlt1)
      have m0 : 0 ≤ l[k].kind % 5 := Int.emod_nonneg _ (by omega)
      have m1 : l[k].kind % 5 < 5 := Int.emod_lt_of_pos _ (by omega)
      have k1 := hok.k1
      have k2 := hok.k2
      have hact := hG.act ((Keeps.refl [] wr).alloc (.cells #[.int .i64 (l[k].kind % 5), .int .i64 l[k].off, .int .i64 l[k].n, .string l[k].text] 33)) { l[k] with kind := l[k].kind % 5 } ⟨by simp only; omega, by simp only; omega, hok.o1, hok.o2, hok.n1, hok.n2, hok.t⟩ (by omega)
      have HA := hide hact
      clear hact x0 x1 x2 x3 hcells hG kw hok
      unfold ActD.val at HA
      have d40 : decide ((k : Int) < 20) = true := by simp; omega
      go_wp2_with fail
      refine (mod_any l[k].kind 5 _ (by omega) (by omega) k1 k2).mono ?_
      rintro e w5 ⟨rfl, rfl⟩
      go_wp2_with fail
      refine HA.out.mono ?_
      rintro e w5 ⟨rfl, hG5⟩
      have HG5 := hide hG5
      clear hG5 HA
      go_wp2_with fail
      go_roundw
      case rel => exact ⟨k + 1, by go_num, by omega, by omega, HG5.out⟩
      case measure => simp [intOf]; omega
    · obtain ⟨gd, gm, Fd, Fm, S, M, hx, hs, hc, hp, hA, hK⟩ := hG
      have hK' := HK1.out.trans' hK
      have c0 := hx.blk.cell 0
      have c1 := hx.blk.cell 1
      simp at c0 c1
      have HX := hide hx
      have HS := hide hs
      have HK := hide hK'
      clear hx hs hc hp hA hK hK'
      have hW : Keeps [] wr wr.drew := (Keeps.refl _ _).drew
      by_cases hlt1 : k < l.length
      case' pos => have d40 : decide ((k : Int) < 20) = false := by simp; omega
      all_goals
        go_wp2_with fail
        go_region_held3 (fun w' => w'.cell? ⟨gx, 0, none⟩ = some (.pointer (some ⟨gd, 0, none⟩)) ∧ w'.cell? ⟨gx, 1, none⟩ = some (.pointer (some ⟨gm, 0, none⟩)))
          (first
            | go_keep
            | (go_split_ands; exact ⟨hkq.cell (by assumption), hkq.cell (by assumption)⟩))
          (first
            | (go_at_call 23; refine (crash_ex gd Fd S Aq cq q _ (by exact HX.out.d.keep hW (apart_nil _)) (by exact (HQ.out.1.keep HK.out (by simp)).keep hW (by simp)) hql HQ.out.2).mono ?_; rintro e w5 ⟨g5, Fd5, rfl, hd5, had5, hkq⟩; have hW := hW.trans' hkq)
            | (go_at_call 24; refine (rcrash_any gm Fm M Aq cq q _ (by exact HX.out.m.keep hW (apart_nil _)) (by exact (HQ.out.1.keep HK.out (by simp)).keep hW (by simp)) hql HQ.out.2).mono ?_; rintro e w6 ⟨g6, Fm6, rfl, hm6, had6, hkq⟩; have hW := hW.trans' hkq))
        have hone := desk_pair (hd5.keep hkq (apart_nil _)) hm6 (Apart.new had6 hd5.all).symm
        have hW7 := hW.alloc (.cells #[.pointer (some ⟨g5, 0, none⟩), .pointer (some ⟨g6, 0, none⟩)] 30)
        clear hW hkq hd5 had5 hm6 had6
        generalize w6.alloc (.cells #[.pointer (some ⟨g5, 0, none⟩), .pointer (some ⟨g6, 0, none⟩)] 30) = w7 at hone hW7 ⊢
        generalize w6.heap.size = gone at hone ⊢
        have c07 := hW7.cell c0
        have c17 := hW7.cell c1
        have HONE := hide hone
        have HW7 := hide hW7
        clear hone hW7
        have hW : Keeps [] w7 w7.drew := (Keeps.refl _ _).drew
        have hsr := survQ_range b hb1 hb2
        have hsl : (survQ b).length ≤ 9223372036854775807 := by rw [survQ_length]; omega
        have HSR := hide hsr
        clear hsr
        go_wp2_with fail
        go_region_held3 (fun w' => w'.cell? ⟨gx, 0, none⟩ = some (.pointer (some ⟨gd, 0, none⟩)) ∧ w'.cell? ⟨gx, 1, none⟩ = some (.pointer (some ⟨gm, 0, none⟩)))
          (first
            | go_keep
            | (go_split_ands; exact ⟨hkq.cell (by assumption), hkq.cell (by assumption)⟩))
          (first
            | (go_at_call 25; refine (survive_any b _ hb1 hb2).mono ?_; rintro e w8 ⟨rfl, hsrc, hkq⟩; have hW := hW.trans' hkq; (try (have hW9 := hW9.trans' hkq)))
            | (go_at_call 23; refine (crash_ex gd Fd S _ 5 (survQ b) _ (by exact (HX.out.d.keep HW7.out (apart_nil _)).keep hW (apart_nil _)) hsrc hsl HSR.out).mono ?_; rintro e w9 ⟨g9, Fd9, rfl, hd9, had9, hkq⟩; have hW := hW.trans' hkq; have hW9 := Keeps.refl [] w9)
            | (go_at_call 24; refine (rcrash_any gm Fm M _ 5 (survQ b) _ (by exact (HX.out.m.keep HW7.out (apart_nil _)).keep hW (apart_nil _)) hsrc hsl HSR.out).mono ?_; rintro e w10 ⟨g10, Fm10, rfl, hm10, had10, hkq⟩; have hW := hW.trans' hkq; have hA9 := Apart.new had10 (hd9.keep hW9 (apart_nil _)).all; have hW9 := hW9.trans' hkq))
        have htwo := desk_pair (hd9.keep hW9 (apart_nil _)) hm10 hA9.symm
        have hW11 := hW.alloc (.cells #[.pointer (some ⟨g9, 0, none⟩), .pointer (some ⟨g10, 0, none⟩)] 30)
        clear hW hkq hd9 had9 hm10 had10 hA9 hW9 hsrc
        generalize w10.alloc (.cells #[.pointer (some ⟨g9, 0, none⟩), .pointer (some ⟨g10, 0, none⟩)] 30) = w11 at htwo hW11 ⊢
        generalize w10.heap.size = gtwo at htwo ⊢
        have s1 := same_any _ _ _ _ _ _ _ w11 (HONE.out.keep0 hW11) (HS.out.crash q)
        have HS1 := hide s1
        have HTWO := hide htwo
        have HW11 := hide (HW7.out.trans' hW11)
        clear s1 htwo hW11
        go_wp2_with fail
        refine HS1.out.mono ?_
        rintro e w12 ⟨rfl, hk12⟩
        have s2 := same_any _ _ _ _ _ _ _ w12 (HTWO.out.keep0 hk12) (HS.out.crash (survQ b))
        have HS2 := hide s2
        have HW12 := hide (HW11.out.trans' hk12)
        clear s2 hk12
        go_wp2_with fail
        refine HS2.out.mono ?_
        rintro e w13 ⟨rfl, hk13⟩
        have s3 := same_any _ _ _ _ _ _ _ w13 ((HX.out.keep0 HW12.out).keep0 hk13) HS.out
        have HS3 := hide s3
        have HW13 := hide (HW12.out.trans' hk13)
        clear s3 hk13
        go_wp2_with fail
        refine HS3.out.mono ?_
        rintro e w14 ⟨rfl, hk14⟩
        have HW14 := hide (HW13.out.trans' hk14)
        clear hk14
        go_wp2_with fail
        go_ret
        exact ⟨rfl, HK.out.trans' HW14.out⟩
end Go.Proofs.Ytppgddigcoojiaa

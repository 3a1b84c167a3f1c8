/- The law QueuePuts. -/
import Derived.Test.YtlpmalkjbagbgaaSane
import Derived.Deep.DeepCutAuto
namespace Go.Proofs.Ytlpmalkjbagbgaa
open Go.RowKit Go.Shelf
/-- A list of holds that came in, or was made. -/
structure Came (w : World) (A : Option Addr) (c : Nat) (l : List Hold) : Prop where
  s : HS w (.slice A l.length c) l
  le : l.length ≤ c
  cm : c ≤ 9223372036854775807
  nil : A = none → c = 0
theorem Came.keep {w w' : World} {A : Option Addr} {c : Nat} {l : List Hold} (h : Came w A c l) (k : Keeps [] w w') : Came w' A c l := ⟨Src.keep h.s k (by simp), h.le, h.cm, h.nil⟩
theorem Came.of {w : World} {v : Value} {L : List Hold} (h : HO w v L) : ∃ A c, v = .slice A L.length c ∧ Came w A c L := by
  obtain ⟨A, c, rfl, h1, h2⟩ := HO.form h
  exact ⟨A, c, rfl, HO.hs h, h1, h2, HO.none h⟩
theorem Came.front {w : World} {A : Option Addr} {c : Nat} {l : List Hold} (h : Came w A c l) (m : Nat) (hm : m ≤ l.length) : ∃ L, L.length = m ∧ L = l.take m ∧ Came w A c L := by
  have hl : (l.take m).length = m := by simp [hm]
  refine ⟨l.take m, hl, rfl, ?_, by rw [hl]; exact Nat.le_trans hm h.le, h.cm, h.nil⟩
  have := HS.front h.s m hm
  rw [hl]
  exact this
theorem same_self (A A' : Option Addr) (c c' : Nat) (L M : List Hold) (w : World) (n m : Nat) (hn : L.length = n) (hm : M.length = m) (hL : n ≤ 64) (he : L = M) (hs : HS w (.slice A L.length c) L) (hs' : HS w (.slice A' M.length c') M) :
    Calls Try.prog 14 #[.slice A n c, .slice A' m c'] w fun e w' => e = .returned (.bool true) ∧ Keeps [] w w' := by
  subst hn hm
  refine (same_any A A' c c' L M w hL hs hs').mono ?_
  rintro e w' ⟨rfl, hk⟩
  exact ⟨by rw [decide_eq_true he], hk⟩
/-- The two lists of a law lie in a block. -/
def Pair (w : World) (g : Nat) : Prop := ∀ k, k < 2 → ∃ A c L, w.cell? ⟨g, k, none⟩ = some (.slice A L.length c) ∧ Came w A c L ∧ L.length ≤ 30
theorem Pair.keep {w w' : World} {g : Nat} (h : Pair w g) (k : Keeps [] w w') : Pair w' g := fun i hi => by
  obtain ⟨A, c, L, h1, h2, h3⟩ := h i hi
  exact ⟨A, c, L, k.cell h1, h2.keep k, h3⟩
theorem Pair.mk {w w' : World} {g : Nat} {A B : Option Addr} {c d n m : Nat} {L M : List Hold} (hb : Bk w' g 22 #[.slice A n c, .slice B m d]) (hn : L.length = n) (hm : M.length = m) (hL : Came w A c L) (hM : Came w B d M) (h1 : L.length ≤ 30) (h2 : M.length ≤ 30) (hk : Keeps [] w w') : Pair w' g := fun k hk2 => by
  subst hn hm
  match k, hk2 with
  | 0, _ => exact ⟨A, c, L, hb.cell 0, hL.keep hk, h1⟩
  | 1, _ => exact ⟨B, d, M, hb.cell 1, hM.keep hk, h2⟩
set_option maxHeartbeats 4000000 in
theorem puts_walk (A : Option Addr) (c : Nat) (l : List Hold) (h : Hold) (w : World) (hl : Came w A c l) :
    Calls Try.prog 3 #[.slice A l.length c, hvl h] w fun e w' => e = .returned (.bool true) ∧ Keeps [] w w' := by
  obtain ⟨m, hm⟩ : ∃ m, m = min l.length 30 := ⟨_, rfl⟩
  have hm1 : m ≤ l.length := by omega
  have hm2 : m ≤ 30 := by omega
  have hmin : (if (30 : Int) < (l.length : Int) then (30 : Int) else (l.length : Int)) = (m : Int) := by split <;> omega
  have z1 : (0 : Int) ≤ (m : Int) := by omega
  have z2 : (m : Int) ≤ (c : Int) := by have := hl.le; omega
  have z3 : m ≤ c := by omega
  have HM := hide hm
  clear hm
  have k0 := (Keeps.refl [] w).alloc (.cells (hc h).toArray 28)
  have HB := hide (Bk.new w 28 (hc h).toArray)
  have HL := hide (hl.keep k0)
  have HK := hide k0
  clear hl k0
  go_enter Try.func3, Try.ntmps3
  go_wp2_with fail
  simp only [hc] at HB HL HK
  generalize w.alloc (.cells #[Value.int .i64 h.id, .int .i64 h.patron, .int .i64 h.item, .int .i64 h.src, .int .i64 h.num, .int .i64 h.pickup, .int .i64 h.till, .int .i64 h.time, .int .i64 h.site, .int .i64 h.stamp] 28) = w0 at HB HL HK ⊢
  refine (sanity_any w0).mono ?_
  rintro e w1 ⟨rfl, k1⟩
  replace HB := hide (HB.out.keep k1 (by simp))
  replace HL := hide (HL.out.keep k1)
  replace HK := hide (HK.out.trans' k1)
  clear k1
  obtain ⟨M, hMl, hMe, hMc⟩ := HL.out.front m hm1
  have HMM := hide (And.intro hMl hMc)
  clear hMl hMe hMc
  have HP := hide (put_list A c l w1.drew HL.out.le HL.out.cm HL.out.s HL.out.nil)
  go_wp2_with fail
  go_cut [20, 21, 22] (fun s20 s21 s22 wx => s21 = .int .i64 2 ∧ s22 = .int .i64 0 ∧ ∃ g, s20 = .slice (some ⟨g, 0, none⟩) 2 2 ∧ Hid (Pair wx g ∧ Keeps [] w1 wx))
  case first =>
    go_region_with (go_at_call 11; refine HP.out.mono ?_; rintro e w2 ⟨v2, rfl, ho2, hn2, k2⟩; obtain ⟨A2, c2, hv2, hC2⟩ := Came.of ho2; subst hv2)
    all_goals
      have hk2 := ((Keeps.refl [] w1).drew.trans' k2)
      have hCM := HMM.out.2.keep hk2
      have HPA := hide (And.intro (Pair.mk (w := w2) (Bk.new w2 22 #[.slice A2 (que l).length c2, .slice A m c]) rfl HMM.out.1 hC2 hCM (que_length l) (by rw [HMM.out.1]; exact hm2) ((Keeps.refl [] w2).alloc _)) (hk2.alloc (.cells #[.slice A2 (que l).length c2, .slice A m c] 22)))
      clear hk2 hCM ho2 hn2 k2 hC2
      go_wp2_with fail
      go_meet
      exact ⟨rfl, rfl, _, rfl, HPA⟩
  case rest =>
  obtain ⟨rfl, rfl, g, rfl, HPK⟩ := hcut
  have HPA := hide HPK.out.1
  replace HB := hide (HB.out.keep HPK.out.2 (by simp))
  replace HL := hide (HL.out.keep HPK.out.2)
  replace HK := hide (HK.out.trans' HPK.out.2)
  clear HPK HMM HP hmin z1 z2 z3
  obtain ⟨w3, rfl⟩ : ∃ w3 : World, w3 = wc := ⟨_, rfl⟩
  go_wp2
  go_loopw [7, 8, 9, 10, 11, 22] (fun _ _ _ _ _ s22 wr => ∃ k : Nat, k ≤ 2 ∧ s22 = .int .i64 k ∧ Hid (Keeps [] w3 wr)) (fun _ _ _ _ _ s22 _ => 2 - (intOf s22).toNat)
  case atStart => exact ⟨0, by omega, rfl, hide (Keeps.refl _ _)⟩
  case round =>
    obtain ⟨k, hk, rfl, HR⟩ := hrel
    by_cases hlt : k < 2
    · have hltz : (k : Int) < 2 := by omega
      have hk0 : (0 : Int) ≤ (k : Int) := by omega
      obtain ⟨A4, c4, L, hcell, hcm, hL⟩ := HPA.out.keep HR.out k hlt
      obtain ⟨d0, d1, d2, d3, d4, d5, d6, d7, d8, d9⟩ := box_cells (h := h) (HB.out.keep HR.out (by simp))
      have HC := hide hcm
      have HBB := hide (HB.out.keep HR.out (by simp))
      clear hcm
      go_wp2_with fail
      clear d0 d1 d2 d3 d4 d5 d6 d7 d8 d9
      refine (put_any A4 c4 L h wr (by omega) HC.out.s HC.out.le HC.out.cm HC.out.nil).mono ?_
      rintro e w5 ⟨v5, rfl, ho5, hn5, k5⟩
      obtain ⟨A5, c5, hv5, hC5⟩ := Came.of ho5
      subst hv5
      replace HC := hide (HC.out.keep k5)
      have HC5 := hide hC5
      obtain ⟨d0, d1, d2, d3, d4, d5, d6, d7, d8, d9⟩ := box_cells (h := h) (HBB.out.keep k5 (by simp))
      have HR5 := hide (HR.out.trans' k5)
      have hpl := putL_length L h
      clear ho5 hn5 k5 hC5 hcell
      go_wp2_with fail
      clear d0 d1 d2 d3 d4 d5 d6 d7 d8 d9
      refine (rput_any A4 c4 L h w5 (by omega) HC.out.s HC.out.le HC.out.cm HC.out.nil).mono ?_
      rintro e w6 ⟨v6, rfl, ho6, hn6, k6⟩
      obtain ⟨A6, c6, hv6, hC6⟩ := Came.of ho6
      subst hv6
      replace HC5 := hide (HC5.out.keep k6)
      have HC6 := hide hC6
      have HR6 := hide (HR5.out.trans' k6)
      clear ho6 hn6 k6 hC6
      have HQ := hide (same_self A5 A6 c5 c6 (putL L h) (putL L h) w6 _ _ rfl rfl (by omega) rfl HC5.out.s HC6.out.s)
      generalize putE L h = pe
      have hpe : (pe != pe) = false := by simp
      generalize (putL L h).length = n at HQ ⊢
      go_wp2_with (go_at_call 14; refine HQ.out.mono ?_; rintro e w7 ⟨rfl, k7⟩)
      go_roundw
      case measure => simp [intOf]; omega
      case rel => exact ⟨k + 1, by omega, by go_num, hide (HR6.out.trans' k7)⟩
    · obtain rfl : k = 2 := by omega
      have HC := hide (HL.out.keep HR.out)
      go_wp2_with fail
      refine (put_list A c l wr HC.out.le HC.out.cm HC.out.s HC.out.nil).mono ?_
      rintro e w5 ⟨v5, rfl, ho5, hn5, k5⟩
      obtain ⟨A5, c5, hv5, hC5⟩ := Came.of ho5
      subst hv5
      replace HC := hide (HC.out.keep k5)
      have HC5 := hide hC5
      have HR5 := hide (HR.out.trans' k5)
      clear ho5 hn5 k5 hC5
      go_wp2_with fail
      refine (rqueue_any A c l w5 (Nat.le_trans HC.out.le HC.out.cm) HC.out.s).mono ?_
      rintro e w6 ⟨v6, rfl, ho6, hn6, k6⟩
      obtain ⟨A6, c6, hv6, hC6⟩ := Came.of ho6
      subst hv6
      replace HC5 := hide (HC5.out.keep k6)
      have HC6 := hide hC6
      have HR6 := hide (HR5.out.trans' k6)
      clear ho6 hn6 k6 hC6
      have hql := que_length l
      go_wp2_with (go_at_call 14; refine (same_self A5 A6 c5 c6 (que l) (que l) w6 _ _ rfl rfl (by omega) rfl HC5.out.s HC6.out.s).mono ?_; rintro e w7 ⟨rfl, k7⟩)
      go_ret
      exact ⟨rfl, HK.out.trans' (HR6.out.trans' k7)⟩
end Go.Proofs.Ytlpmalkjbagbgaa

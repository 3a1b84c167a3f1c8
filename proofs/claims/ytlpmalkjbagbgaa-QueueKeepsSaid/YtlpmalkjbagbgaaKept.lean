/- The law QueueKeeps. -/
import Derived.Test.YtlpmalkjbagbgaaChanges
import Derived.Test.YtlpmalkjbagbgaaForw
import Derived.Deep.DeepCutAuto
namespace Go.Proofs.Ytlpmalkjbagbgaa
open Go.RowKit Go.Shelf
/-- A slice of holds that lies, if it is not empty, in a block from B on. -/
def Room (w : World) (B : Nat) (v : Value) : Prop := ∃ A n c, v = .slice A n c ∧ n ≤ 64 ∧ (0 < n → ∃ g cur, A = some ⟨g, 0, none⟩ ∧ B ≤ g ∧ Bk w g 28 cur ∧ n * 10 ≤ cur.size)
theorem Room.of {w0 w : World} {B : Nat} {v : Value} {L : List Hold} (h : HO w v L) (hn : New w0 v) (hB : B ≤ w0.heap.size) (hl : L.length ≤ 64) : Room w B v := by
  obtain ⟨A, c, rfl⟩ := Own.slice h
  refine ⟨A, L.length, c, rfl, hl, fun hp => ?_⟩
  obtain ⟨g, c', cur, hv, h1, _, hb, hs, _⟩ := Own.head h hp
  injection hv with hA _ hc
  subst hA hc
  exact ⟨g, cur, rfl, Nat.le_trans hB (hn g rfl), hb, by rw [hs]; exact Nat.mul_le_mul_right _ h1⟩
theorem Room.keep {w w' : World} {B : Nat} {v : Value} (h : Room w B v) (k : Keeps [] w w') : Room w' B v := by
  obtain ⟨A, n, c, rfl, hn, hr⟩ := h
  refine ⟨A, n, c, rfl, hn, fun hp => ?_⟩
  obtain ⟨g, cur, hA, hB, hb, hs⟩ := hr hp
  exact ⟨g, cur, hA, hB, hb.keep k (by simp), hs⟩
theorem Room.set {w : World} {B g i : Nat} {u v : Value} (h : Room w B v) : Room (w.setCell ⟨g, i, none⟩ u) B v := by
  obtain ⟨A, n, c, rfl, hn, hr⟩ := h
  refine ⟨A, n, c, rfl, hn, fun hp => ?_⟩
  obtain ⟨g', cur, hA, hB, hb, hs⟩ := hr hp
  by_cases hg : g' = g
  · subst hg
    exact ⟨g', _, hA, hB, hb.set i u, by simpa using hs⟩
  · exact ⟨g', cur, hA, hB, hb.far (p := ⟨g, i, none⟩) hg u, hs⟩
/-- The results' rows, while the law turns them; what was there before them is kept. -/
structure St (wB w : World) (g : Nat) (vs : Array Value) : Prop where
  keep : Keeps [] wB w
  bk : Bk w g 22 vs
  room : ∀ v ∈ vs.toList, Room w wB.heap.size v
theorem St.set {wB w : World} {g g' i : Nat} {vs cur : Array Value} {u : Value} (h : St wB w g vs) (hB : wB.heap.size ≤ g') (hb : Bk w g' 28 cur) : St wB (w.setCell ⟨g', i, none⟩ u) g vs :=
  ⟨h.keep.setCell (.inr hB) u, h.bk.far (p := ⟨g', i, none⟩) (Bk.ne h.bk hb (by decide)) u, fun v hv => (h.room v hv).set⟩
set_option maxHeartbeats 8000000 in
set_option maxRecDepth 100000 in
theorem keeps_walk (A : Option Addr) (c : Nat) (l : List Hold) (h : Hold) (day : Int) (w : World) (hl : Came w A c l) :
    Calls Try.prog 9 #[.slice A l.length c, hvl h, .int .i64 day] w fun e w' => e = .returned (.bool true) ∧ Keeps [] w w' := by
  have k0 := (Keeps.refl [] w).alloc (.cells (hc h).toArray 28)
  have HB := hide (Bk.new w 28 (hc h).toArray)
  have HL := hide (hl.keep k0)
  have HK := hide k0
  clear hl k0
  go_enter Try.func9, Try.ntmps9
  go_wp2_with fail
  simp only [hc] at HB HL HK
  generalize w.alloc (.cells #[Value.int .i64 h.id, .int .i64 h.patron, .int .i64 h.item, .int .i64 h.src, .int .i64 h.num, .int .i64 h.pickup, .int .i64 h.till, .int .i64 h.time, .int .i64 h.site, .int .i64 h.stamp] 28) = w0 at HB HL HK ⊢
  refine (sanity_any w0).mono ?_
  rintro e w1 ⟨rfl, k1⟩
  replace HB := hide (HB.out.keep k1 (by simp))
  replace HL := hide (HL.out.keep k1)
  replace HK := hide (HK.out.trans' k1)
  clear k1
  go_wp2_with fail
  refine (rqueue_any A c l w1 (Nat.le_trans HL.out.le HL.out.cm) HL.out.s).mono ?_
  rintro e w2 ⟨v2, rfl, ho2, hn2, k2⟩
  obtain ⟨A2, c2, hv2, hC2⟩ := Came.of ho2
  subst hv2
  have hql := que_length l
  have HC2 := hide hC2
  replace HB := hide (HB.out.keep k2 (by simp))
  replace HL := hide (HL.out.keep k2)
  replace HK := hide (HK.out.trans' k2)
  clear ho2 hn2 k2 hC2
  go_wp2_with fail
  refine (rqueue_any A c l w2 (Nat.le_trans HL.out.le HL.out.cm) HL.out.s).mono ?_
  rintro e w3 ⟨v3, rfl, ho3, hn3, k3⟩
  obtain ⟨A3, c3, hv3, hC3⟩ := Came.of ho3
  subst hv3
  have HC3 := hide hC3
  replace HC2 := hide (HC2.out.keep k3)
  replace HB := hide (HB.out.keep k3 (by simp))
  replace HK := hide (HK.out.trans' k3)
  clear ho3 hn3 k3 hC3 HL
  generalize que l = q at hql HC2 HC3 ⊢
  have HKB := hide (Keeps.refl [] w3)
  obtain ⟨b0, b1, b2, b3, b4, b5, b6, b7, b8, b9⟩ := box_cells (h := h) HB.out
  go_wp2_with fail
  refine (put_any A2 c2 q h w3 (by omega) HC2.out.s HC2.out.le HC2.out.cm HC2.out.nil).mono ?_
  rintro e w4 ⟨v4, rfl, ho4, hn4, k4⟩
  have HR4 := hide (Room.of ho4 hn4 (Nat.le_refl _) (by have := putL_length q h; omega))
  obtain ⟨A4, c4, hv4, _⟩ := Came.of ho4
  subst hv4
  have HB4 := hide (HB.out.keep k4 (by simp))
  replace HKB := hide (HKB.out.trans' k4)
  clear ho4 hn4 k4 b0 b1 b2 b3 b4 b5 b6 b7 b8 b9
  generalize (putL q h).length = n4 at HR4 ⊢
  generalize putE q h = e4
  have b0 : w4.cell? ⟨w.heap.size, 0, none⟩ = some (.int .i64 h.id) := HB4.out.cell 0
  go_wp2_with fail
  refine (remove_any A2 c2 q h.id w4 (by omega) (HC2.out.keep HKB.out).s).mono ?_
  rintro e w5 ⟨v5, rfl, ho5, hn5, k5⟩
  have HR5 := hide (Room.of ho5 hn5 HKB.out.size (by have := rem_le q h.id; omega))
  obtain ⟨A5, c5, hv5, _⟩ := Came.of ho5
  subst hv5
  replace HB4 := hide (HB4.out.keep k5 (by simp))
  replace HKB := hide (HKB.out.trans' k5)
  replace HR4 := hide (HR4.out.keep k5)
  clear ho5 hn5 k5 b0
  generalize (remL q h.id).length = n5 at HR5 ⊢
  generalize hasId q h.id = e5
  have b0 : w5.cell? ⟨w.heap.size, 0, none⟩ = some (.int .i64 h.id) := HB4.out.cell 0
  go_wp2_with fail
  refine (suspend_any A2 c2 q h.id day w5 (by omega) (HC2.out.keep HKB.out).s).mono ?_
  rintro e w6 ⟨v6, rfl, ho6, hn6, k6⟩
  have HR6 := hide (Room.of ho6 hn6 HKB.out.size (by have := sus_le q h.id day; omega))
  obtain ⟨A6, c6, hv6, _⟩ := Came.of ho6
  subst hv6
  replace HB4 := hide (HB4.out.keep k6 (by simp))
  replace HKB := hide (HKB.out.trans' k6)
  replace HR4 := hide (HR4.out.keep k6)
  replace HR5 := hide (HR5.out.keep k6)
  clear ho6 hn6 k6 b0
  generalize (susL q h.id day).length = n6 at HR6 ⊢
  generalize hasId q h.id = e6
  have b2 : w6.cell? ⟨w.heap.size, 2, none⟩ = some (.int .i64 h.item) := HB4.out.cell 2
  have b3 : w6.cell? ⟨w.heap.size, 3, none⟩ = some (.int .i64 h.src) := HB4.out.cell 3
  have b4 : w6.cell? ⟨w.heap.size, 4, none⟩ = some (.int .i64 h.num) := HB4.out.cell 4
  have HQ19 := hide (fun (W : World) (hk : Keeps [] w6 W) => active_any A2 c2 q day W (by omega) (HC2.out.keep (HKB.out.trans' hk)).s)
  have HQ16 := hide (fun (W : World) (hk : Keeps [] w6 W) => for_any A2 c2 q h.item h.src h.num none 0 [] day W (by omega) (by simp) (HC2.out.keep (HKB.out.trans' hk)).s (src_nil W 4 0))
  have HID := hide (Keeps.refl [] w6)
  have HR7 : Hid True := trivial
  have HR8 : Hid True := trivial
  have HAL := hide (show (q.filter (act day)).length ≤ 64 from Nat.le_trans (List.length_filter_le _ _) (by omega))
  have HFL := hide (show (forL q h.item h.src h.num [] day).length ≤ 64 from Nat.le_trans (Nat.le_trans (List.length_filter_le _ _) (List.length_filter_le _ _)) (by omega))
  go_wp2_with fail
  go_cut [62, 63, 64] (fun s62 s63 s64 wx => s63 = .int .i64 5 ∧ s64 = .int .i64 0 ∧ ∃ g vs, s62 = .slice (some ⟨g, 0, none⟩) 5 5 ∧ Array.size vs = 5 ∧ Hid (St w3 wx g vs))
  case first =>
    go_region_held3 (fun w' => w'.cell? ⟨w.heap.size, 2, none⟩ = some (.int .i64 h.item) ∧ w'.cell? ⟨w.heap.size, 3, none⟩ = some (.int .i64 h.src) ∧ w'.cell? ⟨w.heap.size, 4, none⟩ = some (.int .i64 h.num))
      (first
        | go_keep
        | (go_split_ands; exact ⟨hk2.cell (by assumption), hk2.cell (by assumption), hk2.cell (by assumption)⟩)
        | (go_split_ands; exact ⟨((Keeps.refl [] _).alloc _).cell (by assumption), ((Keeps.refl [] _).alloc _).cell (by assumption), ((Keeps.refl [] _).alloc _).cell (by assumption)⟩)
        | fail)
      (first
        | (go_at_call 19; refine (HQ19.out _ (by first | exact (Keeps.refl [] w6).drew | exact HID.out)).mono ?_; rintro e w2' ⟨v2, rfl, ho2, hn2, hk2⟩; replace HR7 := hide (Room.of (B := w3.heap.size) ho2 hn2 (by first | exact Nat.le_trans HKB.out.size HID.out.size) HAL.out); (try replace HR8 := hide (Room.keep HR8.out hk2)); obtain ⟨A7, c7, hv7, _⟩ := Came.of ho2; subst hv7; replace HID := hide (Keeps.trans' (by first | exact (Keeps.refl [] w6).drew | exact HID.out) hk2); clear ho2 hn2)
        | (go_at_call 16; refine (HQ16.out _ (by first | exact (Keeps.refl [] w6).drew | exact HID.out)).mono ?_; rintro e w2' ⟨v2, rfl, ho2, hn2, hk2⟩; replace HR8 := hide (Room.of (B := w3.heap.size) ho2 hn2 (by first | exact Nat.le_trans HKB.out.size HID.out.size) HFL.out); (try replace HR7 := hide (Room.keep HR7.out hk2)); obtain ⟨A8, c8, hv8, _⟩ := Came.of ho2; subst hv8; replace HID := hide (Keeps.trans' (by first | exact (Keeps.refl [] w6).drew | exact HID.out) hk2); clear ho2 hn2)
        | fail)
    all_goals
      go_wp2_with fail
      go_meet
      refine ⟨rfl, rfl, _, _, rfl, rfl, ⟨HKB.out.trans' (HID.out.alloc _), Bk.new _ 22 _, fun v hv => ?_⟩⟩
      simp only [List.mem_cons, List.not_mem_nil, or_false] at hv
      rcases hv with rfl | rfl | rfl | rfl | rfl
      · exact (HR4.out.keep HID.out).keep ((Keeps.refl [] _).alloc _)
      · exact (HR5.out.keep HID.out).keep ((Keeps.refl [] _).alloc _)
      · exact (HR6.out.keep HID.out).keep ((Keeps.refl [] _).alloc _)
      · exact HR7.out.keep ((Keeps.refl [] _).alloc _)
      · exact HR8.out.keep ((Keeps.refl [] _).alloc _)
  case rest =>
    obtain ⟨rfl, rfl, g, vs, rfl, hvs, HST⟩ := hcut
    clear HQ19 HQ16 HID HR4 HR5 HR6 HR7 HR8 HAL HFL b2 b3 b4 HB4 HKB
    go_wp2
    have HVS := hide hvs
    clear hvs
    go_loopw [17, 18, 64] (fun _ _ s64 wr => ∃ k : Nat, k ≤ 5 ∧ s64 = .int .i64 k ∧ Hid (St w3 wr g vs)) (fun _ _ s64 _ => 5 - (intOf s64).toNat)
    case atStart => exact ⟨0, by omega, rfl, HST⟩
    case round =>
      obtain ⟨k, hk, rfl, HSR⟩ := hrel
      by_cases hlt : k < 5
      · have hltz : (k : Int) < 5 := by omega
        have hk0 : (0 : Int) ≤ (k : Int) := by omega
        have hvk : k < vs.size := by have := HVS.out; omega
        have hmem : vs[k] ∈ vs.toList := by simp
        have hcell := HSR.out.bk.cell k
        rw [Array.getElem?_eq_getElem hvk] at hcell
        obtain ⟨An, nn, cn, hvn, hn64, _⟩ := HSR.out.room _ hmem
        have HVN := hide (And.intro hmem hvn)
        rw [hvn] at hcell
        clear hvn hmem
        go_wp2
        obtain ⟨wo, rfl⟩ : ∃ wo : World, wo = wr := ⟨_, rfl⟩
        clear hcell
        go_loopw [18, 70] (fun _ s70 wi => ∃ j : Nat, j ≤ nn ∧ s70 = .int .i64 j ∧ Hid (St w3 wi g vs)) (fun _ s70 _ => nn - (intOf s70).toNat)
        case atStart => exact ⟨0, Nat.zero_le _, rfl, HSR⟩
        case round =>
          obtain ⟨j, hj, rfl, HSJ⟩ := hrel
          by_cases hjt : j < nn
          · have hjz : (j : Int) < (nn : Int) := by omega
            have hj0 : (0 : Int) ≤ (j : Int) := by omega
            obtain ⟨A9, n9, c9, hv9, _, hr9⟩ := HSJ.out.room _ HVN.out.1
            have heq := HVN.out.2.symm.trans hv9
            injection heq with hA9 hn9 hc9
            subst hn9 hc9
            obtain ⟨g', cur, hA', hB', hb', hs'⟩ := hr9 (by omega)
            rw [hA'] at hA9
            subst hA9
            obtain ⟨u, hu⟩ : ∃ u, wr.cell? ⟨g', j * 10, none⟩ = some u := ⟨cur[j * 10]'(by omega), by rw [hb'.cell]; exact Array.getElem?_eq_getElem _⟩
            have hf := hb'.free (j * 10)
            have HSN := hide (HSJ.out.set (i := j * 10) (u := .int .i64 (-5)) hB' hb')
            clear hA' hv9 hr9 hb' hs' hB'
            go_wp2
            go_roundw
            case measure => simp [intOf]; omega
            case rel => exact ⟨j + 1, by omega, by go_num, HSN⟩
          · obtain rfl : j = nn := by omega
            have hjz : ¬ (j : Int) < (j : Int) := by omega
            go_wp2
            go_roundw
            case measure => simp [intOf]; omega
            case rel => exact ⟨k + 1, by omega, by go_num, HSJ⟩
      · obtain rfl : k = 5 := by omega
        have HCQ := hide (HC2.out.keep HSR.out.keep)
        have HCO := hide (HC3.out.keep HSR.out.keep)
        have HBX := hide (HB.out.keep HSR.out.keep (by simp))
        have HKE := hide (HK.out.trans' HSR.out.keep)
        clear HSR HST HC2 HC3 HB HK HVS
        obtain ⟨b0, b1, b2, b3, b4, b5, b6, b7, b8, b9⟩ := box_cells (h := h) HBX.out
        go_wp2_with fail
        refine (put_any A2 c2 q h wr (by omega) HCQ.out.s HCQ.out.le HCQ.out.cm HCQ.out.nil).mono ?_
        rintro e w7 ⟨v7, rfl, ho7, hn7, k7⟩
        obtain ⟨A7, c7, hv7, hC7⟩ := Came.of ho7
        subst hv7
        have HC7 := hide hC7
        replace HCQ := hide (HCQ.out.keep k7)
        replace HCO := hide (HCO.out.keep k7)
        replace HBX := hide (HBX.out.keep k7 (by simp))
        replace HKE := hide (HKE.out.trans' k7)
        clear ho7 hn7 k7 hC7 b0 b1 b2 b3 b4 b5 b6 b7 b8 b9
        obtain ⟨b0, b1, b2, b3, b4, b5, b6, b7, b8, b9⟩ := box_cells (h := h) HBX.out
        go_wp2_with fail
        refine (put_any A3 c3 q h w7 (by omega) HCO.out.s HCO.out.le HCO.out.cm HCO.out.nil).mono ?_
        rintro e w8 ⟨v8, rfl, ho8, hn8, k8⟩
        obtain ⟨A8, c8, hv8, hC8⟩ := Came.of ho8
        subst hv8
        have HC8 := hide hC8
        replace HC7 := hide (HC7.out.keep k8)
        replace HCQ := hide (HCQ.out.keep k8)
        replace HCO := hide (HCO.out.keep k8)
        replace HKE := hide (HKE.out.trans' k8)
        have hpl := putL_length q h
        clear ho8 hn8 k8 hC8 b0 b1 b2 b3 b4 b5 b6 b7 b8 b9 HBX
        go_wp2_with fail
        refine (same_self A2 A3 c2 c3 q q w8 _ _ rfl rfl (by omega) rfl HCQ.out.s HCO.out.s).mono ?_
        rintro e w9 ⟨rfl, k9⟩
        go_wp2_with fail
        refine (same_self A7 A8 c7 c8 (putL q h) (putL q h) w9 _ _ rfl rfl (by omega) rfl (HC7.out.keep k9).s (HC8.out.keep k9).s).mono ?_
        rintro e w10 ⟨rfl, k10⟩
        have HKF := hide ((HKE.out.trans' k9).trans' k10)
        clear k9 k10 HC7 HC8 HCQ HCO HKE
        go_wp2
        go_ret
        exact ⟨rfl, HKF.out⟩
end Go.Proofs.Ytlpmalkjbagbgaa

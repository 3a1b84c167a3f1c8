/- The walk of JournalMany. -/
import Derived.Test.YtcfglfnncpcfoaaSane
namespace Go.Proofs.Ytcfglfnncpcfoaa
open Go.RowKit
/-- An event of which only the time is told. -/
def at_ (t : Int) : Ev := ⟨t, 0, 0, 0, 0, 0, 0, 0, 0, 0, 0, 0, 0, 0, 0, 0, 0, ⟨#[]⟩⟩
/-- The first n of them. -/
def row (n : Nat) : List Ev := (List.range n).map fun (i : Nat) => at_ (i : Int)
theorem row_length (n : Nat) : (row n).length = n := by simp [row]
theorem row_at (n i : Nat) (h : i < n) : (row n)[i]'(by rw [row_length]; exact h) = at_ (i : Int) := by simp [row]
theorem row_succ (n : Nat) : row (n + 1) = row n ++ [at_ (n : Int)] := by simp [row, List.range_succ]
theorem at_lt (a b : Int) (h : a < b) : ltE (at_ a) (at_ b) := .inl h
theorem at_not (a b : Int) (h : b ≤ a) : ¬ ltE (at_ a) (at_ b) := by unfold ltE at_ sltI; simp; omega
theorem rank_end {L : List Ev} {e : Ev} (h : ∀ x ∈ L, ltE x e) : rank L e = L.length :=
  cutN_of _ L _ (parts_of _ L _ (Nat.le_refl _) (fun i _ hi => decide_eq_true (h _ (List.getElem_mem hi))) (fun i h1 h2 => by omega))
theorem take_end {S : Lg} {e : Ev} (h : ∀ x ∈ S.L, ltE x e) (hl : ¬ e.t < S.op) (hm : S.L.length < 20000) : takeE S e = 0 ∧ takeS S e = ⟨S.L ++ [e], S.op⟩ := by
  have hr := rank_end h
  have hf : fnd S.L e (rank S.L e) = false := by rw [hr]; exact fnd_end _ _ _ (by omega)
  have h0 := takeE_ok hl hf (by omega)
  refine ⟨h0, ?_⟩
  rw [takeS_ok h0, hr, insL_end]
theorem row_lt (n : Nat) (t : Int) (h : (n : Int) ≤ t) : ∀ x ∈ row n, ltE x (at_ t) := fun x hx => by
  simp only [row, List.mem_map, List.mem_range] at hx
  obtain ⟨i, hi, rfl⟩ := hx
  exact at_lt _ _ (by omega)
theorem row_take (k : Nat) (h : k < 20000) : takeE ⟨row k, 0⟩ (at_ (k : Int)) = 0 ∧ takeS ⟨row k, 0⟩ (at_ (k : Int)) = ⟨row (k + 1), 0⟩ := by
  have h1 := take_end (S := ⟨row k, 0⟩) (e := at_ (k : Int)) (row_lt k k (by omega)) (by show ¬ (k : Int) < ((0 : Nat) : Int); omega) (by show (row k).length < 20000; rw [row_length]; exact h)
  rw [row_succ]
  exact h1
theorem row_many (n : Nat) (hn : n = 20000) : takeE ⟨row n, 0⟩ (at_ 20005) = 2 ∧ takeS ⟨row n, 0⟩ (at_ 20005) = ⟨row n, 0⟩ := by
  have hr := rank_end (row_lt n 20005 (by omega))
  have h1 : takeE ⟨row n, 0⟩ (at_ 20005) = 2 := takeE_many (by show ¬ (20005 : Int) < ((0 : Nat) : Int); omega) (by show fnd (row n) _ (rank (row n) _) = false; rw [hr]; exact fnd_end _ _ _ (by omega)) (by show 20000 ≤ (row n).length; rw [row_length]; omega)
  exact ⟨h1, takeS_not (by rw [h1]; decide)⟩
theorem row_rank (n k : Nat) (h : k < n) : rank (row n) (at_ (k : Int)) = k :=
  cutN_of _ (row n) k (parts_of _ (row n) k (by rw [row_length]; omega) (fun i hi hl => by
    rw [row_at n i (by omega)]; exact decide_eq_true (at_lt _ _ (by omega))) (fun i hi hl => by
    rw [row_length] at hl
    rw [row_at n i hl]; exact decide_eq_false (at_not _ _ (by omega))))
theorem row_twice (n : Nat) (hn : n = 20000) : takeE ⟨row n, 0⟩ (at_ 7) = 22 ∧ takeS ⟨row n, 0⟩ (at_ 7) = ⟨row n, 0⟩ := by
  have hr : rank (row n) (at_ 7) = 7 := row_rank n 7 (by omega)
  have hx : (row n)[7]? = some (at_ 7) := by
    rw [List.getElem?_eq_getElem (by rw [row_length]; omega), row_at n 7 (by omega)]; rfl
  have h1 : takeE ⟨row n, 0⟩ (at_ 7) = 22 := takeE_twice (by show ¬ (7 : Int) < ((0 : Nat) : Int); omega) (by show fnd (row n) _ (rank (row n) _) = true; rw [hr, fnd, hx]; decide) (by show (row n)[rank (row n) _]? = _; rw [hr, hx])
  exact ⟨h1, takeS_not (by rw [h1]; decide)⟩
theorem row_upto (n k : Nat) (h : k < n) : upto (row n) (k : Int) = k + 1 :=
  cutN_of _ (row n) (k + 1) (parts_of _ (row n) (k + 1) (by rw [row_length]; omega) (fun i hi hl => by
    rw [row_at n i (by omega)]; exact decide_eq_true (show (i : Int) ≤ k by omega)) (fun i hi hl => by
    rw [row_length] at hl
    rw [row_at n i hl]; exact decide_eq_false (show ¬ (i : Int) ≤ k by omega)))
theorem row_settle (n k : Nat) (h : k < n) : settleR ⟨row n, 0⟩ (k : Int) = (row n).take (k + 1) ∧ settleS ⟨row n, 0⟩ (k : Int) = ⟨(row n).drop (k + 1), k + 1⟩ := by
  have hu := row_upto n k h
  unfold settleR settleS
  rw [if_neg (show ¬ (k : Int) < ((0 : Nat) : Int) by omega), if_neg (show ¬ (k : Int) < ((0 : Nat) : Int) by omega)]
  show (row n).take (upto (row n) (k : Int)) = _ ∧ Lg.mk ((row n).drop (upto (row n) (k : Int))) ((k : Int) + 1).toNat = _
  rw [hu, show ((k : Int) + 1).toNat = k + 1 by omega]
  exact ⟨rfl, rfl⟩
theorem row_late (n k : Nat) (hn : n = 20000) (h : k < n) : takeE ⟨(row n).drop (k + 1), k + 1⟩ (at_ 20005) = 0 ∧ takeS ⟨(row n).drop (k + 1), k + 1⟩ (at_ 20005) = ⟨(row n).drop (k + 1) ++ [at_ 20005], k + 1⟩ :=
  take_end (S := ⟨(row n).drop (k + 1), k + 1⟩) (fun x hx => row_lt n 20005 (by omega) x (List.mem_of_mem_drop hx)) (by show ¬ (20005 : Int) < ((k + 1 : Nat) : Int); omega) (by show ((row n).drop (k + 1)).length < 20000; rw [List.length_drop, row_length]; omega)
/-- A log, and an event in a block apart. -/
def SnB (w0 w : World) (g : Nat) (S : Lg) (b : Nat) (e : Ev) : Prop := ∃ F, IsLg 66 w g F S ∧ Adds w0 [] F ∧ Keeps [] w0 w ∧ b ∉ F ∧ Bk w b 27 (ec e).toArray
theorem SnB.step {w0 w w' : World} {g b : Nat} {S' : Lg} {e : Ev} {F : List Nat} (ha : Adds w0 [] F) (k : Keeps [] w0 w) (hb : b ∉ F) (he : Bk w b 27 (ec e).toArray) (h : Stp 66 g F w S' w') : SnB w0 w' g S' b e := by
  obtain ⟨F', h1, h2, h3⟩ := h
  exact ⟨F', h1, ha.trans h2 k.size, k.trans h3 ha, fun hm => (h2 b hm).elim hb (fun hh => by have := he.lt; omega), he.keep h3 hb⟩
theorem SnB.box {w0 w : World} {g b : Nat} {S : Lg} {e : Ev} (h : SnB w0 w g S b e) : EvAt w b 0 e := by
  obtain ⟨F, _, _, _, _, h5⟩ := h
  exact EvAt.box h5
theorem SnB.sn {w0 w : World} {g b : Nat} {S : Lg} {e : Ev} (h : SnB w0 w g S b e) : Sn 66 w0 w g S := by
  obtain ⟨F, h1, h2, h3, _⟩ := h
  exact ⟨F, h1, h2, h3⟩
theorem SnB.take {w0 w : World} {g b : Nat} {S : Lg} {x : Ev} (h : SnB w0 w g S b x) (e : Ev) (he1 : -9223372036854775808 ≤ e.t) (he2 : e.t ≤ 9223372036854775807) :
    Calls Try.prog 27 #[.pointer (some ⟨g, 0, none⟩), ev e] w fun r w' => r = .returned (.int .i64 (takeE S e)) ∧ SnB w0 w' g (takeS S e) b x := by
  obtain ⟨F, h1, h2, h3, h4, h5⟩ := h
  exact (take_any g F S e w h1 he1 he2).mono fun r w' ⟨a, c⟩ => ⟨a, SnB.step h2 h3 h4 h5 c.stp⟩
theorem SnB.settle {w0 w : World} {g b : Nat} {S : Lg} {e : Ev} (h : SnB w0 w g S b e) (x : Int) (hx1 : -9223372036854775808 ≤ x) (hx2 : x ≤ 9223372036854775807) :
    Calls Try.prog 28 #[.pointer (some ⟨g, 0, none⟩), .int .i64 x] w fun r w' => ∃ v, r = .returned v ∧ EO w' v (settleR S x) ∧ SnB w0 w' g (settleS S x) b e := by
  obtain ⟨F, h1, h2, h3, h4, h5⟩ := h
  exact (settle_any g F S x w h1 hx1 hx2).mono fun r w' ⟨v, a, c⟩ => ⟨v, a, c.1, SnB.step h2 h3 h4 h5 c.stp⟩
theorem SnB.mk {w0 wr : World} {g : Nat} {S : Lg} {e : Ev} (h : Sn 66 w0 wr g S) (cs : Array Value) (hcs : cs.size = 18) : SnB w0 ((wr.alloc (.cells cs 27)).setRow wr.heap.size (ec e).toArray) g S wr.heap.size e := by
  obtain ⟨F, h1, h2, h3⟩ := h
  have hk : Keeps [] wr ((wr.alloc (.cells cs 27)).setRow wr.heap.size (ec e).toArray) := ((Keeps.refl [] wr).alloc (.cells cs 27)).setRow (g := wr.heap.size) (.inr (Nat.le_refl _)) (ec e).toArray
  have := hcs
  exact ⟨F, h1.keep0 hk, h2, h3.trans' hk, fun hm => by have := h1.all _ hm; omega, row_bk (Bk.new wr 27 cs) (ec e).toArray⟩
set_option maxHeartbeats 2000000 in
set_option maxRecDepth 100000 in
theorem many_walk (x : Int) (w : World) (hx1 : -9223372036854775808 ≤ x) (hx2 : x ≤ 9223372036854775807) :
    Calls Try.prog 8 #[.int .i64 x] w fun r w' => r = .returned (.bool true) ∧ Keeps [] w w' := by
  go_enter Try.func8, Try.ntmps8
  go_wp2_with fail
  refine (sanity_any w).mono ?_
  rintro r w1 ⟨rfl, k1⟩
  have HK := hide k1
  clear k1
  go_wp2_with fail
  refine (new_sn w1).mono ?_
  rintro r w2 ⟨rfl, h2⟩
  have H2 := hide (show Sn 66 w1 w2 w1.heap.size ⟨row 0, 0⟩ from h2)
  generalize w1.heap.size = g at H2 ⊢
  clear h2
  go_wp2
  go_loopw [5] (fun s5 wr => ∃ k : Nat, k ≤ 20000 ∧ s5 = .int .i64 k ∧ Hid (Sn 66 w1 wr g ⟨row k, 0⟩)) (fun s5 _ => 20000 - (intOf s5).toNat)
  case atStart => exact ⟨0, by omega, rfl, H2⟩
  case round =>
    obtain ⟨k, hk, rfl, HS⟩ := hrel
    have hk0 : (0 : Int) ≤ (k : Int) := by omega
    by_cases hlt : k < 20000
    · have hltz : (k : Int) < 20000 := by omega
      have HR := hide (row_take k hlt)
      go_wp2_with fail
      refine (HS.out.take (at_ (k : Int)) (by show _ ≤ (k : Int); omega) (by show (k : Int) ≤ _; omega)).mono ?_
      rintro r w3 ⟨hr, h3⟩
      rw [HR.out.1] at hr
      rw [HR.out.2] at h3
      subst hr
      have H3 := hide h3
      clear h3 HR
      go_wp2
      go_roundw
      case measure => simp [intOf]; omega
      case rel => exact ⟨k + 1, by omega, by go_num, H3⟩
    · have HKE := hide (show k = 20000 by omega)
      have hltz : ¬ (k : Int) < 20000 := by omega
      clear hlt hk
      obtain ⟨K, hK⟩ : ∃ K : Nat, x % 20000 = (K : Int) := ⟨(x % 20000).toNat, by omega⟩
      have hKl : K < 20000 := by omega
      have HRM := hide (row_many k HKE.out)
      have HRT := hide (row_twice k HKE.out)
      have HRS := hide (row_settle k K (by have := HKE.out; omega))
      have HRL := hide (row_late k K HKE.out (by have := HKE.out; omega))
      have hl1 : ((row k).take (K + 1)).length = K + 1 := by rw [List.length_take, row_length]; have := HKE.out; omega
      have hl2 : ((row k).drop (K + 1) ++ [at_ 20005]).length = 20000 - K := by rw [List.length_append, List.length_drop, row_length, List.length_singleton]; have := HKE.out; omega
      have HL := hide (And.intro hl1 hl2)
      clear hl1 hl2 H2
      generalize row k = R at HS HRM HRT HRS HRL HL
      go_wp2_with (with_reducible refine Halt.store ?_)
      refine Halt.on ?_
      refine wpList_store_ev rfl _ _ rfl wr.heap.size (at_ 20005) rfl rfl 27 _ (Bk.new wr 27 _) rfl ?_
      change wpList _ _ _ _ _ ((wr.alloc (.cells (ec z0).toArray 27)).setRow wr.heap.size (ec (at_ 20005)).toArray)
      have H4 := hide (SnB.mk (e := at_ 20005) HS.out (ec z0).toArray rfl)
      clear HS
      generalize (wr.alloc (.cells (ec z0).toArray 27)).setRow wr.heap.size (ec (at_ 20005)).toArray = w4 at H4 ⊢
      generalize wr.heap.size = bx at H4 ⊢
      go_wp2_with fail
      refine (mod_any x 20000 w4 hx1 hx2 (by omega) (by omega)).mono ?_
      rintro r w' ⟨rfl, rfl⟩
      rw [hK]
      clear hK
      have hK0 : (0 : Int) ≤ (K : Int) := by omega
      have hKz : (K : Int) < 20000 := by omega
      go_wp2_with (with_reducible refine Halt.load ?_)
      refine Halt.on ?_
      refine wpList_load_ev rfl _ rfl bx 0 (at_ 20005) rfl H4.out.box ?_
      go_wp2_with fail
      refine (H4.out.take (at_ 20005) (by show (_ : Int) ≤ 20005; omega) (by show (20005 : Int) ≤ _; omega)).mono ?_
      rintro r w5 ⟨hr, h5⟩
      rw [HRM.out.1] at hr
      rw [HRM.out.2] at h5
      subst hr
      have H5 := hide h5
      clear h5 H4 HRM
      go_wp2_with fail
      refine (H5.out.take (at_ 7) (by show (_ : Int) ≤ 7; omega) (by show (7 : Int) ≤ _; omega)).mono ?_
      rintro r w6 ⟨hr, h6⟩
      rw [HRT.out.1] at hr
      rw [HRT.out.2] at h6
      subst hr
      have H6 := hide h6
      clear h6 H5 HRT
      go_wp2_with fail
      refine (H6.out.settle (K : Int) (by omega) (by omega)).mono ?_
      rintro r w7 ⟨v7, rfl, e7, h7⟩
      rw [HRS.out.1] at e7
      rw [HRS.out.2] at h7
      have e7' : Own w7 27 18 v7 (K + 1) (ecs (R.take (K + 1))) := by
        have h9 : Own w7 27 18 v7 (R.take (K + 1)).length (ecs (R.take (K + 1))) := e7
        rwa [HL.out.1] at h9
      obtain ⟨A7, c7, rfl⟩ := Own.slice e7'
      have H7 := hide h7
      clear e7 e7' h7 H6 HRS
      go_wp2_with (with_reducible refine Halt.load ?_)
      refine Halt.on ?_
      refine wpList_load_ev rfl _ rfl bx 0 (at_ 20005) rfl H7.out.box ?_
      go_wp2_with fail
      refine (H7.out.take (at_ 20005) (by show (_ : Int) ≤ 20005; omega) (by show (20005 : Int) ≤ _; omega)).mono ?_
      rintro r w8 ⟨hr, h8⟩
      rw [HRL.out.1] at hr
      rw [HRL.out.2] at h8
      subst hr
      have H8 := hide h8
      clear h8 H7 HRL
      have hle : (20000 : Int) - (K : Int) = ((20000 - K : Nat) : Int) := by omega
      go_wp2_with fail
      refine H8.out.sn.events.mono ?_
      rintro r w9 ⟨v9, rfl, e9, n9, h9, k9⟩
      have e9' : Own w9 27 18 v9 (20000 - K) (ecs (R.drop (K + 1) ++ [at_ 20005])) := by
        have h : Own w9 27 18 v9 (R.drop (K + 1) ++ [at_ 20005]).length (ecs (R.drop (K + 1) ++ [at_ 20005])) := e9
        rwa [HL.out.2] at h
      obtain ⟨A9, c9, rfl⟩ := Own.slice e9'
      have HF := hide (HK.out.trans' h9.keeps)
      clear e9 e9' n9 h9 k9 H8
      go_wp2
      go_ret
      exact ⟨rfl, HF.out⟩
end Go.Proofs.Ytcfglfnncpcfoaa

/- fields, pack, Event, and the reference's Event. -/
import Derived.Test.YtcfglfnncpcfoaaLd
import Derived.Test.YtcfglfnncpcfoaaPack
import Derived.Test.YtcfglfnncpcfoaaRpack
import Derived.Test.YtcfglfnncpcfoaaRintsr
import Derived.Test.YtcfglfnncpcfoaaNext
import Derived.Test.YtcfglfnncpcfoaaRin
namespace Go.Proofs.Ytcfglfnncpcfoaa
open Go.RowKit Go.Shelf
/-- The numbers of an event. -/
def nums (e : Ev) : List Int := [e.t, e.s, e.n, e.kind, e.item, e.patron, e.branch, e.hold, e.day, e.amount, e.version, e.fund, e.order, e.rs, e.rn, e.os, e.on]
def evB (e : Ev) : List UInt8 := packB [bs (intsB (nums e)), e.x]
/-- Every number fits. -/
def Ev.fits (e : Ev) : Prop := ∀ n ∈ nums e, -9223372036854775808 ≤ n ∧ n ≤ 9223372036854775807
theorem nums_length (e : Ev) : (nums e).length = 17 := rfl
theorem flat_small_i : ∀ (x : List Int), (∀ n ∈ x, -9223372036854775808 ≤ n ∧ n ≤ 9223372036854775807) → (x.flatMap intL).length ≤ x.length * 10
  | [], _ => by simp
  | n :: x, h => by
    have h1 := flat_small_i x (fun t ht => h t (by simp [ht]))
    obtain ⟨h2, h3⟩ := h n (by simp)
    obtain ⟨h4, h5⟩ := sgn_b n h2 h3
    have h6 := numL_length (sgn n).toNat (by omega)
    rw [List.flatMap_cons, List.length_append, List.length_cons, intL]
    omega
theorem intsB_small (x : List Int) (hl : x.length ≤ 100) (h : ∀ n ∈ x, -9223372036854775808 ≤ n ∧ n ≤ 9223372036854775807) : (intsB x).length ≤ 2000 := by
  have h1 := flat_small_i x h
  have h3 := numL_length x.length (by omega)
  rw [intsB, List.length_append]
  omega
theorem pack2_le (a : List UInt8) (x : ByteArray) (ha : a.length ≤ 2000) (hx : x.size < 18446744073709551616) : (packB [bs a, x]).length ≤ x.size + 2100 := by
  have h0 := numL_length 2 (by omega)
  have h1 := numL_length a.length (by omega)
  have h2 := numL_length x.size hx
  have h3 : (packB [bs a, x]) = numL 2 ++ ((numL (bs a).size ++ (bs a).data.toList) ++ ((numL x.size ++ x.data.toList) ++ [])) := rfl
  have h4 : x.data.toList.length = x.size := Array.length_toList
  rw [h3]
  simp only [List.length_append, bs_size, bs_list, List.length_nil, h4]
  omega
/-- The pointers to an event's numbers. -/
def ptrs (b : Nat) : Array Value := #[.pointer (some ⟨b, 0, none⟩), .pointer (some ⟨b, 1, none⟩), .pointer (some ⟨b, 2, none⟩), .pointer (some ⟨b, 3, none⟩), .pointer (some ⟨b, 4, none⟩), .pointer (some ⟨b, 5, none⟩), .pointer (some ⟨b, 6, none⟩), .pointer (some ⟨b, 7, none⟩), .pointer (some ⟨b, 8, none⟩), .pointer (some ⟨b, 9, none⟩), .pointer (some ⟨b, 10, none⟩), .pointer (some ⟨b, 11, none⟩), .pointer (some ⟨b, 12, none⟩), .pointer (some ⟨b, 13, none⟩), .pointer (some ⟨b, 14, none⟩), .pointer (some ⟨b, 15, none⟩), .pointer (some ⟨b, 16, none⟩)]
theorem ptrs_at (b : Nat) : ∀ k, k < 17 → (ptrs b)[k]? = some (.pointer (some ⟨b, k, none⟩)) := by
  intro k hk
  match k, hk with
  | 0, _ => rfl
  | 1, _ => rfl
  | 2, _ => rfl
  | 3, _ => rfl
  | 4, _ => rfl
  | 5, _ => rfl
  | 6, _ => rfl
  | 7, _ => rfl
  | 8, _ => rfl
  | 9, _ => rfl
  | 10, _ => rfl
  | 11, _ => rfl
  | 12, _ => rfl
  | 13, _ => rfl
  | 14, _ => rfl
  | 15, _ => rfl
  | 16, _ => rfl
  | k + 17, h => exact absurd h (by omega)
theorem nums_cell (e : Ev) : ∀ k, (h : k < 17) → (ec e)[k]? = some (.int .i64 ((nums e)[k]'h)) := by
  intro k hk
  match k, hk with
  | 0, _ => rfl
  | 1, _ => rfl
  | 2, _ => rfl
  | 3, _ => rfl
  | 4, _ => rfl
  | 5, _ => rfl
  | 6, _ => rfl
  | 7, _ => rfl
  | 8, _ => rfl
  | 9, _ => rfl
  | 10, _ => rfl
  | 11, _ => rfl
  | 12, _ => rfl
  | 13, _ => rfl
  | 14, _ => rfl
  | 15, _ => rfl
  | 16, _ => rfl
  | k + 17, h => exact absurd h (by omega)
set_option maxHeartbeats 1000000 in
set_option maxRecDepth 100000 in
theorem fields_any (b : Nat) (w : World) : Calls Try.prog 33 #[.pointer (some ⟨b, 0, none⟩)] w fun r w' => ∃ g, r = .returned (.slice (some ⟨g, 0, none⟩) 17 17) ∧ Bk w' g 75 (ptrs b) ∧ w.heap.size ≤ g ∧ Keeps [] w w' := by
  go_enter Try.func33, Try.ntmps33
  go_wp2
  refine wp_region_still_tail 58 (by kernel_rfl) (by kernel_rfl) ?_
  simp only [List.take_succ_cons, List.take_zero, List.drop_succ_cons, List.drop_zero]
  change wpStill _ _ w.drew _ _ _
  change wpStill _ _ _ (fun a' => wpList _ _ _ _ a' w.drew) _ _
  have HK := hide ((Keeps.refl [] w).drew)
  generalize w.drew = w0 at HK ⊢
  repeat still_step
  refine wpStill_nil ?_
  go_wp2
  go_ret
  exact ⟨w0.heap.size, rfl, Bk.new w0 75 (ptrs b), HK.out.size, HK.out.alloc _⟩
theorem pack_many (A : Option Addr) (c : Nat) (l : List ByteArray) (w : World) (hs : SS w (.slice A l.length c) l) (hp : (packB l).length ≤ 140737488355328) (hl : l.length ≤ 1000000000) (hz : ∀ s ∈ l, s.size ≤ 140737488355328) :
    Calls Try.prog 34 #[.slice A l.length c] w fun e w' => e = .returned (.string (bs (packB l))) ∧ Keeps [] w w' := by
  have HC := hide (pack_any A c l w hs hp hl hz)
  go_enter Try.func34, Try.ntmps34
  go_wp2_with fail
  refine HC.out.mono ?_
  rintro r w2 ⟨rfl, k2⟩
  have HK := hide k2
  clear k2
  go_wp2
  go_ret
  exact ⟨rfl, HK.out⟩
set_option maxHeartbeats 2000000 in
set_option maxRecDepth 100000 in
theorem event_any (e : Ev) (w : World) (he : e.fits) (hx : e.x.size ≤ 140737488351232) : Calls Try.prog 14 #[ev e] w fun r w' => r = .returned (.string (bs (evB e))) ∧ Keeps [] w w' := by
  obtain ⟨i0, hi0, hz0, hz1, hz2⟩ := info_parts Try.info3b
  have HI := hide (And.intro hi0 (And.intro hz0 (And.intro hz1 hz2)))
  have HEF := hide he
  have HB := hide (Bk.new w 27 (ec e).toArray)
  have HK := hide ((Keeps.refl [] w).alloc (.cells (ec e).toArray 27))
  clear hi0 hz0 hz1 hz2 he
  unfold ev
  go_enter Try.func14, Try.ntmps14
  go_wp2_with fail
  generalize w.alloc (.cells (ec e).toArray 27) = w0 at HB HK ⊢
  have HBS := hide HB.out.lt
  refine (fields_any w.heap.size w0).mono ?_
  rintro r w1 ⟨gp, rfl, hp1, hg1, k1⟩
  have HP := hide hp1
  have HE := hide ((EvAt.box HB.out).keep k1)
  replace HK := hide (HK.out.trans' k1)
  clear hp1 hg1 k1 HB HBS
  generalize w.heap.size = bx at HP HE ⊢
  go_wp2
  go_loopw [3, 8] (fun s3 s8 wr => ∃ k : Nat, k ≤ 17 ∧ s8 = .int .i64 k ∧ Hid (Own wr 3 1 s3 k (isv ((nums e).take k)) ∧ New w1 s3) ∧ Hid (Keeps [] w1 wr)) (fun _ s8 _ => 17 - (intOf s8).toNat)
  case atStart => exact ⟨0, by omega, rfl, hide ⟨World.ownsRow_nil _ _ _ _, new_nil _⟩, hide (Keeps.refl _ _)⟩
  case round =>
    obtain ⟨k, hk, rfl, HO, HR⟩ := hrel
    obtain ⟨Ax, cx, hv⟩ := Own.slice HO.out.1
    subst hv
    by_cases hlt : k < 17
    · have hltz : (k : Int) < 17 := by omega
      have hk0 : (0 : Int) ≤ (k : Int) := by omega
      have hkl : k < (nums e).length := hlt
      have p0 : wr.cell? ⟨gp, k, none⟩ = some (.pointer (some ⟨bx, k, none⟩)) := by
        rw [(HP.out.keep HR.out (by simp)).cell k]; exact ptrs_at bx k hlt
      have HN := hide (show (nums e).take (k + 1) = (nums e).take k ++ [(nums e)[k]] from List.take_succ_eq_append_getElem hkl)
      have p1 : wr.cell? ⟨bx, k, none⟩ = some (.int .i64 ((nums e)[k])) := by
        have := (HE.out.keep HR.out) k _ (nums_cell e k hlt)
        rw [Nat.zero_add] at this
        exact this
      generalize (nums e)[k] = n at HN p1
      have HA := hide (HR.out.alloc (.cells #[.int .i64 n] 3))
      go_wp2_with (with_reducible refine Halt.append ?_)
      refine Halt.on ?_
      refine wpList_append_src _ rfl _ _ _ rfl 3 i0 _ 1 8 Try.underlying35 HI.out.1 HI.out.2.1 HI.out.2.2.1 HI.out.2.2.2 rfl (by omega) (.slice Ax k cx) k _ rfl (Own.alloc HO.out.1 _) (.slice (some ⟨wr.heap.size, 0, none⟩) 1 1) 1 [.int .i64 n] rfl (Src.built wr 3 #[.int .i64 n] 1 1 rfl _ rfl) (by simp [Value.oneCell']) (by unfold maxLen; omega) (by omega) ?_
      intro v' w2 hown hgrow hblk
      obtain ⟨hK2, hN2⟩ := step_own HA.out HO.out.2 hgrow hblk
      have HO2 := hide (show Own w2 3 1 v' (k + 1) (isv ((nums e).take (k + 1))) ∧ New w1 v' from ⟨by rw [HN.out]; simpa [isv] using hown, hN2⟩)
      have HK2 := hide hK2
      clear hown hgrow hblk hK2 hN2 HA HO HR p0 p1
      go_wp2
      go_roundw
      case measure => simp [intOf]; omega
      case rel => exact ⟨k + 1, by omega, by go_num, HO2, HK2⟩
    · obtain rfl : k = 17 := by omega
      have HO1 := hide (show Own wr 3 1 (.slice Ax 17 cx) 17 (isv (nums e)) from HO.out.1)
      have HKR := hide (HK.out.trans' HR.out)
      have HER := hide (HE.out.keep HR.out)
      have HPS := hide (intsB_small (nums e) (by rw [nums_length]; omega) HEF.out)
      have HPL := hide (pack2_le (intsB (nums e)) e.x HPS.out (by omega))
      clear HO HR HP HE HK
      go_wp2
      refine wp_region_held_drew (S := (fun w' => Hid (Keeps [] wr w'))) (by kernel_rfl) (hide (Keeps.refl [] wr).drew) (fun hS => ?_)
      refine wpAnyH_take (i := 0) (oi := { dst := some 19, op := _, type := _, pos := _, after := _, guard := _ }) (v := ?_) rfl (by kernel_rfl) (by kernel_rfl) (by kernel_rfl) (fun _ _ _ h => h) (Or.inl ⟨by rfl, ?_⟩) hS ?_
      rotate_left
      · (intro w' hSw; go_simp; try with_reducible rfl)
      simp only [Act.put, List.setIfInBounds_toArray, List.set_cons_zero, List.set_cons_succ]
      refine wpAnyH_take (i := 2) (oi := { dst := some 21, op := _, type := _, pos := _, after := _, guard := _ }) (v := ?_) rfl (by kernel_rfl) (by kernel_rfl) (by kernel_rfl) (fun _ _ _ h => h) (Or.inl ⟨by rfl, ?_⟩) hS ?_
      rotate_left
      · (intro w' hSw; go_simp; try with_reducible rfl)
      simp only [Act.put, List.setIfInBounds_toArray, List.set_cons_zero, List.set_cons_succ]
      refine wpAnyH_take (i := 3) (oi := { dst := some 22, op := _, type := _, pos := _, after := _, guard := _ }) rfl (by kernel_rfl) (by kernel_rfl) (by kernel_rfl) (fun _ _ _ h => h) (yl_cell 9 _ bx 17 rfl Try.isAgg9 (by rfl) (by rfl) (fun _ h => h.out.cell (by have h9 := HER.out 17 _ rfl; rwa [Nat.zero_add] at h9))) hS ?_
      simp only [Act.put, List.setIfInBounds_toArray, List.set_cons_zero, List.set_cons_succ]
      refine wpAnyH_ready (rs := [1]) (by kernel_rfl) (by simp) ?_
      refine AllReadyH.cons (o := { dst := some 20, op := _, type := _, pos := _, after := _, guard := _ }) rfl (fun K hK => ?_) AllReadyH.nil
      go_simp
      refine (ints_any Ax cx (nums e) _ (Own.src (Own.keep HO1.out hS.out (by simp))) (by have := HPS.out; omega) (by rw [nums_length]; omega) HEF.out).mono ?_
      rintro r2 w2 ⟨rfl, k2⟩
      refine hK.out _ _ (hide (hS.out.trans' k2)) (fun hS => ?_)
      clear hK K
      refine wpAnyH_ready (rs := [4]) (by kernel_rfl) (by simp) ?_
      refine AllReadyH.cons (o := { dst := some 23, op := _, type := _, pos := _, after := _, guard := _ }) rfl (fun K hK => ?_) AllReadyH.nil
      go_simp
      refine hK.out _ _ (hide (hS.out.alloc _)) (fun hS => ?_)
      clear hK K
      refine wpAnyH_ready (rs := [5]) (by kernel_rfl) (by simp) ?_
      refine AllReadyH.cons (o := { dst := some 24, op := _, type := _, pos := _, after := _, guard := _ }) rfl (fun K hK => ?_) AllReadyH.nil
      go_simp
      refine (pack_many (some ⟨w2.heap.size, 0, none⟩) 2 [bs (intsB (nums e)), e.x] _ (Src.built w2 9 #[.string (bs (intsB (nums e))), .string e.x] 1 2 rfl _ rfl) (by have := HPL.out; omega) (show (2 : Nat) ≤ 1000000000 by omega) (fun s hs => by
        simp only [List.mem_cons, List.not_mem_nil, or_false] at hs
        rcases hs with rfl | rfl
        · rw [bs_size]; have := HPS.out; omega
        · omega)).mono ?_
      rintro r4 w4 ⟨rfl, k4⟩
      refine hK.out _ _ (hide (hS.out.trans' k4)) (fun hS => ?_)
      clear hK K
      refine wpAnyH_take (i := 6) (oi := { dst := some 2, op := _, type := _, pos := _, after := _, guard := _ }) (v := ?_) rfl (by kernel_rfl) (by kernel_rfl) (by kernel_rfl) (fun _ _ _ h => h) (Or.inl ⟨by rfl, ?_⟩) hS ?_
      rotate_left
      · (intro w' hSw; go_simp; try with_reducible rfl)
      simp only [Act.put, List.setIfInBounds_toArray, List.set_cons_zero, List.set_cons_succ]
      refine wpAnyH_done (by kernel_rfl) ?_ _
      have HF := hide (HKR.out.trans' hS.out)
      go_wp2
      go_ret
      exact ⟨rfl, HF.out⟩
end Go.Proofs.Ytcfglfnncpcfoaa

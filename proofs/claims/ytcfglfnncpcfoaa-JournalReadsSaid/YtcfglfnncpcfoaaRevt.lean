/- The reference's Event; plain laws on what Event and ReadEvent say. -/
import Derived.Test.YtcfglfnncpcfoaaRev
import Derived.Test.YtcfglfnncpcfoaaEvent
import Derived.Test.YtcfglfnncpcfoaaRound
import Derived.Test.YtcfglfnncpcfoaaRoundi
namespace Go.Proofs.Ytcfglfnncpcfoaa
open Go.RowKit Go.Shelf
theorem evOf_nums (e : Ev) : evOf (nums e) e.x = e := by cases e; rfl
theorem unp_event (e : Ev) (hx : e.x.size ≤ 140737488351232) (he : e.fits) : unpB (evB e) = ([bs (intsB (nums e)), e.x], 0) :=
  unpB_packB _ (by show (2 : Nat) < _; omega) (fun s hs => by
    simp only [List.mem_cons, List.not_mem_nil, or_false] at hs
    have hi := intsB_small (nums e) (by rw [nums_length]; omega) he
    rcases hs with rfl | rfl
    · rw [bs_size]; omega
    · omega)
theorem readE_event (e : Ev) (hx : e.x.size ≤ 140737488351232) (he : e.fits) : readE (evB e) = (e, 0) := by
  rw [readE_two (unp_event e hx he), bs_list, readI_intsB (nums e) (by rw [nums_length]; omega) he]
  rw [if_neg (by simp), if_neg (by rw [nums_length]; simp), evOf_nums]
theorem event_len (e : Ev) (hx : e.x.size ≤ 140737488351232) (he : e.fits) : (evB e).length ≤ 140737488353332 := by
  have h1 := intsB_small (nums e) (by rw [nums_length]; omega) he
  have h2 := pack2_le (intsB (nums e)) e.x h1 (by omega)
  show (packB [bs (intsB (nums e)), e.x]).length ≤ _
  omega
theorem pack_first (l : List ByteArray) (hl : l.length < 18446744073709551616) : (readN (packB l)).1 = l.length := by
  have := readN_numL l.length hl (l.flatMap itemL)
  show (readN (numL l.length ++ l.flatMap itemL)).1 = _
  rw [this]
theorem fine_event (e : Ev) (hx : e.x.size ≤ 140737488351232) (he : e.fits) : Fine (evB e) := by
  refine ⟨by have := event_len e hx he; omega, ?_, fun a x h => ?_⟩
  · rw [evB, pack_first _ (by show (2 : Nat) < _; omega)]; show (2 : Nat) ≤ _; omega
  · rw [unp_event e hx he] at h
    injection h with h _
    injection h with h _
    subst h
    rw [bs_size]
    have := intsB_small (nums e) (by rw [nums_length]; omega) he
    omega
set_option maxHeartbeats 4000000 in
set_option maxRecDepth 100000 in
theorem revent_any (e : Ev) (w : World) (he : e.fits) (hx : e.x.size ≤ 140737488351232) : Calls Try.prog 16 #[ev e] w fun r w' => r = .returned (.string (bs (evB e))) ∧ Keeps [] w w' := by
  have HEF := hide he
  have HB := hide (Bk.new w 27 (ec e).toArray)
  have HK := hide ((Keeps.refl [] w).alloc (.cells (ec e).toArray 27))
  have HPS := hide (intsB_small (nums e) (by rw [nums_length]; omega) he)
  have HPL := hide (pack2_le (intsB (nums e)) e.x HPS.out (by omega))
  clear he
  unfold ev
  go_enter Try.func16, Try.ntmps16
  go_wp2_with (with_reducible refine Halt.load (t := 3) ?_)
  refine Halt.on ?_
  change wpList _ _ _ _ _ (w.alloc (.cells (ec e).toArray 27))
  generalize w.alloc (.cells (ec e).toArray 27) = w0 at HB HK ⊢
  generalize w.heap.size = bx at HB ⊢
  have q0 : w0.cell? ⟨bx, 0, none⟩ = some (.int .i64 e.t) := HB.out.cell 0
  have q1 : w0.cell? ⟨bx, 1, none⟩ = some (.int .i64 e.s) := HB.out.cell 1
  have q2 : w0.cell? ⟨bx, 2, none⟩ = some (.int .i64 e.n) := HB.out.cell 2
  have q3 : w0.cell? ⟨bx, 3, none⟩ = some (.int .i64 e.kind) := HB.out.cell 3
  have q4 : w0.cell? ⟨bx, 4, none⟩ = some (.int .i64 e.item) := HB.out.cell 4
  have q5 : w0.cell? ⟨bx, 5, none⟩ = some (.int .i64 e.patron) := HB.out.cell 5
  have q6 : w0.cell? ⟨bx, 6, none⟩ = some (.int .i64 e.branch) := HB.out.cell 6
  have q7 : w0.cell? ⟨bx, 7, none⟩ = some (.int .i64 e.hold) := HB.out.cell 7
  have q8 : w0.cell? ⟨bx, 8, none⟩ = some (.int .i64 e.day) := HB.out.cell 8
  have q9 : w0.cell? ⟨bx, 9, none⟩ = some (.int .i64 e.amount) := HB.out.cell 9
  have q10 : w0.cell? ⟨bx, 10, none⟩ = some (.int .i64 e.version) := HB.out.cell 10
  have q11 : w0.cell? ⟨bx, 11, none⟩ = some (.int .i64 e.fund) := HB.out.cell 11
  have q12 : w0.cell? ⟨bx, 12, none⟩ = some (.int .i64 e.order) := HB.out.cell 12
  have q13 : w0.cell? ⟨bx, 13, none⟩ = some (.int .i64 e.rs) := HB.out.cell 13
  have q14 : w0.cell? ⟨bx, 14, none⟩ = some (.int .i64 e.rn) := HB.out.cell 14
  have q15 : w0.cell? ⟨bx, 15, none⟩ = some (.int .i64 e.os) := HB.out.cell 15
  have q16 : w0.cell? ⟨bx, 16, none⟩ = some (.int .i64 e.on) := HB.out.cell 16
  go_wp2
  clear q0 q1 q2 q3 q4 q5 q6 q7 q8 q9 q10 q11 q12 q13 q14 q15 q16
  change Code.wp _ _ _ _ (w0.alloc (.cells (isv (nums e)).toArray 3))
  have HO := hide (show Src (w0.alloc (.cells (isv (nums e)).toArray 3)) 1 (.slice (some ⟨w0.heap.size, 0, none⟩) 17 17) 17 (isv (nums e)) from Src.built w0 3 (isv (nums e)).toArray 1 17 rfl _ rfl)
  have HE := hide (HB.out.alloc (.cells (isv (nums e)).toArray 3))
  have HKR := hide (HK.out.alloc (.cells (isv (nums e)).toArray 3))
  clear HB HK
  generalize w0.alloc (.cells (isv (nums e)).toArray 3) = wr at HO HE HKR ⊢
  generalize w0.heap.size = gp at HO ⊢
  refine wp_region_held_drew (S := (fun w' => Hid (Keeps [] wr w'))) (by kernel_rfl) (hide (Keeps.refl [] wr).drew) (fun hS => ?_)
  refine wpAnyH_take (i := 0) (oi := { dst := some 46, op := _, type := _, pos := _, after := _, guard := _ }) (v := ?_) rfl (by kernel_rfl) (by kernel_rfl) (by kernel_rfl) (fun _ _ _ h => h) (Or.inl ⟨by rfl, ?_⟩) hS ?_
  rotate_left
  · (intro w' hSw; go_simp; try with_reducible rfl)
  simp only [Act.put, List.setIfInBounds_toArray, List.set_cons_zero, List.set_cons_succ]
  refine wpAnyH_take (i := 2) (oi := { dst := some 48, op := _, type := _, pos := _, after := _, guard := _ }) (v := ?_) rfl (by kernel_rfl) (by kernel_rfl) (by kernel_rfl) (fun _ _ _ h => h) (Or.inl ⟨by rfl, ?_⟩) hS ?_
  rotate_left
  · (intro w' hSw; go_simp; try with_reducible rfl)
  simp only [Act.put, List.setIfInBounds_toArray, List.set_cons_zero, List.set_cons_succ]
  refine wpAnyH_take (i := 3) (oi := { dst := some 49, op := _, type := _, pos := _, after := _, guard := _ }) rfl (by kernel_rfl) (by kernel_rfl) (by kernel_rfl) (fun _ _ _ h => h) (yl_cell 9 _ bx 17 rfl Try.isAgg9 (by rfl) (by rfl) (fun _ h => h.out.cell (HE.out.cell 17))) hS ?_
  simp only [Act.put, List.setIfInBounds_toArray, List.set_cons_zero, List.set_cons_succ]
  refine wpAnyH_ready (rs := [1]) (by kernel_rfl) (by simp) ?_
  refine AllReadyH.cons (o := { dst := some 47, op := _, type := _, pos := _, after := _, guard := _ }) rfl (fun K hK => ?_) AllReadyH.nil
  go_simp
  refine (rints_any (some ⟨gp, 0, none⟩) 17 (nums e) _ (Src.keep HO.out hS.out (by simp)) (by have := HPS.out; omega) (by rw [nums_length]; omega) HEF.out).mono ?_
  rintro r2 w2 ⟨rfl, k2⟩
  refine hK.out _ _ (hide (hS.out.trans' k2)) (fun hS => ?_)
  clear hK K
  refine wpAnyH_ready (rs := [4]) (by kernel_rfl) (by simp) ?_
  refine AllReadyH.cons (o := { dst := some 50, op := _, type := _, pos := _, after := _, guard := _ }) rfl (fun K hK => ?_) AllReadyH.nil
  go_simp
  refine hK.out _ _ (hide (hS.out.alloc _)) (fun hS => ?_)
  clear hK K
  refine wpAnyH_ready (rs := [5]) (by kernel_rfl) (by simp) ?_
  refine AllReadyH.cons (o := { dst := some 51, op := _, type := _, pos := _, after := _, guard := _ }) rfl (fun K hK => ?_) AllReadyH.nil
  go_simp
  refine (rpack_any (some ⟨w2.heap.size, 0, none⟩) 2 [bs (intsB (nums e)), e.x] _ (Src.built w2 9 #[.string (bs (intsB (nums e))), .string e.x] 1 2 rfl _ rfl) (by have := HPL.out; omega) (show (2 : Nat) ≤ 1000000000 by omega) (fun s hs => by
    simp only [List.mem_cons, List.not_mem_nil, or_false] at hs
    rcases hs with rfl | rfl
    · rw [bs_size]; have := HPS.out; omega
    · omega)).mono ?_
  rintro r4 w4 ⟨rfl, k4⟩
  refine hK.out _ _ (hide (hS.out.trans' k4)) (fun hS => ?_)
  clear hK K
  refine wpAnyH_take (i := 6) (oi := { dst := some 2, op := _, type := _, pos := _, after := _, guard := _ }) (v := ?_) rfl (by kernel_rfl) (by kernel_rfl) (by kernel_rfl) (fun _ _ _ h => h) (Or.inl ⟨by rfl, ?_⟩) hS ?_
  rotate_left
  · (intro w' hSw; go_simp; try with_reducible rfl)
  simp only [Act.put, List.setIfInBounds_toArray, List.set_cons_zero, List.set_cons_succ]
  refine wpAnyH_done (by kernel_rfl) ?_ _
  have HF := hide (HKR.out.trans' hS.out)
  go_wp2
  go_ret
  exact ⟨rfl, HF.out⟩
end Go.Proofs.Ytcfglfnncpcfoaa

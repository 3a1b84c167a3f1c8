/- The reference's Take. -/
import Derived.Test.YtcfglfnncpcfoaaTk
import Derived.Test.YtcfglfnncpcfoaaRstl
namespace Go.Proofs.Ytcfglfnncpcfoaa
open Go.RowKit
theorem ev_in {w : World} {b c n : Nat} {L : List Ev} (h : Own w 27 18 (.slice (some ⟨b, 0, none⟩) n c) n (ecs L)) {k : Nat} (hk : k < L.length) : EvAt w b (k * 18) L[k] := by
  have h1 := evAt_of (w := w) (b := b) (o := 0) (fun j u hu => by
    have h2 := World.ownsRow.cells h (g := b) rfl j u hu
    rw [Addr.add_lit, Nat.zero_add] at h2
    rw [Nat.zero_add]; exact h2) k hk
  rw [Nat.zero_add] at h1
  exact h1
set_option maxHeartbeats 8000000 in
set_option maxRecDepth 100000 in
theorem rtake_any (g : Nat) (F : List Nat) (S : Lg) (e : Ev) (w : World) (h : IsLg 84 w g F S) (he1 : -9223372036854775808 ≤ e.t) (he2 : e.t ≤ 9223372036854775807) :
    Calls Try.prog 42 #[.pointer (some ⟨g, 0, none⟩), ev e] w fun r w' => r = .returned (.int .i64 (takeE S e)) ∧ Took 84 w g F S e w' := by
  have HL := hide h
  obtain ⟨v0, h⟩ := h
  obtain ⟨A, c, rfl⟩ := Own.slice h.own
  have HAT := hide h
  have HB := hide (Bk.new w 27 (ec e).toArray)
  have HK := hide ((Keeps.refl [] w).alloc (.cells (ec e).toArray 27))
  have HX := hide h.blk.lt
  have hlen := h.ok.len
  have hop := h.ok.op
  have hcap := (Own.cap h.own).1
  have hcap2 := (Own.cap h.own).2
  have HSR := hide h.ok.srt
  obtain ⟨i0, hi, hz0, hz1, hz2⟩ := info_parts Try.info27b
  have HI0 := hide (And.intro hi (And.intro hz0 (And.intro hz1 hz2)))
  clear h hi hz0 hz1 hz2
  unfold ev
  go_enter Try.func42, Try.ntmps42
  go_wp2
  generalize hw0 : w.alloc (.cells (ec e).toArray 27) = w0 at HB HK ⊢
  generalize hbx : w.heap.size = bx at HB HX ⊢
  have HBX := hide hbx
  clear hw0 hbx
  have HC0 := hide (show w0.cell? ⟨g, 0, none⟩ = some (.slice A S.L.length c) from HK.out.cell (HAT.out.blk.cell 0))
  have HC1 := hide (show w0.cell? ⟨g, 1, none⟩ = some (.int .u64 (S.op : Int)) from HK.out.cell (HAT.out.blk.cell 1))
  have HE := hide (show EvAt w0 bx 0 e from EvAt.box HB.out)
  clear HB
  by_cases h0 : e.t < 0
  · have hd : decide (e.t < 0) = true := by simp [h0]
    refine wp_region_held_drew (S := (fun w' => Hid (Keeps [] w0 w'))) (by kernel_rfl) (hide (Keeps.refl [] w0).drew) (fun hS => ?_)
    refine wpAnyH_take (i := 0) (oi := { dst := some 7, op := _, type := _, pos := _, after := _, guard := _ }) (v := ?_) rfl (by kernel_rfl) (by kernel_rfl) (by kernel_rfl) (fun _ _ _ h => h) (Or.inl ⟨by rfl, ?_⟩) hS ?_
    rotate_left
    · (intro w' hSw; go_simp; try with_reducible rfl)
    simp only [Act.put, List.setIfInBounds_toArray, List.set_cons_zero, List.set_cons_succ]
    refine wpAnyH_take (i := 1) (oi := { dst := some 8, op := _, type := _, pos := _, after := _, guard := _ }) (v := ?_) rfl (by kernel_rfl) (by kernel_rfl) (by kernel_rfl) (fun _ _ _ h => h) (Or.inl ⟨by rfl, ?_⟩) hS ?_
    rotate_left
    · (intro w' hSw; go_simp; try with_reducible rfl)
    simp only [Act.put, List.setIfInBounds_toArray, List.set_cons_zero, List.set_cons_succ]
    refine wpAnyH_take (i := 2) (oi := { dst := some 9, op := _, type := _, pos := _, after := _, guard := _ }) rfl (by kernel_rfl) (by kernel_rfl) (by kernel_rfl) (fun _ _ _ h => h) (yl_cell 3 _ bx 0 rfl Try.isAgg3 (by rfl) (by rfl) (fun _ h => h.out.cell (HE.out 0 _ rfl))) hS ?_
    simp only [Act.put, List.setIfInBounds_toArray, List.set_cons_zero, List.set_cons_succ]
    refine wpAnyH_take (i := 3) (oi := { dst := some 10, op := _, type := _, pos := _, after := _, guard := _ }) (v := ?_) rfl (by kernel_rfl) (by kernel_rfl) (by kernel_rfl) (fun _ _ _ h => h) (Or.inl ⟨by rfl, ?_⟩) hS ?_
    rotate_left
    · (intro w' hSw; go_simp; try with_reducible rfl)
    simp only [Act.put, List.setIfInBounds_toArray, List.set_cons_zero, List.set_cons_succ]
    refine wpAnyH_take (i := 4) (oi := { dst := some 11, op := _, type := _, pos := _, after := _, guard := _ }) (v := ?_) rfl (by kernel_rfl) (by kernel_rfl) (by kernel_rfl) (fun _ _ _ h => h) (Or.inl ⟨by rfl, ?_⟩) hS ?_
    rotate_left
    · (intro w' hSw; go_simp; try with_reducible rfl)
    simp only [Act.put, List.setIfInBounds_toArray, List.set_cons_zero, List.set_cons_succ]
    refine wpAnyH_take (i := 5) (oi := { dst := some 12, op := _, type := _, pos := _, after := _, guard := _ }) (v := undef) rfl (by kernel_rfl) (by kernel_rfl) (by kernel_rfl) (fun _ _ _ h => h) (Or.inr ⟨by rfl, rfl⟩) hS ?_
    simp only [Act.put, List.setIfInBounds_toArray, List.set_cons_zero, List.set_cons_succ]
    refine wpAnyH_take (i := 6) (oi := { dst := some 13, op := _, type := _, pos := _, after := _, guard := _ }) (v := undef) rfl (by kernel_rfl) (by kernel_rfl) (by kernel_rfl) (fun _ _ _ h => h) (Or.inr ⟨by rfl, rfl⟩) hS ?_
    simp only [Act.put, List.setIfInBounds_toArray, List.set_cons_zero, List.set_cons_succ]
    refine wpAnyH_take (i := 7) (oi := { dst := some 14, op := _, type := _, pos := _, after := _, guard := _ }) (v := undef) rfl (by kernel_rfl) (by kernel_rfl) (by kernel_rfl) (fun _ _ _ h => h) (Or.inr ⟨by rfl, rfl⟩) hS ?_
    simp only [Act.put, List.setIfInBounds_toArray, List.set_cons_zero, List.set_cons_succ]
    refine wpAnyH_take (i := 8) (oi := { dst := some 15, op := _, type := _, pos := _, after := _, guard := _ }) (v := undef) rfl (by kernel_rfl) (by kernel_rfl) (by kernel_rfl) (fun _ _ _ h => h) (Or.inr ⟨by rfl, rfl⟩) hS ?_
    simp only [Act.put, List.setIfInBounds_toArray, List.set_cons_zero, List.set_cons_succ]
    refine wpAnyH_take (i := 9) (oi := { dst := some 16, op := _, type := _, pos := _, after := _, guard := _ }) (v := undef) rfl (by kernel_rfl) (by kernel_rfl) (by kernel_rfl) (fun _ _ _ h => h) (Or.inr ⟨by rfl, rfl⟩) hS ?_
    simp only [Act.put, List.setIfInBounds_toArray, List.set_cons_zero, List.set_cons_succ]
    refine wpAnyH_take (i := 10) (oi := { dst := some 17, op := _, type := _, pos := _, after := _, guard := _ }) (v := undef) rfl (by kernel_rfl) (by kernel_rfl) (by kernel_rfl) (fun _ _ _ h => h) (Or.inr ⟨by rfl, rfl⟩) hS ?_
    simp only [Act.put, List.setIfInBounds_toArray, List.set_cons_zero, List.set_cons_succ]
    refine wpAnyH_take (i := 11) (oi := { dst := some 18, op := _, type := _, pos := _, after := _, guard := _ }) (v := undef) rfl (by kernel_rfl) (by kernel_rfl) (by kernel_rfl) (fun _ _ _ h => h) (Or.inr ⟨by rfl, rfl⟩) hS ?_
    simp only [Act.put, List.setIfInBounds_toArray, List.set_cons_zero, List.set_cons_succ]
    refine wpAnyH_take (i := 12) (oi := { dst := some 19, op := _, type := _, pos := _, after := _, guard := _ }) (v := undef) rfl (by kernel_rfl) (by kernel_rfl) (by kernel_rfl) (fun _ _ _ h => h) (Or.inr ⟨by rfl, rfl⟩) hS ?_
    simp only [Act.put, List.setIfInBounds_toArray, List.set_cons_zero, List.set_cons_succ]
    refine wpAnyH_take (i := 13) (oi := { dst := some 20, op := _, type := _, pos := _, after := _, guard := _ }) (v := undef) rfl (by kernel_rfl) (by kernel_rfl) (by kernel_rfl) (fun _ _ _ h => h) (Or.inr ⟨by rfl, rfl⟩) hS ?_
    simp only [Act.put, List.setIfInBounds_toArray, List.set_cons_zero, List.set_cons_succ]
    refine wpAnyH_take (i := 14) (oi := { dst := some 21, op := _, type := _, pos := _, after := _, guard := _ }) (v := ?_) rfl (by kernel_rfl) (by kernel_rfl) (by kernel_rfl) (fun _ _ _ h => h) (Or.inl ⟨by rfl, ?_⟩) hS ?_
    rotate_left
    · (intro w' hSw; go_simp; try with_reducible rfl)
    simp only [Act.put, List.setIfInBounds_toArray, List.set_cons_zero, List.set_cons_succ]
    refine wpAnyH_done (by kernel_rfl) ?_ _
    replace HC0 := hide (hS.out.cell HC0.out)
    replace HC1 := hide (hS.out.cell HC1.out)
    replace HE := hide (HE.out.keep hS.out)
    replace HK := hide (HK.out.trans' hS.out)
    clear hS
    generalize w0.drew = w0 at HC0 HC1 HE HK ⊢
    have HE2 := hide (takeE_late (S := S) (e := e) (by omega))
    have HR := hide (took_none HL.out HK.out (by rw [HE2.out]; decide))
    clear HC0 HC1 HE HL HAT
    go_wp2
    go_ret
    exact ⟨by rw [HE2.out]; rfl, HR.out⟩
  have hd : decide (e.t < 0) = false := by simp; omega
  have hw : IntKind.u64.wrap e.t = e.t := by rw [IntKind.wrap_u64]; omega
  by_cases hlt : e.t < S.op
  · have hd2 : decide (e.t < (S.op : Int)) = true := by simp [hlt]
    refine wp_region_held_drew (S := (fun w' => Hid (Keeps [] w0 w'))) (by kernel_rfl) (hide (Keeps.refl [] w0).drew) (fun hS => ?_)
    refine wpAnyH_take (i := 0) (oi := { dst := some 7, op := _, type := _, pos := _, after := _, guard := _ }) (v := ?_) rfl (by kernel_rfl) (by kernel_rfl) (by kernel_rfl) (fun _ _ _ h => h) (Or.inl ⟨by rfl, ?_⟩) hS ?_
    rotate_left
    · (intro w' hSw; go_simp; try with_reducible rfl)
    simp only [Act.put, List.setIfInBounds_toArray, List.set_cons_zero, List.set_cons_succ]
    refine wpAnyH_take (i := 1) (oi := { dst := some 8, op := _, type := _, pos := _, after := _, guard := _ }) (v := ?_) rfl (by kernel_rfl) (by kernel_rfl) (by kernel_rfl) (fun _ _ _ h => h) (Or.inl ⟨by rfl, ?_⟩) hS ?_
    rotate_left
    · (intro w' hSw; go_simp; try with_reducible rfl)
    simp only [Act.put, List.setIfInBounds_toArray, List.set_cons_zero, List.set_cons_succ]
    refine wpAnyH_take (i := 2) (oi := { dst := some 9, op := _, type := _, pos := _, after := _, guard := _ }) rfl (by kernel_rfl) (by kernel_rfl) (by kernel_rfl) (fun _ _ _ h => h) (yl_cell 3 _ bx 0 rfl Try.isAgg3 (by rfl) (by rfl) (fun _ h => h.out.cell (HE.out 0 _ rfl))) hS ?_
    simp only [Act.put, List.setIfInBounds_toArray, List.set_cons_zero, List.set_cons_succ]
    refine wpAnyH_take (i := 3) (oi := { dst := some 10, op := _, type := _, pos := _, after := _, guard := _ }) (v := ?_) rfl (by kernel_rfl) (by kernel_rfl) (by kernel_rfl) (fun _ _ _ h => h) (Or.inl ⟨by rfl, ?_⟩) hS ?_
    rotate_left
    · (intro w' hSw; go_simp; try with_reducible rfl)
    simp only [Act.put, List.setIfInBounds_toArray, List.set_cons_zero, List.set_cons_succ]
    refine wpAnyH_take (i := 4) (oi := { dst := some 11, op := _, type := _, pos := _, after := _, guard := _ }) (v := ?_) rfl (by kernel_rfl) (by kernel_rfl) (by kernel_rfl) (fun _ _ _ h => h) (Or.inl ⟨by rfl, ?_⟩) hS ?_
    rotate_left
    · (intro w' hSw; go_simp; try with_reducible rfl)
    simp only [Act.put, List.setIfInBounds_toArray, List.set_cons_zero, List.set_cons_succ]
    refine wpAnyH_take (i := 5) (oi := { dst := some 12, op := _, type := _, pos := _, after := _, guard := _ }) (v := ?_) rfl (by kernel_rfl) (by kernel_rfl) (by kernel_rfl) (fun _ _ _ h => h) (Or.inl ⟨by rfl, ?_⟩) hS ?_
    rotate_left
    · (intro w' hSw; go_simp; try with_reducible rfl)
    simp only [Act.put, List.setIfInBounds_toArray, List.set_cons_zero, List.set_cons_succ]
    refine wpAnyH_take (i := 6) (oi := { dst := some 13, op := _, type := _, pos := _, after := _, guard := _ }) (v := ?_) rfl (by kernel_rfl) (by kernel_rfl) (by kernel_rfl) (fun _ _ _ h => h) (Or.inl ⟨by rfl, ?_⟩) hS ?_
    rotate_left
    · (intro w' hSw; go_simp; try with_reducible rfl)
    simp only [Act.put, List.setIfInBounds_toArray, List.set_cons_zero, List.set_cons_succ]
    refine wpAnyH_take (i := 7) (oi := { dst := some 14, op := _, type := _, pos := _, after := _, guard := _ }) rfl (by kernel_rfl) (by kernel_rfl) (by kernel_rfl) (fun _ _ _ h => h) (yl_cell 3 _ bx 0 rfl Try.isAgg3 (by rfl) (by rfl) (fun _ h => h.out.cell (HE.out 0 _ rfl))) hS ?_
    simp only [Act.put, List.setIfInBounds_toArray, List.set_cons_zero, List.set_cons_succ]
    refine wpAnyH_take (i := 8) (oi := { dst := some 15, op := _, type := _, pos := _, after := _, guard := _ }) (v := ?_) rfl (by kernel_rfl) (by kernel_rfl) (by kernel_rfl) (fun _ _ _ h => h) (Or.inl ⟨by rfl, ?_⟩) hS ?_
    rotate_left
    · (intro w' hSw; go_simp; try with_reducible rfl)
    simp only [Act.put, List.setIfInBounds_toArray, List.set_cons_zero, List.set_cons_succ]
    refine wpAnyH_take (i := 9) (oi := { dst := some 16, op := _, type := _, pos := _, after := _, guard := _ }) (v := ?_) rfl (by kernel_rfl) (by kernel_rfl) (by kernel_rfl) (fun _ _ _ h => h) (Or.inl ⟨by rfl, ?_⟩) hS ?_
    rotate_left
    · (intro w' hSw; go_simp; try with_reducible rfl)
    simp only [Act.put, List.setIfInBounds_toArray, List.set_cons_zero, List.set_cons_succ]
    refine wpAnyH_take (i := 10) (oi := { dst := some 17, op := _, type := _, pos := _, after := _, guard := _ }) (v := ?_) rfl (by kernel_rfl) (by kernel_rfl) (by kernel_rfl) (fun _ _ _ h => h) (Or.inl ⟨by rfl, ?_⟩) hS ?_
    rotate_left
    · (intro w' hSw; go_simp; try with_reducible rfl)
    simp only [Act.put, List.setIfInBounds_toArray, List.set_cons_zero, List.set_cons_succ]
    refine wpAnyH_take (i := 11) (oi := { dst := some 18, op := _, type := _, pos := _, after := _, guard := _ }) (v := ?_) rfl (by kernel_rfl) (by kernel_rfl) (by kernel_rfl) (fun _ _ _ h => h) (Or.inl ⟨by rfl, ?_⟩) hS ?_
    rotate_left
    · (intro w' hSw; go_simp; try with_reducible rfl)
    simp only [Act.put, List.setIfInBounds_toArray, List.set_cons_zero, List.set_cons_succ]
    refine wpAnyH_take (i := 12) (oi := { dst := some 19, op := _, type := _, pos := _, after := _, guard := _ }) rfl (by kernel_rfl) (by kernel_rfl) (by kernel_rfl) (fun _ _ _ h => h) (yl_cell 64 _ g 1 rfl Try.isAgg64 (by rfl) (by rfl) (fun _ h => h.out.cell HC1.out)) hS ?_
    simp only [Act.put, List.setIfInBounds_toArray, List.set_cons_zero, List.set_cons_succ]
    refine wpAnyH_take (i := 13) (oi := { dst := some 20, op := _, type := _, pos := _, after := _, guard := _ }) (v := ?_) rfl (by kernel_rfl) (by kernel_rfl) (by kernel_rfl) (fun _ _ _ h => h) (Or.inl ⟨by rfl, ?_⟩) hS ?_
    rotate_left
    · (intro w' hSw; go_simp; try with_reducible rfl)
    simp only [Act.put, List.setIfInBounds_toArray, List.set_cons_zero, List.set_cons_succ]
    refine wpAnyH_take (i := 14) (oi := { dst := some 21, op := _, type := _, pos := _, after := _, guard := _ }) (v := ?_) rfl (by kernel_rfl) (by kernel_rfl) (by kernel_rfl) (fun _ _ _ h => h) (Or.inl ⟨by rfl, ?_⟩) hS ?_
    rotate_left
    · (intro w' hSw; go_simp; try with_reducible rfl)
    simp only [Act.put, List.setIfInBounds_toArray, List.set_cons_zero, List.set_cons_succ]
    refine wpAnyH_done (by kernel_rfl) ?_ _
    replace HC0 := hide (hS.out.cell HC0.out)
    replace HC1 := hide (hS.out.cell HC1.out)
    replace HE := hide (HE.out.keep hS.out)
    replace HK := hide (HK.out.trans' hS.out)
    clear hS
    generalize w0.drew = w0 at HC0 HC1 HE HK ⊢
    have HE2 := hide (takeE_late (S := S) (e := e) (by omega))
    have HR := hide (took_none HL.out HK.out (by rw [HE2.out]; decide))
    clear HC0 HC1 HE HL HAT
    go_wp2
    go_ret
    exact ⟨by rw [HE2.out]; rfl, HR.out⟩
  have hd2 : decide (e.t < (S.op : Int)) = false := by simp; omega
  refine wp_region_held_drew (S := (fun w' => Hid (Keeps [] w0 w'))) (by kernel_rfl) (hide (Keeps.refl [] w0).drew) (fun hS => ?_)
  refine wpAnyH_take (i := 0) (oi := { dst := some 7, op := _, type := _, pos := _, after := _, guard := _ }) (v := ?_) rfl (by kernel_rfl) (by kernel_rfl) (by kernel_rfl) (fun _ _ _ h => h) (Or.inl ⟨by rfl, ?_⟩) hS ?_
  rotate_left
  · (intro w' hSw; go_simp; try with_reducible rfl)
  simp only [Act.put, List.setIfInBounds_toArray, List.set_cons_zero, List.set_cons_succ]
  refine wpAnyH_take (i := 1) (oi := { dst := some 8, op := _, type := _, pos := _, after := _, guard := _ }) (v := ?_) rfl (by kernel_rfl) (by kernel_rfl) (by kernel_rfl) (fun _ _ _ h => h) (Or.inl ⟨by rfl, ?_⟩) hS ?_
  rotate_left
  · (intro w' hSw; go_simp; try with_reducible rfl)
  simp only [Act.put, List.setIfInBounds_toArray, List.set_cons_zero, List.set_cons_succ]
  refine wpAnyH_take (i := 2) (oi := { dst := some 9, op := _, type := _, pos := _, after := _, guard := _ }) rfl (by kernel_rfl) (by kernel_rfl) (by kernel_rfl) (fun _ _ _ h => h) (yl_cell 3 _ bx 0 rfl Try.isAgg3 (by rfl) (by rfl) (fun _ h => h.out.cell (HE.out 0 _ rfl))) hS ?_
  simp only [Act.put, List.setIfInBounds_toArray, List.set_cons_zero, List.set_cons_succ]
  refine wpAnyH_take (i := 3) (oi := { dst := some 10, op := _, type := _, pos := _, after := _, guard := _ }) (v := ?_) rfl (by kernel_rfl) (by kernel_rfl) (by kernel_rfl) (fun _ _ _ h => h) (Or.inl ⟨by rfl, ?_⟩) hS ?_
  rotate_left
  · (intro w' hSw; go_simp; try with_reducible rfl)
  simp only [Act.put, List.setIfInBounds_toArray, List.set_cons_zero, List.set_cons_succ]
  refine wpAnyH_take (i := 4) (oi := { dst := some 11, op := _, type := _, pos := _, after := _, guard := _ }) (v := ?_) rfl (by kernel_rfl) (by kernel_rfl) (by kernel_rfl) (fun _ _ _ h => h) (Or.inl ⟨by rfl, ?_⟩) hS ?_
  rotate_left
  · (intro w' hSw; go_simp; try with_reducible rfl)
  simp only [Act.put, List.setIfInBounds_toArray, List.set_cons_zero, List.set_cons_succ]
  refine wpAnyH_take (i := 5) (oi := { dst := some 12, op := _, type := _, pos := _, after := _, guard := _ }) (v := ?_) rfl (by kernel_rfl) (by kernel_rfl) (by kernel_rfl) (fun _ _ _ h => h) (Or.inl ⟨by rfl, ?_⟩) hS ?_
  rotate_left
  · (intro w' hSw; go_simp; try with_reducible rfl)
  simp only [Act.put, List.setIfInBounds_toArray, List.set_cons_zero, List.set_cons_succ]
  refine wpAnyH_take (i := 6) (oi := { dst := some 13, op := _, type := _, pos := _, after := _, guard := _ }) (v := ?_) rfl (by kernel_rfl) (by kernel_rfl) (by kernel_rfl) (fun _ _ _ h => h) (Or.inl ⟨by rfl, ?_⟩) hS ?_
  rotate_left
  · (intro w' hSw; go_simp; try with_reducible rfl)
  simp only [Act.put, List.setIfInBounds_toArray, List.set_cons_zero, List.set_cons_succ]
  refine wpAnyH_take (i := 7) (oi := { dst := some 14, op := _, type := _, pos := _, after := _, guard := _ }) rfl (by kernel_rfl) (by kernel_rfl) (by kernel_rfl) (fun _ _ _ h => h) (yl_cell 3 _ bx 0 rfl Try.isAgg3 (by rfl) (by rfl) (fun _ h => h.out.cell (HE.out 0 _ rfl))) hS ?_
  simp only [Act.put, List.setIfInBounds_toArray, List.set_cons_zero, List.set_cons_succ]
  refine wpAnyH_take (i := 8) (oi := { dst := some 15, op := _, type := _, pos := _, after := _, guard := _ }) (v := ?_) rfl (by kernel_rfl) (by kernel_rfl) (by kernel_rfl) (fun _ _ _ h => h) (Or.inl ⟨by rfl, ?_⟩) hS ?_
  rotate_left
  · (intro w' hSw; go_simp; try with_reducible rfl)
  simp only [Act.put, List.setIfInBounds_toArray, List.set_cons_zero, List.set_cons_succ]
  refine wpAnyH_take (i := 9) (oi := { dst := some 16, op := _, type := _, pos := _, after := _, guard := _ }) (v := ?_) rfl (by kernel_rfl) (by kernel_rfl) (by kernel_rfl) (fun _ _ _ h => h) (Or.inl ⟨by rfl, ?_⟩) hS ?_
  rotate_left
  · (intro w' hSw; go_simp; try with_reducible rfl)
  simp only [Act.put, List.setIfInBounds_toArray, List.set_cons_zero, List.set_cons_succ]
  refine wpAnyH_take (i := 10) (oi := { dst := some 17, op := _, type := _, pos := _, after := _, guard := _ }) (v := ?_) rfl (by kernel_rfl) (by kernel_rfl) (by kernel_rfl) (fun _ _ _ h => h) (Or.inl ⟨by rfl, ?_⟩) hS ?_
  rotate_left
  · (intro w' hSw; go_simp; try with_reducible rfl)
  simp only [Act.put, List.setIfInBounds_toArray, List.set_cons_zero, List.set_cons_succ]
  refine wpAnyH_take (i := 11) (oi := { dst := some 18, op := _, type := _, pos := _, after := _, guard := _ }) (v := ?_) rfl (by kernel_rfl) (by kernel_rfl) (by kernel_rfl) (fun _ _ _ h => h) (Or.inl ⟨by rfl, ?_⟩) hS ?_
  rotate_left
  · (intro w' hSw; go_simp; try with_reducible rfl)
  simp only [Act.put, List.setIfInBounds_toArray, List.set_cons_zero, List.set_cons_succ]
  refine wpAnyH_take (i := 12) (oi := { dst := some 19, op := _, type := _, pos := _, after := _, guard := _ }) rfl (by kernel_rfl) (by kernel_rfl) (by kernel_rfl) (fun _ _ _ h => h) (yl_cell 64 _ g 1 rfl Try.isAgg64 (by rfl) (by rfl) (fun _ h => h.out.cell HC1.out)) hS ?_
  simp only [Act.put, List.setIfInBounds_toArray, List.set_cons_zero, List.set_cons_succ]
  refine wpAnyH_take (i := 13) (oi := { dst := some 20, op := _, type := _, pos := _, after := _, guard := _ }) (v := ?_) rfl (by kernel_rfl) (by kernel_rfl) (by kernel_rfl) (fun _ _ _ h => h) (Or.inl ⟨by rfl, ?_⟩) hS ?_
  rotate_left
  · (intro w' hSw; go_simp; try with_reducible rfl)
  simp only [Act.put, List.setIfInBounds_toArray, List.set_cons_zero, List.set_cons_succ]
  refine wpAnyH_take (i := 14) (oi := { dst := some 21, op := _, type := _, pos := _, after := _, guard := _ }) (v := ?_) rfl (by kernel_rfl) (by kernel_rfl) (by kernel_rfl) (fun _ _ _ h => h) (Or.inl ⟨by rfl, ?_⟩) hS ?_
  rotate_left
  · (intro w' hSw; go_simp; try with_reducible rfl)
  simp only [Act.put, List.setIfInBounds_toArray, List.set_cons_zero, List.set_cons_succ]
  refine wpAnyH_done (by kernel_rfl) ?_ _
  replace HC0 := hide (hS.out.cell HC0.out)
  replace HC1 := hide (hS.out.cell HC1.out)
  replace HE := hide (HE.out.keep hS.out)
  replace HK := hide (HK.out.trans' hS.out)
  clear hS
  generalize w0.drew = w0 at HC0 HC1 HE HK ⊢
  have HNL := hide (show ¬ e.t < S.op by omega)
  clear hd hd2 hw h0 hlt HC1
  go_wp2
  go_loopw [5] (fun s5 wr => ∃ k : Nat, k ≤ S.L.length ∧ s5 = .int .i64 k ∧ Hid (∀ m, m < k → (h : m < S.L.length) → decide (ltE S.L[m] e) = true) ∧ Hid (Keeps [] w0 wr)) (fun s5 _ => S.L.length - (intOf s5).toNat)
  case atStart => exact ⟨0, Nat.zero_le _, rfl, hide (fun m h => by omega), hide (Keeps.refl _ _)⟩
  case round =>
    obtain ⟨k, hk, rfl, HP, HR0⟩ := hrel
    have HZ0 := hide HR0.out
    have HKZ := hide HK.out
    have HC1 := hide (show w0.cell? ⟨g, 1, none⟩ = some (.int .u64 (S.op : Int)) from HK.out.cell (HAT.out.blk.cell 1))
    replace HC0 := hide (HR0.out.cell HC0.out)
    replace HC1 := hide (HR0.out.cell HC1.out)
    replace HE := hide (HE.out.keep HR0.out)
    replace HK := hide (HK.out.trans' HR0.out)
    generalize hwo : w0 = wo at HZ0 HKZ
    clear HR0 hwo
    generalize wr = w0 at HC0 HC1 HE HK HZ0 ⊢
    have hk0 : (0 : Int) ≤ (k : Int) := by omega
    by_cases hin : k < S.L.length
    · have hkz : (k : Int) < (S.L.length : Int) := by omega
      have hdk : decide (k < S.L.length) = true := by simp [hin]
      have hck : ¬ c = k := by omega
      have HO := hide (show Own w0 27 18 (.slice A S.L.length c) S.L.length (ecs S.L) from Own.keep HAT.out.own HK.out (by simp))
      rcases Own.addr HO.out with ⟨_, h2, _⟩ | ⟨b, rfl⟩
      · omega
      have HX2 := hide (ev_in HO.out hin)
      have HAE := hide (show S.L[k]? = some S.L[k] from List.getElem?_eq_getElem hin)
      have HLO := hide (fun (hp : ltE S.L[k] e) (m : Nat) (hm : m < k + 1) (hml : m < S.L.length) => show decide (ltE S.L[m] e) = true from by
        by_cases he : m = k
        · subst he; exact decide_eq_true hp
        · exact HP.out m (by omega) hml)
      have HRK := hide (fun (hp : ¬ ltE S.L[k] e) => show rank S.L e = k from cutN_of (fun x => decide (ltE x e)) S.L k (parts_of (fun x => decide (ltE x e)) S.L k hk HP.out (fun m hm hml => by
        by_cases he : m = k
        · subst he; exact decide_eq_false hp
        · cases hq : decide (ltE S.L[m] e) with
          | false => rfl
          | true =>
            have := (HSR.out.mono_lt e) k m (by omega) hml hin hq
            exact absurd (of_decide_eq_true this) hp)))
      have HFA := hide (fnd_at S.L e k hin)
      generalize S.L[k] = x at HX2 HAE HLO HRK HFA
      have HCL := hide (fun (W : World) => rless_any x.t x.s x.n e.t e.s e.n W)
      obtain ⟨r, hr⟩ : ∃ r : Bool, decide (sltI x.t x.s x.n e.t e.s e.n) = r := ⟨_, rfl⟩
      rw [hr] at HCL
      have HRR := hide (show decide (ltE x e) = r from hr)
      clear hr HO
      go_wp2
      refine wp_region_held_drew (S := (fun w' => Hid (Keeps [] w0 w'))) (by kernel_rfl) (hide (Keeps.refl [] w0).drew) (fun hS => ?_)
      refine wpAnyH_take (i := 0) (oi := { dst := some 22, op := _, type := _, pos := _, after := _, guard := _ }) (v := ?_) rfl (by kernel_rfl) (by kernel_rfl) (by kernel_rfl) (fun _ _ _ h => h) (Or.inl ⟨by rfl, ?_⟩) hS ?_
      rotate_left
      · (intro w' hSw; go_simp; try with_reducible rfl)
      simp only [Act.put, List.setIfInBounds_toArray, List.set_cons_zero, List.set_cons_succ]
      refine wpAnyH_take (i := 1) (oi := { dst := some 23, op := _, type := _, pos := _, after := _, guard := _ }) (v := ?_) rfl (by kernel_rfl) (by kernel_rfl) (by kernel_rfl) (fun _ _ _ h => h) (Or.inl ⟨by rfl, ?_⟩) hS ?_
      rotate_left
      · (intro w' hSw; go_simp; try with_reducible rfl)
      simp only [Act.put, List.setIfInBounds_toArray, List.set_cons_zero, List.set_cons_succ]
      refine wpAnyH_take (i := 2) (oi := { dst := some 24, op := _, type := _, pos := _, after := _, guard := _ }) (v := ?_) rfl (by kernel_rfl) (by kernel_rfl) (by kernel_rfl) (fun _ _ _ h => h) (Or.inl ⟨by rfl, ?_⟩) hS ?_
      rotate_left
      · (intro w' hSw; go_simp; try with_reducible rfl)
      simp only [Act.put, List.setIfInBounds_toArray, List.set_cons_zero, List.set_cons_succ]
      refine wpAnyH_take (i := 3) (oi := { dst := some 25, op := _, type := _, pos := _, after := _, guard := _ }) (v := ?_) rfl (by kernel_rfl) (by kernel_rfl) (by kernel_rfl) (fun _ _ _ h => h) (Or.inl ⟨by rfl, ?_⟩) hS ?_
      rotate_left
      · (intro w' hSw; go_simp; try with_reducible rfl)
      simp only [Act.put, List.setIfInBounds_toArray, List.set_cons_zero, List.set_cons_succ]
      refine wpAnyH_take (i := 4) (oi := { dst := some 26, op := _, type := _, pos := _, after := _, guard := _ }) rfl (by kernel_rfl) (by kernel_rfl) (by kernel_rfl) (fun _ _ _ h => h) (yl_cell 55 _ g 0 rfl Try.isAgg55 (by rfl) (by rfl) (fun _ h => h.out.cell HC0.out)) hS ?_
      simp only [Act.put, List.setIfInBounds_toArray, List.set_cons_zero, List.set_cons_succ]
      refine wpAnyH_take (i := 5) (oi := { dst := some 27, op := _, type := _, pos := _, after := _, guard := _ }) (v := ?_) rfl (by kernel_rfl) (by kernel_rfl) (by kernel_rfl) (fun _ _ _ h => h) (Or.inl ⟨by rfl, ?_⟩) hS ?_
      rotate_left
      · (intro w' hSw; go_simp; try with_reducible rfl)
      simp only [Act.put, List.setIfInBounds_toArray, List.set_cons_zero, List.set_cons_succ]
      refine wpAnyH_take (i := 6) (oi := { dst := some 28, op := _, type := _, pos := _, after := _, guard := _ }) (v := ?_) rfl (by kernel_rfl) (by kernel_rfl) (by kernel_rfl) (fun _ _ _ h => h) (Or.inl ⟨by rfl, ?_⟩) hS ?_
      rotate_left
      · (intro w' hSw; go_simp; try with_reducible rfl)
      simp only [Act.put, List.setIfInBounds_toArray, List.set_cons_zero, List.set_cons_succ]
      refine wpAnyH_take (i := 7) (oi := { dst := some 29, op := _, type := _, pos := _, after := _, guard := _ }) (v := ?_) rfl (by kernel_rfl) (by kernel_rfl) (by kernel_rfl) (fun _ _ _ h => h) (Or.inl ⟨by rfl, ?_⟩) hS ?_
      rotate_left
      · (intro w' hSw; go_simp; try with_reducible rfl)
      simp only [Act.put, List.setIfInBounds_toArray, List.set_cons_zero, List.set_cons_succ]
      refine wpAnyH_take (i := 8) (oi := { dst := some 30, op := _, type := _, pos := _, after := _, guard := _ }) (v := ?_) rfl (by kernel_rfl) (by kernel_rfl) (by kernel_rfl) (fun _ _ _ h => h) (Or.inl ⟨by rfl, ?_⟩) hS ?_
      rotate_left
      · (intro w' hSw; go_simp; try with_reducible rfl)
      simp only [Act.put, List.setIfInBounds_toArray, List.set_cons_zero, List.set_cons_succ]
      refine wpAnyH_take (i := 9) (oi := { dst := some 31, op := _, type := _, pos := _, after := _, guard := _ }) (v := ?_) rfl (by kernel_rfl) (by kernel_rfl) (by kernel_rfl) (fun _ _ _ h => h) (Or.inl ⟨by rfl, ?_⟩) hS ?_
      rotate_left
      · (intro w' hSw; go_simp; try with_reducible rfl)
      simp only [Act.put, List.setIfInBounds_toArray, List.set_cons_zero, List.set_cons_succ]
      refine wpAnyH_take (i := 10) (oi := { dst := some 32, op := _, type := _, pos := _, after := _, guard := _ }) (v := ?_) rfl (by kernel_rfl) (by kernel_rfl) (by kernel_rfl) (fun _ _ _ h => h) (Or.inl ⟨by rfl, ?_⟩) hS ?_
      rotate_left
      · (intro w' hSw; go_simp; try with_reducible rfl)
      simp only [Act.put, List.setIfInBounds_toArray, List.set_cons_zero, List.set_cons_succ]
      refine wpAnyH_take (i := 11) (oi := { dst := some 33, op := _, type := _, pos := _, after := _, guard := _ }) rfl (by kernel_rfl) (by kernel_rfl) (by kernel_rfl) (fun _ _ _ h => h) (yl_cell 55 _ g 0 rfl Try.isAgg55 (by rfl) (by rfl) (fun _ h => h.out.cell HC0.out)) hS ?_
      simp only [Act.put, List.setIfInBounds_toArray, List.set_cons_zero, List.set_cons_succ]
      refine wpAnyH_take (i := 12) (oi := { dst := some 34, op := _, type := _, pos := _, after := _, guard := _ }) (v := ?_) rfl (by kernel_rfl) (by kernel_rfl) (by kernel_rfl) (fun _ _ _ h => h) (Or.inl ⟨by rfl, ?_⟩) hS ?_
      rotate_left
      · (intro w' hSw; go_simp; try with_reducible rfl)
      simp only [Act.put, List.setIfInBounds_toArray, List.set_cons_zero, List.set_cons_succ]
      refine wpAnyH_take (i := 13) (oi := { dst := some 35, op := _, type := _, pos := _, after := _, guard := _ }) (v := ?_) rfl (by kernel_rfl) (by kernel_rfl) (by kernel_rfl) (fun _ _ _ h => h) (Or.inl ⟨by rfl, ?_⟩) hS ?_
      rotate_left
      · (intro w' hSw; go_simp; try with_reducible rfl)
      simp only [Act.put, List.setIfInBounds_toArray, List.set_cons_zero, List.set_cons_succ]
      refine wpAnyH_take (i := 14) (oi := { dst := some 36, op := _, type := _, pos := _, after := _, guard := _ }) (v := ?_) rfl (by kernel_rfl) (by kernel_rfl) (by kernel_rfl) (fun _ _ _ h => h) (Or.inl ⟨by rfl, ?_⟩) hS ?_
      rotate_left
      · (intro w' hSw; go_simp; try with_reducible rfl)
      simp only [Act.put, List.setIfInBounds_toArray, List.set_cons_zero, List.set_cons_succ]
      refine wpAnyH_take (i := 15) (oi := { dst := some 37, op := _, type := _, pos := _, after := _, guard := _ }) rfl (by kernel_rfl) (by kernel_rfl) (by kernel_rfl) (fun _ _ _ h => h) (yl_st _ b (k * 18) x.t x.s x.n rfl (by rfl) (by rfl) (fun _ h => HX2.out.st.keep h.out)) hS ?_
      simp only [Act.put, List.setIfInBounds_toArray, List.set_cons_zero, List.set_cons_succ]
      refine wpAnyH_take (i := 16) (oi := { dst := some 38, op := _, type := _, pos := _, after := _, guard := _ }) (v := ?_) rfl (by kernel_rfl) (by kernel_rfl) (by kernel_rfl) (fun _ _ _ h => h) (Or.inl ⟨by rfl, ?_⟩) hS ?_
      rotate_left
      · (intro w' hSw; go_simp; try with_reducible rfl)
      simp only [Act.put, List.setIfInBounds_toArray, List.set_cons_zero, List.set_cons_succ]
      refine wpAnyH_take (i := 17) (oi := { dst := some 39, op := _, type := _, pos := _, after := _, guard := _ }) rfl (by kernel_rfl) (by kernel_rfl) (by kernel_rfl) (fun _ _ _ h => h) (yl_st _ bx 0 e.t e.s e.n rfl (by rfl) (by rfl) (fun _ h => HE.out.st.keep h.out)) hS ?_
      simp only [Act.put, List.setIfInBounds_toArray, List.set_cons_zero, List.set_cons_succ]
      refine wpAnyH_ready (rs := [18]) (by kernel_rfl) (by simp) ?_
      refine AllReadyH.cons (o := { dst := some 40, op := _, type := _, pos := _, after := _, guard := _ }) rfl (fun K hK => ?_) AllReadyH.nil
      go_simp
      refine (HCL.out _).mono ?_
      rintro r2 w2 ⟨rfl, k2⟩
      refine hK.out _ _ (hide (hS.out.trans' k2)) (fun hS => ?_)
      clear hK K
      refine wpAnyH_take (i := 19) (oi := { dst := some 41, op := _, type := _, pos := _, after := _, guard := _ }) (v := ?_) rfl (by kernel_rfl) (by kernel_rfl) (by kernel_rfl) (fun _ _ _ h => h) (Or.inl ⟨by rfl, ?_⟩) hS ?_
      rotate_left
      · (intro w' hSw; go_simp; try with_reducible rfl)
      simp only [Act.put, List.setIfInBounds_toArray, List.set_cons_zero, List.set_cons_succ]
      refine wpAnyH_done (by kernel_rfl) ?_ _
      replace HZ0 := hide (HZ0.out.trans' hS.out)
      replace HC0 := hide (hS.out.cell HC0.out)
      replace HC1 := hide (hS.out.cell HC1.out)
      replace HE := hide (HE.out.keep hS.out)
      replace HK := hide (HK.out.trans' hS.out)
      replace HX2 := hide (HX2.out.keep hS.out)
      clear hS
      generalize w2 = w0 at HC0 HC1 HE HK HX2 HZ0 ⊢
      cases r with
      | true =>
        have HNX := hide (HLO.out (of_decide_eq_true HRR.out))
        clear HLO HRK HCL HRR HX2 HAE HFA
        go_wp2
        go_roundw
        case measure => simp [intOf]; omega
        case rel => exact ⟨k + 1, by omega, by go_num, HNX, HZ0⟩
      | false =>
        have HKK := hide (HRK.out (of_decide_eq_false HRR.out))
        clear HLO HRK HCL HRR HP
        obtain ⟨r, hr⟩ : ∃ r : Bool, decide (x = e) = r := ⟨_, rfl⟩
        have HRR := hide hr
        obtain ⟨q, hq⟩ : ∃ q : Bool, decide (x.t = e.t ∧ x.s = e.s ∧ x.n = e.n) = q := ⟨_, rfl⟩
        have HRQ := hide hq
        have HQE := hide (show fnd S.L e k = q from by rw [HFA.out]; exact hq)
        clear hr hq HFA
        go_wp2
        refine wp_region_held_drew (S := (fun w' => Hid (Keeps [] w0 w'))) (by kernel_rfl) (hide (Keeps.refl [] w0).drew) (fun hS => ?_)
        refine wpAnyH_take (i := 0) (oi := { dst := some 44, op := _, type := _, pos := _, after := _, guard := _ }) (v := ?_) rfl (by kernel_rfl) (by kernel_rfl) (by kernel_rfl) (fun _ _ _ h => h) (Or.inl ⟨by rfl, ?_⟩) hS ?_
        rotate_left
        · (intro w' hSw; go_simp; try with_reducible rfl)
        simp only [Act.put, List.setIfInBounds_toArray, List.set_cons_zero, List.set_cons_succ]
        refine wpAnyH_take (i := 1) (oi := { dst := some 45, op := _, type := _, pos := _, after := _, guard := _ }) (v := ?_) rfl (by kernel_rfl) (by kernel_rfl) (by kernel_rfl) (fun _ _ _ h => h) (Or.inl ⟨by rfl, ?_⟩) hS ?_
        rotate_left
        · (intro w' hSw; go_simp; try with_reducible rfl)
        simp only [Act.put, List.setIfInBounds_toArray, List.set_cons_zero, List.set_cons_succ]
        refine wpAnyH_take (i := 2) (oi := { dst := some 46, op := _, type := _, pos := _, after := _, guard := _ }) (v := ?_) rfl (by kernel_rfl) (by kernel_rfl) (by kernel_rfl) (fun _ _ _ h => h) (Or.inl ⟨by rfl, ?_⟩) hS ?_
        rotate_left
        · (intro w' hSw; go_simp; try with_reducible rfl)
        simp only [Act.put, List.setIfInBounds_toArray, List.set_cons_zero, List.set_cons_succ]
        refine wpAnyH_take (i := 3) (oi := { dst := some 47, op := _, type := _, pos := _, after := _, guard := _ }) (v := ?_) rfl (by kernel_rfl) (by kernel_rfl) (by kernel_rfl) (fun _ _ _ h => h) (Or.inl ⟨by rfl, ?_⟩) hS ?_
        rotate_left
        · (intro w' hSw; go_simp; try with_reducible rfl)
        simp only [Act.put, List.setIfInBounds_toArray, List.set_cons_zero, List.set_cons_succ]
        refine wpAnyH_take (i := 4) (oi := { dst := some 48, op := _, type := _, pos := _, after := _, guard := _ }) rfl (by kernel_rfl) (by kernel_rfl) (by kernel_rfl) (fun _ _ _ h => h) (yl_cell 55 _ g 0 rfl Try.isAgg55 (by rfl) (by rfl) (fun _ h => h.out.cell HC0.out)) hS ?_
        simp only [Act.put, List.setIfInBounds_toArray, List.set_cons_zero, List.set_cons_succ]
        refine wpAnyH_take (i := 5) (oi := { dst := some 49, op := _, type := _, pos := _, after := _, guard := _ }) (v := ?_) rfl (by kernel_rfl) (by kernel_rfl) (by kernel_rfl) (fun _ _ _ h => h) (Or.inl ⟨by rfl, ?_⟩) hS ?_
        rotate_left
        · (intro w' hSw; go_simp; try with_reducible rfl)
        simp only [Act.put, List.setIfInBounds_toArray, List.set_cons_zero, List.set_cons_succ]
        refine wpAnyH_take (i := 6) (oi := { dst := some 50, op := _, type := _, pos := _, after := _, guard := _ }) (v := ?_) rfl (by kernel_rfl) (by kernel_rfl) (by kernel_rfl) (fun _ _ _ h => h) (Or.inl ⟨by rfl, ?_⟩) hS ?_
        rotate_left
        · (intro w' hSw; go_simp; try with_reducible rfl)
        simp only [Act.put, List.setIfInBounds_toArray, List.set_cons_zero, List.set_cons_succ]
        refine wpAnyH_take (i := 7) (oi := { dst := some 51, op := _, type := _, pos := _, after := _, guard := _ }) (v := ?_) rfl (by kernel_rfl) (by kernel_rfl) (by kernel_rfl) (fun _ _ _ h => h) (Or.inl ⟨by rfl, ?_⟩) hS ?_
        rotate_left
        · (intro w' hSw; go_simp; try with_reducible rfl)
        simp only [Act.put, List.setIfInBounds_toArray, List.set_cons_zero, List.set_cons_succ]
        refine wpAnyH_take (i := 8) (oi := { dst := some 52, op := _, type := _, pos := _, after := _, guard := _ }) (v := ?_) rfl (by kernel_rfl) (by kernel_rfl) (by kernel_rfl) (fun _ _ _ h => h) (Or.inl ⟨by rfl, ?_⟩) hS ?_
        rotate_left
        · (intro w' hSw; go_simp; try with_reducible rfl)
        simp only [Act.put, List.setIfInBounds_toArray, List.set_cons_zero, List.set_cons_succ]
        refine wpAnyH_take (i := 9) (oi := { dst := some 53, op := _, type := _, pos := _, after := _, guard := _ }) (v := ?_) rfl (by kernel_rfl) (by kernel_rfl) (by kernel_rfl) (fun _ _ _ h => h) (Or.inl ⟨by rfl, ?_⟩) hS ?_
        rotate_left
        · (intro w' hSw; go_simp; try with_reducible rfl)
        simp only [Act.put, List.setIfInBounds_toArray, List.set_cons_zero, List.set_cons_succ]
        refine wpAnyH_take (i := 10) (oi := { dst := some 54, op := _, type := _, pos := _, after := _, guard := _ }) (v := ?_) rfl (by kernel_rfl) (by kernel_rfl) (by kernel_rfl) (fun _ _ _ h => h) (Or.inl ⟨by rfl, ?_⟩) hS ?_
        rotate_left
        · (intro w' hSw; go_simp; try with_reducible rfl)
        simp only [Act.put, List.setIfInBounds_toArray, List.set_cons_zero, List.set_cons_succ]
        refine wpAnyH_take (i := 11) (oi := { dst := some 55, op := _, type := _, pos := _, after := _, guard := _ }) rfl (by kernel_rfl) (by kernel_rfl) (by kernel_rfl) (fun _ _ _ h => h) (yl_cell 55 _ g 0 rfl Try.isAgg55 (by rfl) (by rfl) (fun _ h => h.out.cell HC0.out)) hS ?_
        simp only [Act.put, List.setIfInBounds_toArray, List.set_cons_zero, List.set_cons_succ]
        refine wpAnyH_take (i := 12) (oi := { dst := some 56, op := _, type := _, pos := _, after := _, guard := _ }) (v := ?_) rfl (by kernel_rfl) (by kernel_rfl) (by kernel_rfl) (fun _ _ _ h => h) (Or.inl ⟨by rfl, ?_⟩) hS ?_
        rotate_left
        · (intro w' hSw; go_simp; try with_reducible rfl)
        simp only [Act.put, List.setIfInBounds_toArray, List.set_cons_zero, List.set_cons_succ]
        refine wpAnyH_take (i := 13) (oi := { dst := some 57, op := _, type := _, pos := _, after := _, guard := _ }) (v := ?_) rfl (by kernel_rfl) (by kernel_rfl) (by kernel_rfl) (fun _ _ _ h => h) (Or.inl ⟨by rfl, ?_⟩) hS ?_
        rotate_left
        · (intro w' hSw; go_simp; try with_reducible rfl)
        simp only [Act.put, List.setIfInBounds_toArray, List.set_cons_zero, List.set_cons_succ]
        refine wpAnyH_take (i := 14) (oi := { dst := some 58, op := _, type := _, pos := _, after := _, guard := _ }) rfl (by kernel_rfl) (by kernel_rfl) (by kernel_rfl) (fun _ _ _ h => h) (yl_ev _ b (k * 18) x rfl (by rfl) (by rfl) (fun _ h => HX2.out.keep h.out)) hS ?_
        simp only [Act.put, List.setIfInBounds_toArray, List.set_cons_zero, List.set_cons_succ]
        refine wpAnyH_take (i := 15) (oi := { dst := some 59, op := _, type := _, pos := _, after := _, guard := _ }) rfl (by kernel_rfl) (by kernel_rfl) (by kernel_rfl) (fun _ _ _ h => h) (yl_ev _ bx 0 e rfl (by rfl) (by rfl) (fun _ h => HE.out.keep h.out)) hS ?_
        simp only [Act.put, List.setIfInBounds_toArray, List.set_cons_zero, List.set_cons_succ]
        refine wpAnyH_take (i := 16) (oi := { dst := some 60, op := _, type := _, pos := _, after := _, guard := _ }) rfl (by kernel_rfl) (by kernel_rfl) (by kernel_rfl) (fun _ _ _ h => h) (yl_eqr _ _ x e r HRR.out rfl (by rfl) (by rfl) (by rfl)) hS ?_
        simp only [Act.put, List.setIfInBounds_toArray, List.set_cons_zero, List.set_cons_succ]
        refine wpAnyH_take (i := 17) (oi := { dst := some 61, op := _, type := _, pos := _, after := _, guard := _ }) (v := ?_) rfl (by kernel_rfl) (by kernel_rfl) (by kernel_rfl) (fun _ _ _ h => h) (Or.inl ⟨by rfl, ?_⟩) hS ?_
        rotate_left
        · (intro w' hSw; go_simp; try with_reducible rfl)
        simp only [Act.put, List.setIfInBounds_toArray, List.set_cons_zero, List.set_cons_succ]
        refine wpAnyH_done (by kernel_rfl) ?_ _
        replace HC0 := hide (hS.out.cell HC0.out)
        replace HC1 := hide (hS.out.cell HC1.out)
        replace HE := hide (HE.out.keep hS.out)
        replace HK := hide (HK.out.trans' hS.out)
        replace HX2 := hide (HX2.out.keep hS.out)
        clear hS
        generalize w0.drew = w0 at HC0 HC1 HE HK HX2 ⊢
        cases r with
        | true =>
          have hxe : x = e := of_decide_eq_true HRR.out
          have HQ2 := hide (show q = true by rw [← HRQ.out]; simp [hxe])
          have HE2 := hide (takeE_twice (S := S) (e := e) (by have := HNL.out; omega) (by rw [HKK.out, HQE.out, HQ2.out]) (by rw [HKK.out, HAE.out, hxe]))
          have HR := hide (took_none HL.out HK.out (by rw [HE2.out]; decide))
          clear HL HAT hxe HRR HRQ HQE HQ2 HX2 HAE HC0 HC1 HE HZ0 HKZ
          go_wp2
          go_ret
          exact ⟨by rw [HE2.out]; rfl, HR.out⟩
        | false =>
          have HXE := hide (show ¬ x = e from of_decide_eq_false HRR.out)
          clear HRR
          go_wp2
          refine wp_region_held_drew (S := (fun w' => Hid (Keeps [] w0 w'))) (by kernel_rfl) (hide (Keeps.refl [] w0).drew) (fun hS => ?_)
          refine wpAnyH_take (i := 0) (oi := { dst := some 62, op := _, type := _, pos := _, after := _, guard := _ }) (v := ?_) rfl (by kernel_rfl) (by kernel_rfl) (by kernel_rfl) (fun _ _ _ h => h) (Or.inl ⟨by rfl, ?_⟩) hS ?_
          rotate_left
          · (intro w' hSw; go_simp; try with_reducible rfl)
          simp only [Act.put, List.setIfInBounds_toArray, List.set_cons_zero, List.set_cons_succ]
          refine wpAnyH_take (i := 1) (oi := { dst := some 63, op := _, type := _, pos := _, after := _, guard := _ }) (v := ?_) rfl (by kernel_rfl) (by kernel_rfl) (by kernel_rfl) (fun _ _ _ h => h) (Or.inl ⟨by rfl, ?_⟩) hS ?_
          rotate_left
          · (intro w' hSw; go_simp; try with_reducible rfl)
          simp only [Act.put, List.setIfInBounds_toArray, List.set_cons_zero, List.set_cons_succ]
          refine wpAnyH_take (i := 2) (oi := { dst := some 64, op := _, type := _, pos := _, after := _, guard := _ }) (v := ?_) rfl (by kernel_rfl) (by kernel_rfl) (by kernel_rfl) (fun _ _ _ h => h) (Or.inl ⟨by rfl, ?_⟩) hS ?_
          rotate_left
          · (intro w' hSw; go_simp; try with_reducible rfl)
          simp only [Act.put, List.setIfInBounds_toArray, List.set_cons_zero, List.set_cons_succ]
          refine wpAnyH_take (i := 3) (oi := { dst := some 65, op := _, type := _, pos := _, after := _, guard := _ }) (v := ?_) rfl (by kernel_rfl) (by kernel_rfl) (by kernel_rfl) (fun _ _ _ h => h) (Or.inl ⟨by rfl, ?_⟩) hS ?_
          rotate_left
          · (intro w' hSw; go_simp; try with_reducible rfl)
          simp only [Act.put, List.setIfInBounds_toArray, List.set_cons_zero, List.set_cons_succ]
          refine wpAnyH_take (i := 4) (oi := { dst := some 66, op := _, type := _, pos := _, after := _, guard := _ }) rfl (by kernel_rfl) (by kernel_rfl) (by kernel_rfl) (fun _ _ _ h => h) (yl_cell 55 _ g 0 rfl Try.isAgg55 (by rfl) (by rfl) (fun _ h => h.out.cell HC0.out)) hS ?_
          simp only [Act.put, List.setIfInBounds_toArray, List.set_cons_zero, List.set_cons_succ]
          refine wpAnyH_take (i := 5) (oi := { dst := some 67, op := _, type := _, pos := _, after := _, guard := _ }) (v := ?_) rfl (by kernel_rfl) (by kernel_rfl) (by kernel_rfl) (fun _ _ _ h => h) (Or.inl ⟨by rfl, ?_⟩) hS ?_
          rotate_left
          · (intro w' hSw; go_simp; try with_reducible rfl)
          simp only [Act.put, List.setIfInBounds_toArray, List.set_cons_zero, List.set_cons_succ]
          refine wpAnyH_take (i := 6) (oi := { dst := some 68, op := _, type := _, pos := _, after := _, guard := _ }) (v := ?_) rfl (by kernel_rfl) (by kernel_rfl) (by kernel_rfl) (fun _ _ _ h => h) (Or.inl ⟨by rfl, ?_⟩) hS ?_
          rotate_left
          · (intro w' hSw; go_simp; try with_reducible rfl)
          simp only [Act.put, List.setIfInBounds_toArray, List.set_cons_zero, List.set_cons_succ]
          refine wpAnyH_take (i := 7) (oi := { dst := some 69, op := _, type := _, pos := _, after := _, guard := _ }) (v := ?_) rfl (by kernel_rfl) (by kernel_rfl) (by kernel_rfl) (fun _ _ _ h => h) (Or.inl ⟨by rfl, ?_⟩) hS ?_
          rotate_left
          · (intro w' hSw; go_simp; try with_reducible rfl)
          simp only [Act.put, List.setIfInBounds_toArray, List.set_cons_zero, List.set_cons_succ]
          refine wpAnyH_take (i := 8) (oi := { dst := some 70, op := _, type := _, pos := _, after := _, guard := _ }) (v := ?_) rfl (by kernel_rfl) (by kernel_rfl) (by kernel_rfl) (fun _ _ _ h => h) (Or.inl ⟨by rfl, ?_⟩) hS ?_
          rotate_left
          · (intro w' hSw; go_simp; try with_reducible rfl)
          simp only [Act.put, List.setIfInBounds_toArray, List.set_cons_zero, List.set_cons_succ]
          refine wpAnyH_take (i := 9) (oi := { dst := some 71, op := _, type := _, pos := _, after := _, guard := _ }) (v := ?_) rfl (by kernel_rfl) (by kernel_rfl) (by kernel_rfl) (fun _ _ _ h => h) (Or.inl ⟨by rfl, ?_⟩) hS ?_
          rotate_left
          · (intro w' hSw; go_simp; try with_reducible rfl)
          simp only [Act.put, List.setIfInBounds_toArray, List.set_cons_zero, List.set_cons_succ]
          refine wpAnyH_take (i := 10) (oi := { dst := some 72, op := _, type := _, pos := _, after := _, guard := _ }) (v := ?_) rfl (by kernel_rfl) (by kernel_rfl) (by kernel_rfl) (fun _ _ _ h => h) (Or.inl ⟨by rfl, ?_⟩) hS ?_
          rotate_left
          · (intro w' hSw; go_simp; try with_reducible rfl)
          simp only [Act.put, List.setIfInBounds_toArray, List.set_cons_zero, List.set_cons_succ]
          refine wpAnyH_take (i := 11) (oi := { dst := some 73, op := _, type := _, pos := _, after := _, guard := _ }) rfl (by kernel_rfl) (by kernel_rfl) (by kernel_rfl) (fun _ _ _ h => h) (yl_cell 55 _ g 0 rfl Try.isAgg55 (by rfl) (by rfl) (fun _ h => h.out.cell HC0.out)) hS ?_
          simp only [Act.put, List.setIfInBounds_toArray, List.set_cons_zero, List.set_cons_succ]
          refine wpAnyH_take (i := 12) (oi := { dst := some 74, op := _, type := _, pos := _, after := _, guard := _ }) (v := ?_) rfl (by kernel_rfl) (by kernel_rfl) (by kernel_rfl) (fun _ _ _ h => h) (Or.inl ⟨by rfl, ?_⟩) hS ?_
          rotate_left
          · (intro w' hSw; go_simp; try with_reducible rfl)
          simp only [Act.put, List.setIfInBounds_toArray, List.set_cons_zero, List.set_cons_succ]
          refine wpAnyH_take (i := 13) (oi := { dst := some 75, op := _, type := _, pos := _, after := _, guard := _ }) (v := ?_) rfl (by kernel_rfl) (by kernel_rfl) (by kernel_rfl) (fun _ _ _ h => h) (Or.inl ⟨by rfl, ?_⟩) hS ?_
          rotate_left
          · (intro w' hSw; go_simp; try with_reducible rfl)
          simp only [Act.put, List.setIfInBounds_toArray, List.set_cons_zero, List.set_cons_succ]
          refine wpAnyH_take (i := 14) (oi := { dst := some 76, op := _, type := _, pos := _, after := _, guard := _ }) (v := ?_) rfl (by kernel_rfl) (by kernel_rfl) (by kernel_rfl) (fun _ _ _ h => h) (Or.inl ⟨by rfl, ?_⟩) hS ?_
          rotate_left
          · (intro w' hSw; go_simp; try with_reducible rfl)
          simp only [Act.put, List.setIfInBounds_toArray, List.set_cons_zero, List.set_cons_succ]
          refine wpAnyH_take (i := 15) (oi := { dst := some 77, op := _, type := _, pos := _, after := _, guard := _ }) rfl (by kernel_rfl) (by kernel_rfl) (by kernel_rfl) (fun _ _ _ h => h) (yl_st _ b (k * 18) x.t x.s x.n rfl (by rfl) (by rfl) (fun _ h => HX2.out.st.keep h.out)) hS ?_
          simp only [Act.put, List.setIfInBounds_toArray, List.set_cons_zero, List.set_cons_succ]
          refine wpAnyH_take (i := 16) (oi := { dst := some 78, op := _, type := _, pos := _, after := _, guard := _ }) (v := ?_) rfl (by kernel_rfl) (by kernel_rfl) (by kernel_rfl) (fun _ _ _ h => h) (Or.inl ⟨by rfl, ?_⟩) hS ?_
          rotate_left
          · (intro w' hSw; go_simp; try with_reducible rfl)
          simp only [Act.put, List.setIfInBounds_toArray, List.set_cons_zero, List.set_cons_succ]
          refine wpAnyH_take (i := 17) (oi := { dst := some 79, op := _, type := _, pos := _, after := _, guard := _ }) rfl (by kernel_rfl) (by kernel_rfl) (by kernel_rfl) (fun _ _ _ h => h) (yl_st _ bx 0 e.t e.s e.n rfl (by rfl) (by rfl) (fun _ h => HE.out.st.keep h.out)) hS ?_
          simp only [Act.put, List.setIfInBounds_toArray, List.set_cons_zero, List.set_cons_succ]
          refine wpAnyH_take (i := 18) (oi := { dst := some 80, op := _, type := _, pos := _, after := _, guard := _ }) rfl (by kernel_rfl) (by kernel_rfl) (by kernel_rfl) (fun _ _ _ h => h) (yl_eqsr _ _ x.t x.s x.n e.t e.s e.n q HRQ.out rfl (by rfl) (by rfl) (by rfl)) hS ?_
          simp only [Act.put, List.setIfInBounds_toArray, List.set_cons_zero, List.set_cons_succ]
          refine wpAnyH_take (i := 19) (oi := { dst := some 81, op := _, type := _, pos := _, after := _, guard := _ }) (v := ?_) rfl (by kernel_rfl) (by kernel_rfl) (by kernel_rfl) (fun _ _ _ h => h) (Or.inl ⟨by rfl, ?_⟩) hS ?_
          rotate_left
          · (intro w' hSw; go_simp; try with_reducible rfl)
          simp only [Act.put, List.setIfInBounds_toArray, List.set_cons_zero, List.set_cons_succ]
          refine wpAnyH_done (by kernel_rfl) ?_ _
          replace HC0 := hide (hS.out.cell HC0.out)
          replace HC1 := hide (hS.out.cell HC1.out)
          replace HE := hide (HE.out.keep hS.out)
          replace HK := hide (HK.out.trans' hS.out)
          replace HX2 := hide (HX2.out.keep hS.out)
          clear hS
          generalize w0.drew = w0 at HC0 HC1 HE HK HX2 ⊢
          cases q with
          | true =>
            have HE2 := hide (takeE_old (S := S) (e := e) (by have := HNL.out; omega) (by rw [HKK.out, HQE.out]) (by rw [HKK.out, HAE.out]; simp; exact HXE.out))
            have HR := hide (took_none HL.out HK.out (by rw [HE2.out]; decide))
            clear HL HAT HXE HRQ HQE HX2 HAE HC0 HC1 HE HZ0 HKZ
            go_wp2
            go_ret
            exact ⟨by rw [HE2.out]; rfl, HR.out⟩
          | false =>
            clear HXE HRQ HX2 HAE
            have d0 := HC0.out
            by_cases hl : 20000 ≤ S.L.length
            · have hdl : decide (20000 ≤ S.L.length) = true := by simp [hl]
              have hdl2 : (20000 : Int) ≤ (S.L.length : Int) := by omega
              have hdl3 : decide ((20000 : Int) ≤ (S.L.length : Int)) = true := by simp; omega
              have HE2 := hide (takeE_many (S := S) (e := e) (by have := HNL.out; omega) (by rw [HKK.out]; exact HQE.out) hl)
              have HR := hide (took_none HL.out HK.out (by rw [HE2.out]; decide))
              clear HL HAT HC0 HC1 HE HZ0 HKZ
              go_wp2
              go_ret
              exact ⟨by rw [HE2.out]; rfl, HR.out⟩
            have hdl : decide (20000 ≤ S.L.length) = false := by simp; omega
            have hdl2 : ¬ (20000 : Int) ≤ (S.L.length : Int) := by omega
            have hdl3 : decide ((20000 : Int) ≤ (S.L.length : Int)) = false := by simp; omega
            have HE2 := hide (takeE_ok (S := S) (e := e) (by have := HNL.out; omega) (by rw [HKK.out]; exact HQE.out) hl)
            clear HL HZ0 HKZ
            go_wp2
            clear d0 hdl hdl2 hdl3 hl
            have z1 : (k : Int) ≤ (c : Int) := by omega
            have z2 : (k : Int) ≤ (S.L.length : Int) := by omega
            have hlk : (S.L.take k).length = k := by rw [List.length_take]; omega
            have hlk2 : (S.L.drop k).length = S.L.length - k := by rw [List.length_drop]
            have HLK := hide (And.intro hlk hlk2)
            clear hlk hlk2
            have HO := hide (show Own w0 27 18 (.slice (some ⟨b, 0, none⟩) S.L.length c) S.L.length (ecs S.L) from Own.keep HAT.out.own HK.out (by simp))
            refine wp_region_held_drew (S := (fun w' => Hid (Keeps [] w0 w'))) (by kernel_rfl) (hide (Keeps.refl [] w0).drew) (fun hS => ?_)
            refine wpAnyH_take (i := 0) (oi := { dst := some 88, op := _, type := _, pos := _, after := _, guard := _ }) rfl (by kernel_rfl) (by kernel_rfl) (by kernel_rfl) (fun _ _ _ h => h) (yl_ev _ bx 0 e rfl (by rfl) (by rfl) (fun _ h => HE.out.keep h.out)) hS ?_
            simp only [Act.put, List.setIfInBounds_toArray, List.set_cons_zero, List.set_cons_succ]
            refine wpAnyH_take (i := 2) (oi := { dst := some 90, op := _, type := _, pos := _, after := _, guard := _ }) (v := ?_) rfl (by kernel_rfl) (by kernel_rfl) (by kernel_rfl) (fun _ _ _ h => h) (Or.inl ⟨by rfl, ?_⟩) hS ?_
            rotate_left
            · (intro w' hSw; go_simp; try with_reducible rfl)
            simp only [Act.put, List.setIfInBounds_toArray, List.set_cons_zero, List.set_cons_succ]
            refine wpAnyH_take (i := 3) (oi := { dst := some 91, op := _, type := _, pos := _, after := _, guard := _ }) (v := ?_) rfl (by kernel_rfl) (by kernel_rfl) (by kernel_rfl) (fun _ _ _ h => h) (Or.inl ⟨by rfl, ?_⟩) hS ?_
            rotate_left
            · (intro w' hSw; go_simp; try with_reducible rfl)
            simp only [Act.put, List.setIfInBounds_toArray, List.set_cons_zero, List.set_cons_succ]
            refine wpAnyH_take (i := 4) (oi := { dst := some 92, op := _, type := _, pos := _, after := _, guard := _ }) (v := ?_) rfl (by kernel_rfl) (by kernel_rfl) (by kernel_rfl) (fun _ _ _ h => h) (Or.inl ⟨by rfl, ?_⟩) hS ?_
            rotate_left
            · (intro w' hSw; go_simp; try with_reducible rfl)
            simp only [Act.put, List.setIfInBounds_toArray, List.set_cons_zero, List.set_cons_succ]
            refine wpAnyH_take (i := 5) (oi := { dst := some 93, op := _, type := _, pos := _, after := _, guard := _ }) rfl (by kernel_rfl) (by kernel_rfl) (by kernel_rfl) (fun _ _ _ h => h) (yl_cell 55 _ g 0 rfl Try.isAgg55 (by rfl) (by rfl) (fun _ h => h.out.cell HC0.out)) hS ?_
            simp only [Act.put, List.setIfInBounds_toArray, List.set_cons_zero, List.set_cons_succ]
            refine wpAnyH_take (i := 6) (oi := { dst := some 94, op := _, type := _, pos := _, after := _, guard := _ }) (v := ?_) rfl (by kernel_rfl) (by kernel_rfl) (by kernel_rfl) (fun _ _ _ h => h) (Or.inl ⟨by rfl, ?_⟩) hS ?_
            rotate_left
            · (intro w' hSw; go_simp; try with_reducible rfl)
            simp only [Act.put, List.setIfInBounds_toArray, List.set_cons_zero, List.set_cons_succ]
            refine wpAnyH_take (i := 7) (oi := { dst := some 95, op := _, type := _, pos := _, after := _, guard := _ }) (v := ?_) rfl (by kernel_rfl) (by kernel_rfl) (by kernel_rfl) (fun _ _ _ h => h) (Or.inl ⟨by rfl, ?_⟩) hS ?_
            rotate_left
            · (intro w' hSw; go_simp; try with_reducible rfl)
            simp only [Act.put, List.setIfInBounds_toArray, List.set_cons_zero, List.set_cons_succ]
            refine wpAnyH_ready (rs := [1]) (by kernel_rfl) (by simp) ?_
            refine AllReadyH.cons (o := { dst := some 89, op := _, type := _, pos := _, after := _, guard := _ }) rfl (fun K hK => ?_) AllReadyH.nil
            refine step_build1 _ e rfl (by rfl) (by rfl) ?_
            refine hK.out _ _ (hide (hS.out.alloc _)) (fun hS => ?_)
            clear hK K
            simp only [Act.put, List.setIfInBounds_toArray, List.set_cons_zero, List.set_cons_succ]
            have HSR2 := hide (show Src (w0.drew.alloc (.cells (ec e).toArray 27)) 18 (.slice (some ⟨b, k * 18, none⟩) (S.L.length - k) (c - k)) (S.L.length - k) (ecs (S.L.drop k)) from by
              have h1 := ES.back (Own.src HO.out) k
              rw [Addr.add_lit, Nat.zero_add] at h1
              exact Src.keep h1 hS.out (by simp))
            have HOE := hide (show Own (w0.drew.alloc (.cells (ec e).toArray 27)) 27 18 (.slice (some ⟨w0.drew.heap.size, 0, none⟩) 1 1) 1 (ec e) from own_of (Bk.new w0.drew 27 (ec e).toArray) rfl (Nat.le_refl _) (by unfold maxLen; omega) rfl rfl)
            have HNE := hide (show New w0 (.slice (some ⟨w0.drew.heap.size, 0, none⟩) 1 1) from fun b hb => by
              have : w0.drew.heap.size = b := by simpa [Value.ownBlock] using hb
              rw [← this]; exact Nat.le_refl _)
            refine wpAnyH_ready (rs := [8]) (by kernel_rfl) (by simp) ?_
            refine AllReadyH.cons (o := { dst := some 96, op := _, type := _, pos := _, after := _, guard := _ }) rfl (fun K hK => ?_) AllReadyH.nil
            refine step_append_src _ (by rfl) _ _ _ (by rfl) 27 i0 _ 18 152 Try.underlying55 HI0.out.1 HI0.out.2.1 HI0.out.2.2.1 HI0.out.2.2.2 rfl (by omega) (.slice (some ⟨w0.drew.heap.size, 0, none⟩) 1 1) (1) (ec e) (by rfl) (HOE.out) (.slice (some ⟨b, k * 18, none⟩) (S.L.length - k) (c - k)) (S.L.length - k) (ecs (S.L.drop k)) (by rfl) (HSR2.out) (ecs_one _) (by unfold maxLen; omega) (by omega) ?_
            intro v6 w6 hown hgrow hblk
            obtain ⟨k6, n6⟩ := step_new hS.out HNE.out hgrow hblk
            obtain ⟨A6, c6, rfl⟩ := Own.slice hown
            refine hK.out _ _ (hide k6) (fun hS => ?_)
            clear hK K
            simp only [Act.put, List.setIfInBounds_toArray, List.set_cons_zero, List.set_cons_succ]
            refine wpAnyH_take (i := 9) (oi := { dst := some 6, op := _, type := _, pos := _, after := _, guard := _ }) (v := ?_) rfl (by kernel_rfl) (by kernel_rfl) (by kernel_rfl) (fun _ _ _ h => h) (Or.inl ⟨by rfl, ?_⟩) hS ?_
            rotate_left
            · (intro w' hSw; go_simp; try with_reducible rfl)
            simp only [Act.put, List.setIfInBounds_toArray, List.set_cons_zero, List.set_cons_succ]
            refine wpAnyH_done (by kernel_rfl) ?_ _
            have HV6 := hide (And.intro hown n6)
            clear hown hgrow hblk k6 n6 HOE HNE HSR2 HSR
            have HK6 := hide (hS.out)
            have HO6 := hide (Own.keep HO.out HK6.out (by simp))
            have d6 : w6.cell? ⟨g, 0, none⟩ = some (.slice (some ⟨b, 0, none⟩) S.L.length c) := HK6.out.cell HC0.out
            obtain ⟨g1, g2, g3⟩ := fresh_row w6
            have HF := hide (And.intro g1 (And.intro g2 g3))
            have d7 := g3.cell d6
            have HS7 := hide (Src.keep (ES.front (Own.src HO6.out) k hk) g3 (by simp))
            have HV7 := hide (Own.keep HV6.out.1 g3 (by simp))
            clear g1 g2 g3 hS HE HC1
            go_wp2_with (with_reducible refine Halt.append ?_)
            refine Halt.on ?_
            refine wpList_append_src _ rfl _ _ _ rfl 27 i0 _ 18 152 Try.underlying55 HI0.out.1 HI0.out.2.1 HI0.out.2.2.1 HI0.out.2.2.2 rfl (by omega) (.slice (some ⟨w6.heap.size, 0, none⟩) 0 0) (0) ([]) rfl (HF.out.1) (.slice (some ⟨b, 0, none⟩) (k) (c)) (k) (ecs (S.L.take k)) rfl (HS7.out) (ecs_one _) (by unfold maxLen; omega) (by omega) ?_
            intro v8 w8 hown hgrow hblk
            obtain ⟨k8, n8⟩ := step_new HF.out.2.2 HF.out.2.1 hgrow hblk
            rw [Nat.zero_add, List.nil_append] at hown
            obtain ⟨A8, c8, rfl⟩ := Own.slice hown
            have HV8 := hide hown
            have HN8 := hide n8
            have HK8 := hide k8
            have HR8 := hide (Own.keep HV6.out.1 k8 (by simp))
            clear hown hgrow hblk k8 n8 HF HS7 HV7 d7
            go_wp2_with (with_reducible refine Halt.append ?_)
            refine Halt.on ?_
            refine wpList_append_src _ rfl _ _ _ rfl 27 i0 _ 18 152 Try.underlying55 HI0.out.1 HI0.out.2.1 HI0.out.2.2.1 HI0.out.2.2.2 rfl (by omega) (.slice A8 k c8) (k) (ecs (S.L.take k)) rfl (HV8.out) (.slice A6 (1 + (S.L.length - k)) (c6)) (1 + (S.L.length - k)) (ec e ++ ecs (S.L.drop k)) rfl ((Own.src HR8.out)) (fun u hu => by rw [List.mem_append] at hu; exact hu.elim (ec_one e u) (ecs_one _ u)) (by unfold maxLen; omega) (by omega) ?_
            intro v9 w9 hown hgrow hblk
            obtain ⟨k9, n9⟩ := step_new HK8.out HN8.out hgrow hblk
            obtain ⟨A9, c9, rfl⟩ := Own.slice hown
            have HK9 := hide (HK6.out.trans' k9)
            have d9 : w9.cell? ⟨g, 0, none⟩ = some (.slice (some ⟨b, 0, none⟩) S.L.length c) := k9.cell d6
            have f9 : w9.frozen? ⟨g, 0, none⟩ = false := (HAT.out.blk.keep (HK.out.trans' HK9.out) (by simp)).free 0
            have HR := hide (took_mk (v := .slice A9 (k + (1 + (S.L.length - k))) c9) (by decide) HAT.out HK.out HE2.out (by
              rw [HKK.out, insL_cells, show S.L.length + 1 = k + (1 + (S.L.length - k)) by omega]
              exact hown) (by
              rcases A9 with _ | ad
              · cases hown.2 with
                | inl h => exact absurd h.2 (by omega)
                | inr h => obtain ⟨g', cap, cur, h1, _⟩ := h; cases h1
              · exact .inr ⟨ad.block, rfl, Nat.le_trans (Nat.le_trans HK.out.size HK6.out.size) (n9 ad.block rfl)⟩) HK9.out.nil)
            clear hown hgrow hblk k9 n9 HV8 HN8 HR8 HV6 HO6 HO
            clear d6
            go_wp2
            go_ret
            exact ⟨by rw [HE2.out]; rfl, HR.out⟩
    · have hkz : ¬ (k : Int) < (S.L.length : Int) := by omega
      have hdk : decide (k < S.L.length) = false := by simp [hin]
      have HKK := hide (show rank S.L e = k from cutN_of (fun x => decide (ltE x e)) S.L k (parts_of (fun x => decide (ltE x e)) S.L k hk HP.out (fun m hm hml => by omega)))
      have HQE := hide (fnd_end S.L e k hin)
      clear HP
      go_wp2
      refine wp_region_held_drew (S := (fun w' => Hid (Keeps [] w0 w'))) (by kernel_rfl) (hide (Keeps.refl [] w0).drew) (fun hS => ?_)
      refine wpAnyH_take (i := 0) (oi := { dst := some 22, op := _, type := _, pos := _, after := _, guard := _ }) (v := ?_) rfl (by kernel_rfl) (by kernel_rfl) (by kernel_rfl) (fun _ _ _ h => h) (Or.inl ⟨by rfl, ?_⟩) hS ?_
      rotate_left
      · (intro w' hSw; go_simp; try with_reducible rfl)
      simp only [Act.put, List.setIfInBounds_toArray, List.set_cons_zero, List.set_cons_succ]
      refine wpAnyH_take (i := 1) (oi := { dst := some 23, op := _, type := _, pos := _, after := _, guard := _ }) (v := ?_) rfl (by kernel_rfl) (by kernel_rfl) (by kernel_rfl) (fun _ _ _ h => h) (Or.inl ⟨by rfl, ?_⟩) hS ?_
      rotate_left
      · (intro w' hSw; go_simp; try with_reducible rfl)
      simp only [Act.put, List.setIfInBounds_toArray, List.set_cons_zero, List.set_cons_succ]
      refine wpAnyH_take (i := 2) (oi := { dst := some 24, op := _, type := _, pos := _, after := _, guard := _ }) (v := ?_) rfl (by kernel_rfl) (by kernel_rfl) (by kernel_rfl) (fun _ _ _ h => h) (Or.inl ⟨by rfl, ?_⟩) hS ?_
      rotate_left
      · (intro w' hSw; go_simp; try with_reducible rfl)
      simp only [Act.put, List.setIfInBounds_toArray, List.set_cons_zero, List.set_cons_succ]
      refine wpAnyH_take (i := 3) (oi := { dst := some 25, op := _, type := _, pos := _, after := _, guard := _ }) (v := ?_) rfl (by kernel_rfl) (by kernel_rfl) (by kernel_rfl) (fun _ _ _ h => h) (Or.inl ⟨by rfl, ?_⟩) hS ?_
      rotate_left
      · (intro w' hSw; go_simp; try with_reducible rfl)
      simp only [Act.put, List.setIfInBounds_toArray, List.set_cons_zero, List.set_cons_succ]
      refine wpAnyH_take (i := 4) (oi := { dst := some 26, op := _, type := _, pos := _, after := _, guard := _ }) rfl (by kernel_rfl) (by kernel_rfl) (by kernel_rfl) (fun _ _ _ h => h) (yl_cell 55 _ g 0 rfl Try.isAgg55 (by rfl) (by rfl) (fun _ h => h.out.cell HC0.out)) hS ?_
      simp only [Act.put, List.setIfInBounds_toArray, List.set_cons_zero, List.set_cons_succ]
      refine wpAnyH_take (i := 5) (oi := { dst := some 27, op := _, type := _, pos := _, after := _, guard := _ }) (v := ?_) rfl (by kernel_rfl) (by kernel_rfl) (by kernel_rfl) (fun _ _ _ h => h) (Or.inl ⟨by rfl, ?_⟩) hS ?_
      rotate_left
      · (intro w' hSw; go_simp; try with_reducible rfl)
      simp only [Act.put, List.setIfInBounds_toArray, List.set_cons_zero, List.set_cons_succ]
      refine wpAnyH_take (i := 6) (oi := { dst := some 28, op := _, type := _, pos := _, after := _, guard := _ }) (v := ?_) rfl (by kernel_rfl) (by kernel_rfl) (by kernel_rfl) (fun _ _ _ h => h) (Or.inl ⟨by rfl, ?_⟩) hS ?_
      rotate_left
      · (intro w' hSw; go_simp; try with_reducible rfl)
      simp only [Act.put, List.setIfInBounds_toArray, List.set_cons_zero, List.set_cons_succ]
      refine wpAnyH_take (i := 7) (oi := { dst := some 29, op := _, type := _, pos := _, after := _, guard := _ }) (v := ?_) rfl (by kernel_rfl) (by kernel_rfl) (by kernel_rfl) (fun _ _ _ h => h) (Or.inl ⟨by rfl, ?_⟩) hS ?_
      rotate_left
      · (intro w' hSw; go_simp; try with_reducible rfl)
      simp only [Act.put, List.setIfInBounds_toArray, List.set_cons_zero, List.set_cons_succ]
      refine wpAnyH_take (i := 8) (oi := { dst := some 30, op := _, type := _, pos := _, after := _, guard := _ }) (v := undef) rfl (by kernel_rfl) (by kernel_rfl) (by kernel_rfl) (fun _ _ _ h => h) (Or.inr ⟨by rfl, rfl⟩) hS ?_
      simp only [Act.put, List.setIfInBounds_toArray, List.set_cons_zero, List.set_cons_succ]
      refine wpAnyH_take (i := 9) (oi := { dst := some 31, op := _, type := _, pos := _, after := _, guard := _ }) (v := undef) rfl (by kernel_rfl) (by kernel_rfl) (by kernel_rfl) (fun _ _ _ h => h) (Or.inr ⟨by rfl, rfl⟩) hS ?_
      simp only [Act.put, List.setIfInBounds_toArray, List.set_cons_zero, List.set_cons_succ]
      refine wpAnyH_take (i := 10) (oi := { dst := some 32, op := _, type := _, pos := _, after := _, guard := _ }) (v := undef) rfl (by kernel_rfl) (by kernel_rfl) (by kernel_rfl) (fun _ _ _ h => h) (Or.inr ⟨by rfl, rfl⟩) hS ?_
      simp only [Act.put, List.setIfInBounds_toArray, List.set_cons_zero, List.set_cons_succ]
      refine wpAnyH_take (i := 11) (oi := { dst := some 33, op := _, type := _, pos := _, after := _, guard := _ }) (v := undef) rfl (by kernel_rfl) (by kernel_rfl) (by kernel_rfl) (fun _ _ _ h => h) (Or.inr ⟨by rfl, rfl⟩) hS ?_
      simp only [Act.put, List.setIfInBounds_toArray, List.set_cons_zero, List.set_cons_succ]
      refine wpAnyH_take (i := 12) (oi := { dst := some 34, op := _, type := _, pos := _, after := _, guard := _ }) (v := undef) rfl (by kernel_rfl) (by kernel_rfl) (by kernel_rfl) (fun _ _ _ h => h) (Or.inr ⟨by rfl, rfl⟩) hS ?_
      simp only [Act.put, List.setIfInBounds_toArray, List.set_cons_zero, List.set_cons_succ]
      refine wpAnyH_take (i := 13) (oi := { dst := some 35, op := _, type := _, pos := _, after := _, guard := _ }) (v := undef) rfl (by kernel_rfl) (by kernel_rfl) (by kernel_rfl) (fun _ _ _ h => h) (Or.inr ⟨by rfl, rfl⟩) hS ?_
      simp only [Act.put, List.setIfInBounds_toArray, List.set_cons_zero, List.set_cons_succ]
      refine wpAnyH_take (i := 14) (oi := { dst := some 36, op := _, type := _, pos := _, after := _, guard := _ }) (v := undef) rfl (by kernel_rfl) (by kernel_rfl) (by kernel_rfl) (fun _ _ _ h => h) (Or.inr ⟨by rfl, rfl⟩) hS ?_
      simp only [Act.put, List.setIfInBounds_toArray, List.set_cons_zero, List.set_cons_succ]
      refine wpAnyH_take (i := 15) (oi := { dst := some 37, op := _, type := _, pos := _, after := _, guard := _ }) (v := undef) rfl (by kernel_rfl) (by kernel_rfl) (by kernel_rfl) (fun _ _ _ h => h) (Or.inr ⟨by rfl, rfl⟩) hS ?_
      simp only [Act.put, List.setIfInBounds_toArray, List.set_cons_zero, List.set_cons_succ]
      refine wpAnyH_take (i := 16) (oi := { dst := some 38, op := _, type := _, pos := _, after := _, guard := _ }) (v := undef) rfl (by kernel_rfl) (by kernel_rfl) (by kernel_rfl) (fun _ _ _ h => h) (Or.inr ⟨by rfl, rfl⟩) hS ?_
      simp only [Act.put, List.setIfInBounds_toArray, List.set_cons_zero, List.set_cons_succ]
      refine wpAnyH_take (i := 17) (oi := { dst := some 39, op := _, type := _, pos := _, after := _, guard := _ }) (v := undef) rfl (by kernel_rfl) (by kernel_rfl) (by kernel_rfl) (fun _ _ _ h => h) (Or.inr ⟨by rfl, rfl⟩) hS ?_
      simp only [Act.put, List.setIfInBounds_toArray, List.set_cons_zero, List.set_cons_succ]
      refine wpAnyH_take (i := 18) (oi := { dst := some 40, op := _, type := _, pos := _, after := _, guard := _ }) (v := undef) rfl (by kernel_rfl) (by kernel_rfl) (by kernel_rfl) (fun _ _ _ h => h) (Or.inr ⟨by rfl, rfl⟩) hS ?_
      simp only [Act.put, List.setIfInBounds_toArray, List.set_cons_zero, List.set_cons_succ]
      refine wpAnyH_take (i := 19) (oi := { dst := some 41, op := _, type := _, pos := _, after := _, guard := _ }) (v := ?_) rfl (by kernel_rfl) (by kernel_rfl) (by kernel_rfl) (fun _ _ _ h => h) (Or.inl ⟨by rfl, ?_⟩) hS ?_
      rotate_left
      · (intro w' hSw; go_simp; try with_reducible rfl)
      simp only [Act.put, List.setIfInBounds_toArray, List.set_cons_zero, List.set_cons_succ]
      refine wpAnyH_done (by kernel_rfl) ?_ _
      replace HZ0 := hide (HZ0.out.trans' hS.out)
      replace HC0 := hide (hS.out.cell HC0.out)
      replace HC1 := hide (hS.out.cell HC1.out)
      replace HE := hide (HE.out.keep hS.out)
      replace HK := hide (HK.out.trans' hS.out)
      clear hS
      generalize w0.drew = w0 at HC0 HC1 HE HK ⊢
      go_wp2
      refine wp_region_held_drew (S := (fun w' => Hid (Keeps [] w0 w'))) (by kernel_rfl) (hide (Keeps.refl [] w0).drew) (fun hS => ?_)
      refine wpAnyH_take (i := 0) (oi := { dst := some 44, op := _, type := _, pos := _, after := _, guard := _ }) (v := ?_) rfl (by kernel_rfl) (by kernel_rfl) (by kernel_rfl) (fun _ _ _ h => h) (Or.inl ⟨by rfl, ?_⟩) hS ?_
      rotate_left
      · (intro w' hSw; go_simp; try with_reducible rfl)
      simp only [Act.put, List.setIfInBounds_toArray, List.set_cons_zero, List.set_cons_succ]
      refine wpAnyH_take (i := 1) (oi := { dst := some 45, op := _, type := _, pos := _, after := _, guard := _ }) (v := ?_) rfl (by kernel_rfl) (by kernel_rfl) (by kernel_rfl) (fun _ _ _ h => h) (Or.inl ⟨by rfl, ?_⟩) hS ?_
      rotate_left
      · (intro w' hSw; go_simp; try with_reducible rfl)
      simp only [Act.put, List.setIfInBounds_toArray, List.set_cons_zero, List.set_cons_succ]
      refine wpAnyH_take (i := 2) (oi := { dst := some 46, op := _, type := _, pos := _, after := _, guard := _ }) (v := ?_) rfl (by kernel_rfl) (by kernel_rfl) (by kernel_rfl) (fun _ _ _ h => h) (Or.inl ⟨by rfl, ?_⟩) hS ?_
      rotate_left
      · (intro w' hSw; go_simp; try with_reducible rfl)
      simp only [Act.put, List.setIfInBounds_toArray, List.set_cons_zero, List.set_cons_succ]
      refine wpAnyH_take (i := 3) (oi := { dst := some 47, op := _, type := _, pos := _, after := _, guard := _ }) (v := ?_) rfl (by kernel_rfl) (by kernel_rfl) (by kernel_rfl) (fun _ _ _ h => h) (Or.inl ⟨by rfl, ?_⟩) hS ?_
      rotate_left
      · (intro w' hSw; go_simp; try with_reducible rfl)
      simp only [Act.put, List.setIfInBounds_toArray, List.set_cons_zero, List.set_cons_succ]
      refine wpAnyH_take (i := 4) (oi := { dst := some 48, op := _, type := _, pos := _, after := _, guard := _ }) rfl (by kernel_rfl) (by kernel_rfl) (by kernel_rfl) (fun _ _ _ h => h) (yl_cell 55 _ g 0 rfl Try.isAgg55 (by rfl) (by rfl) (fun _ h => h.out.cell HC0.out)) hS ?_
      simp only [Act.put, List.setIfInBounds_toArray, List.set_cons_zero, List.set_cons_succ]
      refine wpAnyH_take (i := 5) (oi := { dst := some 49, op := _, type := _, pos := _, after := _, guard := _ }) (v := ?_) rfl (by kernel_rfl) (by kernel_rfl) (by kernel_rfl) (fun _ _ _ h => h) (Or.inl ⟨by rfl, ?_⟩) hS ?_
      rotate_left
      · (intro w' hSw; go_simp; try with_reducible rfl)
      simp only [Act.put, List.setIfInBounds_toArray, List.set_cons_zero, List.set_cons_succ]
      refine wpAnyH_take (i := 6) (oi := { dst := some 50, op := _, type := _, pos := _, after := _, guard := _ }) (v := ?_) rfl (by kernel_rfl) (by kernel_rfl) (by kernel_rfl) (fun _ _ _ h => h) (Or.inl ⟨by rfl, ?_⟩) hS ?_
      rotate_left
      · (intro w' hSw; go_simp; try with_reducible rfl)
      simp only [Act.put, List.setIfInBounds_toArray, List.set_cons_zero, List.set_cons_succ]
      refine wpAnyH_take (i := 7) (oi := { dst := some 51, op := _, type := _, pos := _, after := _, guard := _ }) (v := ?_) rfl (by kernel_rfl) (by kernel_rfl) (by kernel_rfl) (fun _ _ _ h => h) (Or.inl ⟨by rfl, ?_⟩) hS ?_
      rotate_left
      · (intro w' hSw; go_simp; try with_reducible rfl)
      simp only [Act.put, List.setIfInBounds_toArray, List.set_cons_zero, List.set_cons_succ]
      refine wpAnyH_take (i := 8) (oi := { dst := some 52, op := _, type := _, pos := _, after := _, guard := _ }) (v := undef) rfl (by kernel_rfl) (by kernel_rfl) (by kernel_rfl) (fun _ _ _ h => h) (Or.inr ⟨by rfl, rfl⟩) hS ?_
      simp only [Act.put, List.setIfInBounds_toArray, List.set_cons_zero, List.set_cons_succ]
      refine wpAnyH_take (i := 9) (oi := { dst := some 53, op := _, type := _, pos := _, after := _, guard := _ }) (v := undef) rfl (by kernel_rfl) (by kernel_rfl) (by kernel_rfl) (fun _ _ _ h => h) (Or.inr ⟨by rfl, rfl⟩) hS ?_
      simp only [Act.put, List.setIfInBounds_toArray, List.set_cons_zero, List.set_cons_succ]
      refine wpAnyH_take (i := 10) (oi := { dst := some 54, op := _, type := _, pos := _, after := _, guard := _ }) (v := undef) rfl (by kernel_rfl) (by kernel_rfl) (by kernel_rfl) (fun _ _ _ h => h) (Or.inr ⟨by rfl, rfl⟩) hS ?_
      simp only [Act.put, List.setIfInBounds_toArray, List.set_cons_zero, List.set_cons_succ]
      refine wpAnyH_take (i := 11) (oi := { dst := some 55, op := _, type := _, pos := _, after := _, guard := _ }) (v := undef) rfl (by kernel_rfl) (by kernel_rfl) (by kernel_rfl) (fun _ _ _ h => h) (Or.inr ⟨by rfl, rfl⟩) hS ?_
      simp only [Act.put, List.setIfInBounds_toArray, List.set_cons_zero, List.set_cons_succ]
      refine wpAnyH_take (i := 12) (oi := { dst := some 56, op := _, type := _, pos := _, after := _, guard := _ }) (v := undef) rfl (by kernel_rfl) (by kernel_rfl) (by kernel_rfl) (fun _ _ _ h => h) (Or.inr ⟨by rfl, rfl⟩) hS ?_
      simp only [Act.put, List.setIfInBounds_toArray, List.set_cons_zero, List.set_cons_succ]
      refine wpAnyH_take (i := 13) (oi := { dst := some 57, op := _, type := _, pos := _, after := _, guard := _ }) (v := undef) rfl (by kernel_rfl) (by kernel_rfl) (by kernel_rfl) (fun _ _ _ h => h) (Or.inr ⟨by rfl, rfl⟩) hS ?_
      simp only [Act.put, List.setIfInBounds_toArray, List.set_cons_zero, List.set_cons_succ]
      refine wpAnyH_take (i := 14) (oi := { dst := some 58, op := _, type := _, pos := _, after := _, guard := _ }) (v := undef) rfl (by kernel_rfl) (by kernel_rfl) (by kernel_rfl) (fun _ _ _ h => h) (Or.inr ⟨by rfl, rfl⟩) hS ?_
      simp only [Act.put, List.setIfInBounds_toArray, List.set_cons_zero, List.set_cons_succ]
      refine wpAnyH_take (i := 15) (oi := { dst := some 59, op := _, type := _, pos := _, after := _, guard := _ }) (v := undef) rfl (by kernel_rfl) (by kernel_rfl) (by kernel_rfl) (fun _ _ _ h => h) (Or.inr ⟨by rfl, rfl⟩) hS ?_
      simp only [Act.put, List.setIfInBounds_toArray, List.set_cons_zero, List.set_cons_succ]
      refine wpAnyH_take (i := 16) (oi := { dst := some 60, op := _, type := _, pos := _, after := _, guard := _ }) (v := undef) rfl (by kernel_rfl) (by kernel_rfl) (by kernel_rfl) (fun _ _ _ h => h) (Or.inr ⟨by rfl, rfl⟩) hS ?_
      simp only [Act.put, List.setIfInBounds_toArray, List.set_cons_zero, List.set_cons_succ]
      refine wpAnyH_take (i := 17) (oi := { dst := some 61, op := _, type := _, pos := _, after := _, guard := _ }) (v := ?_) rfl (by kernel_rfl) (by kernel_rfl) (by kernel_rfl) (fun _ _ _ h => h) (Or.inl ⟨by rfl, ?_⟩) hS ?_
      rotate_left
      · (intro w' hSw; go_simp; try with_reducible rfl)
      simp only [Act.put, List.setIfInBounds_toArray, List.set_cons_zero, List.set_cons_succ]
      refine wpAnyH_done (by kernel_rfl) ?_ _
      replace HC0 := hide (hS.out.cell HC0.out)
      replace HC1 := hide (hS.out.cell HC1.out)
      replace HE := hide (HE.out.keep hS.out)
      replace HK := hide (HK.out.trans' hS.out)
      clear hS
      generalize w0.drew = w0 at HC0 HC1 HE HK ⊢
      go_wp2
      refine wp_region_held_drew (S := (fun w' => Hid (Keeps [] w0 w'))) (by kernel_rfl) (hide (Keeps.refl [] w0).drew) (fun hS => ?_)
      refine wpAnyH_take (i := 0) (oi := { dst := some 62, op := _, type := _, pos := _, after := _, guard := _ }) (v := ?_) rfl (by kernel_rfl) (by kernel_rfl) (by kernel_rfl) (fun _ _ _ h => h) (Or.inl ⟨by rfl, ?_⟩) hS ?_
      rotate_left
      · (intro w' hSw; go_simp; try with_reducible rfl)
      simp only [Act.put, List.setIfInBounds_toArray, List.set_cons_zero, List.set_cons_succ]
      refine wpAnyH_take (i := 1) (oi := { dst := some 63, op := _, type := _, pos := _, after := _, guard := _ }) (v := ?_) rfl (by kernel_rfl) (by kernel_rfl) (by kernel_rfl) (fun _ _ _ h => h) (Or.inl ⟨by rfl, ?_⟩) hS ?_
      rotate_left
      · (intro w' hSw; go_simp; try with_reducible rfl)
      simp only [Act.put, List.setIfInBounds_toArray, List.set_cons_zero, List.set_cons_succ]
      refine wpAnyH_take (i := 2) (oi := { dst := some 64, op := _, type := _, pos := _, after := _, guard := _ }) (v := ?_) rfl (by kernel_rfl) (by kernel_rfl) (by kernel_rfl) (fun _ _ _ h => h) (Or.inl ⟨by rfl, ?_⟩) hS ?_
      rotate_left
      · (intro w' hSw; go_simp; try with_reducible rfl)
      simp only [Act.put, List.setIfInBounds_toArray, List.set_cons_zero, List.set_cons_succ]
      refine wpAnyH_take (i := 3) (oi := { dst := some 65, op := _, type := _, pos := _, after := _, guard := _ }) (v := ?_) rfl (by kernel_rfl) (by kernel_rfl) (by kernel_rfl) (fun _ _ _ h => h) (Or.inl ⟨by rfl, ?_⟩) hS ?_
      rotate_left
      · (intro w' hSw; go_simp; try with_reducible rfl)
      simp only [Act.put, List.setIfInBounds_toArray, List.set_cons_zero, List.set_cons_succ]
      refine wpAnyH_take (i := 4) (oi := { dst := some 66, op := _, type := _, pos := _, after := _, guard := _ }) rfl (by kernel_rfl) (by kernel_rfl) (by kernel_rfl) (fun _ _ _ h => h) (yl_cell 55 _ g 0 rfl Try.isAgg55 (by rfl) (by rfl) (fun _ h => h.out.cell HC0.out)) hS ?_
      simp only [Act.put, List.setIfInBounds_toArray, List.set_cons_zero, List.set_cons_succ]
      refine wpAnyH_take (i := 5) (oi := { dst := some 67, op := _, type := _, pos := _, after := _, guard := _ }) (v := ?_) rfl (by kernel_rfl) (by kernel_rfl) (by kernel_rfl) (fun _ _ _ h => h) (Or.inl ⟨by rfl, ?_⟩) hS ?_
      rotate_left
      · (intro w' hSw; go_simp; try with_reducible rfl)
      simp only [Act.put, List.setIfInBounds_toArray, List.set_cons_zero, List.set_cons_succ]
      refine wpAnyH_take (i := 6) (oi := { dst := some 68, op := _, type := _, pos := _, after := _, guard := _ }) (v := ?_) rfl (by kernel_rfl) (by kernel_rfl) (by kernel_rfl) (fun _ _ _ h => h) (Or.inl ⟨by rfl, ?_⟩) hS ?_
      rotate_left
      · (intro w' hSw; go_simp; try with_reducible rfl)
      simp only [Act.put, List.setIfInBounds_toArray, List.set_cons_zero, List.set_cons_succ]
      refine wpAnyH_take (i := 7) (oi := { dst := some 69, op := _, type := _, pos := _, after := _, guard := _ }) (v := ?_) rfl (by kernel_rfl) (by kernel_rfl) (by kernel_rfl) (fun _ _ _ h => h) (Or.inl ⟨by rfl, ?_⟩) hS ?_
      rotate_left
      · (intro w' hSw; go_simp; try with_reducible rfl)
      simp only [Act.put, List.setIfInBounds_toArray, List.set_cons_zero, List.set_cons_succ]
      refine wpAnyH_take (i := 8) (oi := { dst := some 70, op := _, type := _, pos := _, after := _, guard := _ }) (v := undef) rfl (by kernel_rfl) (by kernel_rfl) (by kernel_rfl) (fun _ _ _ h => h) (Or.inr ⟨by rfl, rfl⟩) hS ?_
      simp only [Act.put, List.setIfInBounds_toArray, List.set_cons_zero, List.set_cons_succ]
      refine wpAnyH_take (i := 9) (oi := { dst := some 71, op := _, type := _, pos := _, after := _, guard := _ }) (v := undef) rfl (by kernel_rfl) (by kernel_rfl) (by kernel_rfl) (fun _ _ _ h => h) (Or.inr ⟨by rfl, rfl⟩) hS ?_
      simp only [Act.put, List.setIfInBounds_toArray, List.set_cons_zero, List.set_cons_succ]
      refine wpAnyH_take (i := 10) (oi := { dst := some 72, op := _, type := _, pos := _, after := _, guard := _ }) (v := undef) rfl (by kernel_rfl) (by kernel_rfl) (by kernel_rfl) (fun _ _ _ h => h) (Or.inr ⟨by rfl, rfl⟩) hS ?_
      simp only [Act.put, List.setIfInBounds_toArray, List.set_cons_zero, List.set_cons_succ]
      refine wpAnyH_take (i := 11) (oi := { dst := some 73, op := _, type := _, pos := _, after := _, guard := _ }) (v := undef) rfl (by kernel_rfl) (by kernel_rfl) (by kernel_rfl) (fun _ _ _ h => h) (Or.inr ⟨by rfl, rfl⟩) hS ?_
      simp only [Act.put, List.setIfInBounds_toArray, List.set_cons_zero, List.set_cons_succ]
      refine wpAnyH_take (i := 12) (oi := { dst := some 74, op := _, type := _, pos := _, after := _, guard := _ }) (v := undef) rfl (by kernel_rfl) (by kernel_rfl) (by kernel_rfl) (fun _ _ _ h => h) (Or.inr ⟨by rfl, rfl⟩) hS ?_
      simp only [Act.put, List.setIfInBounds_toArray, List.set_cons_zero, List.set_cons_succ]
      refine wpAnyH_take (i := 13) (oi := { dst := some 75, op := _, type := _, pos := _, after := _, guard := _ }) (v := undef) rfl (by kernel_rfl) (by kernel_rfl) (by kernel_rfl) (fun _ _ _ h => h) (Or.inr ⟨by rfl, rfl⟩) hS ?_
      simp only [Act.put, List.setIfInBounds_toArray, List.set_cons_zero, List.set_cons_succ]
      refine wpAnyH_take (i := 14) (oi := { dst := some 76, op := _, type := _, pos := _, after := _, guard := _ }) (v := undef) rfl (by kernel_rfl) (by kernel_rfl) (by kernel_rfl) (fun _ _ _ h => h) (Or.inr ⟨by rfl, rfl⟩) hS ?_
      simp only [Act.put, List.setIfInBounds_toArray, List.set_cons_zero, List.set_cons_succ]
      refine wpAnyH_take (i := 15) (oi := { dst := some 77, op := _, type := _, pos := _, after := _, guard := _ }) (v := undef) rfl (by kernel_rfl) (by kernel_rfl) (by kernel_rfl) (fun _ _ _ h => h) (Or.inr ⟨by rfl, rfl⟩) hS ?_
      simp only [Act.put, List.setIfInBounds_toArray, List.set_cons_zero, List.set_cons_succ]
      refine wpAnyH_take (i := 16) (oi := { dst := some 78, op := _, type := _, pos := _, after := _, guard := _ }) (v := undef) rfl (by kernel_rfl) (by kernel_rfl) (by kernel_rfl) (fun _ _ _ h => h) (Or.inr ⟨by rfl, rfl⟩) hS ?_
      simp only [Act.put, List.setIfInBounds_toArray, List.set_cons_zero, List.set_cons_succ]
      refine wpAnyH_take (i := 17) (oi := { dst := some 79, op := _, type := _, pos := _, after := _, guard := _ }) (v := undef) rfl (by kernel_rfl) (by kernel_rfl) (by kernel_rfl) (fun _ _ _ h => h) (Or.inr ⟨by rfl, rfl⟩) hS ?_
      simp only [Act.put, List.setIfInBounds_toArray, List.set_cons_zero, List.set_cons_succ]
      refine wpAnyH_take (i := 18) (oi := { dst := some 80, op := _, type := _, pos := _, after := _, guard := _ }) (v := undef) rfl (by kernel_rfl) (by kernel_rfl) (by kernel_rfl) (fun _ _ _ h => h) (Or.inr ⟨by rfl, rfl⟩) hS ?_
      simp only [Act.put, List.setIfInBounds_toArray, List.set_cons_zero, List.set_cons_succ]
      refine wpAnyH_take (i := 19) (oi := { dst := some 81, op := _, type := _, pos := _, after := _, guard := _ }) (v := ?_) rfl (by kernel_rfl) (by kernel_rfl) (by kernel_rfl) (fun _ _ _ h => h) (Or.inl ⟨by rfl, ?_⟩) hS ?_
      rotate_left
      · (intro w' hSw; go_simp; try with_reducible rfl)
      simp only [Act.put, List.setIfInBounds_toArray, List.set_cons_zero, List.set_cons_succ]
      refine wpAnyH_done (by kernel_rfl) ?_ _
      replace HC0 := hide (hS.out.cell HC0.out)
      replace HC1 := hide (hS.out.cell HC1.out)
      replace HE := hide (HE.out.keep hS.out)
      replace HK := hide (HK.out.trans' hS.out)
      clear hS
      generalize w0.drew = w0 at HC0 HC1 HE HK ⊢
      by_cases hck : c = k
      · subst hck
        have d0 := HC0.out
        by_cases hl : 20000 ≤ S.L.length
        · have hdl : decide (20000 ≤ S.L.length) = true := by simp [hl]
          have hdl2 : (20000 : Int) ≤ (S.L.length : Int) := by omega
          have hdl3 : decide ((20000 : Int) ≤ (S.L.length : Int)) = true := by simp; omega
          have HE2 := hide (takeE_many (S := S) (e := e) (by have := HNL.out; omega) (by rw [HKK.out]; exact HQE.out) hl)
          have HR := hide (took_none HL.out HK.out (by rw [HE2.out]; decide))
          clear HL HAT HC0 HC1 HE HZ0 HKZ
          go_wp2
          go_ret
          exact ⟨by rw [HE2.out]; rfl, HR.out⟩
        have hdl : decide (20000 ≤ S.L.length) = false := by simp; omega
        have hdl2 : ¬ (20000 : Int) ≤ (S.L.length : Int) := by omega
        have hdl3 : decide ((20000 : Int) ≤ (S.L.length : Int)) = false := by simp; omega
        have HE2 := hide (takeE_ok (S := S) (e := e) (by have := HNL.out; omega) (by rw [HKK.out]; exact HQE.out) hl)
        clear HL HZ0 HKZ
        go_wp2
        clear d0 hdl hdl2 hdl3 hl
        have z1 : (c : Int) ≤ (c : Int) := by omega
        have z2 : (c : Int) ≤ (S.L.length : Int) := by omega
        have hlk : (S.L.take c).length = c := by rw [List.length_take]; omega
        have hlk2 : (S.L.drop c).length = S.L.length - c := by rw [List.length_drop]
        have HLK := hide (And.intro hlk hlk2)
        clear hlk hlk2
        have HO := hide (show Own w0 27 18 (.slice A S.L.length c) S.L.length (ecs S.L) from Own.keep HAT.out.own HK.out (by simp))
        refine wp_region_held_drew (S := (fun w' => Hid (Keeps [] w0 w'))) (by kernel_rfl) (hide (Keeps.refl [] w0).drew) (fun hS => ?_)
        refine wpAnyH_take (i := 0) (oi := { dst := some 88, op := _, type := _, pos := _, after := _, guard := _ }) rfl (by kernel_rfl) (by kernel_rfl) (by kernel_rfl) (fun _ _ _ h => h) (yl_ev _ bx 0 e rfl (by rfl) (by rfl) (fun _ h => HE.out.keep h.out)) hS ?_
        simp only [Act.put, List.setIfInBounds_toArray, List.set_cons_zero, List.set_cons_succ]
        refine wpAnyH_take (i := 2) (oi := { dst := some 90, op := _, type := _, pos := _, after := _, guard := _ }) (v := ?_) rfl (by kernel_rfl) (by kernel_rfl) (by kernel_rfl) (fun _ _ _ h => h) (Or.inl ⟨by rfl, ?_⟩) hS ?_
        rotate_left
        · (intro w' hSw; go_simp; try with_reducible rfl)
        simp only [Act.put, List.setIfInBounds_toArray, List.set_cons_zero, List.set_cons_succ]
        refine wpAnyH_take (i := 3) (oi := { dst := some 91, op := _, type := _, pos := _, after := _, guard := _ }) (v := ?_) rfl (by kernel_rfl) (by kernel_rfl) (by kernel_rfl) (fun _ _ _ h => h) (Or.inl ⟨by rfl, ?_⟩) hS ?_
        rotate_left
        · (intro w' hSw; go_simp; try with_reducible rfl)
        simp only [Act.put, List.setIfInBounds_toArray, List.set_cons_zero, List.set_cons_succ]
        refine wpAnyH_take (i := 4) (oi := { dst := some 92, op := _, type := _, pos := _, after := _, guard := _ }) (v := ?_) rfl (by kernel_rfl) (by kernel_rfl) (by kernel_rfl) (fun _ _ _ h => h) (Or.inl ⟨by rfl, ?_⟩) hS ?_
        rotate_left
        · (intro w' hSw; go_simp; try with_reducible rfl)
        simp only [Act.put, List.setIfInBounds_toArray, List.set_cons_zero, List.set_cons_succ]
        refine wpAnyH_take (i := 5) (oi := { dst := some 93, op := _, type := _, pos := _, after := _, guard := _ }) rfl (by kernel_rfl) (by kernel_rfl) (by kernel_rfl) (fun _ _ _ h => h) (yl_cell 55 _ g 0 rfl Try.isAgg55 (by rfl) (by rfl) (fun _ h => h.out.cell HC0.out)) hS ?_
        simp only [Act.put, List.setIfInBounds_toArray, List.set_cons_zero, List.set_cons_succ]
        refine wpAnyH_take (i := 6) (oi := { dst := some 94, op := _, type := _, pos := _, after := _, guard := _ }) (v := ?_) rfl (by kernel_rfl) (by kernel_rfl) (by kernel_rfl) (fun _ _ _ h => h) (Or.inl ⟨by rfl, ?_⟩) hS ?_
        rotate_left
        · (intro w' hSw; go_simp; try with_reducible rfl)
        simp only [Act.put, List.setIfInBounds_toArray, List.set_cons_zero, List.set_cons_succ]
        refine wpAnyH_take (i := 7) (oi := { dst := some 95, op := _, type := _, pos := _, after := _, guard := _ }) (v := ?_) rfl (by kernel_rfl) (by kernel_rfl) (by kernel_rfl) (fun _ _ _ h => h) (Or.inl ⟨by rfl, ?_⟩) hS ?_
        rotate_left
        · (intro w' hSw; go_simp; try with_reducible rfl)
        simp only [Act.put, List.setIfInBounds_toArray, List.set_cons_zero, List.set_cons_succ]
        refine wpAnyH_ready (rs := [1]) (by kernel_rfl) (by simp) ?_
        refine AllReadyH.cons (o := { dst := some 89, op := _, type := _, pos := _, after := _, guard := _ }) rfl (fun K hK => ?_) AllReadyH.nil
        refine step_build1 _ e rfl (by rfl) (by rfl) ?_
        refine hK.out _ _ (hide (hS.out.alloc _)) (fun hS => ?_)
        clear hK K
        simp only [Act.put, List.setIfInBounds_toArray, List.set_cons_zero, List.set_cons_succ]
        have HSR2 := hide (show Src (w0.drew.alloc (.cells (ec e).toArray 27)) 18 (.slice A 0 0) 0 (ecs (S.L.drop c)) from by rw [show S.L.drop c = [] from List.drop_eq_nil_of_le (by omega)]; exact src_zero _ _ _ _)
        have HOE := hide (show Own (w0.drew.alloc (.cells (ec e).toArray 27)) 27 18 (.slice (some ⟨w0.drew.heap.size, 0, none⟩) 1 1) 1 (ec e) from own_of (Bk.new w0.drew 27 (ec e).toArray) rfl (Nat.le_refl _) (by unfold maxLen; omega) rfl rfl)
        have HNE := hide (show New w0 (.slice (some ⟨w0.drew.heap.size, 0, none⟩) 1 1) from fun b hb => by
          have : w0.drew.heap.size = b := by simpa [Value.ownBlock] using hb
          rw [← this]; exact Nat.le_refl _)
        refine wpAnyH_ready (rs := [8]) (by kernel_rfl) (by simp) ?_
        refine AllReadyH.cons (o := { dst := some 96, op := _, type := _, pos := _, after := _, guard := _ }) rfl (fun K hK => ?_) AllReadyH.nil
        refine step_append_src _ (by rfl) _ _ _ (by rfl) 27 i0 _ 18 152 Try.underlying55 HI0.out.1 HI0.out.2.1 HI0.out.2.2.1 HI0.out.2.2.2 rfl (by omega) (.slice (some ⟨w0.drew.heap.size, 0, none⟩) 1 1) (1) (ec e) (by rfl) (HOE.out) (.slice A (0) (0)) (0) (ecs (S.L.drop c)) (by rfl) (HSR2.out) (ecs_one _) (by unfold maxLen; omega) (by omega) ?_
        intro v6 w6 hown hgrow hblk
        obtain ⟨k6, n6⟩ := step_new hS.out HNE.out hgrow hblk
        obtain ⟨A6, c6, rfl⟩ := Own.slice hown
        refine hK.out _ _ (hide k6) (fun hS => ?_)
        clear hK K
        simp only [Act.put, List.setIfInBounds_toArray, List.set_cons_zero, List.set_cons_succ]
        refine wpAnyH_take (i := 9) (oi := { dst := some 6, op := _, type := _, pos := _, after := _, guard := _ }) (v := ?_) rfl (by kernel_rfl) (by kernel_rfl) (by kernel_rfl) (fun _ _ _ h => h) (Or.inl ⟨by rfl, ?_⟩) hS ?_
        rotate_left
        · (intro w' hSw; go_simp; try with_reducible rfl)
        simp only [Act.put, List.setIfInBounds_toArray, List.set_cons_zero, List.set_cons_succ]
        refine wpAnyH_done (by kernel_rfl) ?_ _
        have HV6 := hide (And.intro hown n6)
        clear hown hgrow hblk k6 n6 HOE HNE HSR2 HSR
        have HK6 := hide (hS.out)
        have HO6 := hide (Own.keep HO.out HK6.out (by simp))
        have d6 : w6.cell? ⟨g, 0, none⟩ = some (.slice A S.L.length c) := HK6.out.cell HC0.out
        obtain ⟨g1, g2, g3⟩ := fresh_row w6
        have HF := hide (And.intro g1 (And.intro g2 g3))
        have d7 := g3.cell d6
        have HS7 := hide (Src.keep (ES.front (Own.src HO6.out) c hk) g3 (by simp))
        have HV7 := hide (Own.keep HV6.out.1 g3 (by simp))
        clear g1 g2 g3 hS HE HC1
        go_wp2_with (with_reducible refine Halt.append ?_)
        refine Halt.on ?_
        refine wpList_append_src _ rfl _ _ _ rfl 27 i0 _ 18 152 Try.underlying55 HI0.out.1 HI0.out.2.1 HI0.out.2.2.1 HI0.out.2.2.2 rfl (by omega) (.slice (some ⟨w6.heap.size, 0, none⟩) 0 0) (0) ([]) rfl (HF.out.1) (.slice A (c) (c)) (c) (ecs (S.L.take c)) rfl (HS7.out) (ecs_one _) (by unfold maxLen; omega) (by omega) ?_
        intro v8 w8 hown hgrow hblk
        obtain ⟨k8, n8⟩ := step_new HF.out.2.2 HF.out.2.1 hgrow hblk
        rw [Nat.zero_add, List.nil_append] at hown
        obtain ⟨A8, c8, rfl⟩ := Own.slice hown
        have HV8 := hide hown
        have HN8 := hide n8
        have HK8 := hide k8
        have HR8 := hide (Own.keep HV6.out.1 k8 (by simp))
        clear hown hgrow hblk k8 n8 HF HS7 HV7 d7
        go_wp2_with (with_reducible refine Halt.append ?_)
        refine Halt.on ?_
        refine wpList_append_src _ rfl _ _ _ rfl 27 i0 _ 18 152 Try.underlying55 HI0.out.1 HI0.out.2.1 HI0.out.2.2.1 HI0.out.2.2.2 rfl (by omega) (.slice A8 c c8) (c) (ecs (S.L.take c)) rfl (HV8.out) (.slice A6 (1 + (0)) (c6)) (1 + (0)) (ec e ++ ecs (S.L.drop c)) rfl ((Own.src HR8.out)) (fun u hu => by rw [List.mem_append] at hu; exact hu.elim (ec_one e u) (ecs_one _ u)) (by unfold maxLen; omega) (by omega) ?_
        intro v9 w9 hown hgrow hblk
        obtain ⟨k9, n9⟩ := step_new HK8.out HN8.out hgrow hblk
        obtain ⟨A9, c9, rfl⟩ := Own.slice hown
        have HK9 := hide (HK6.out.trans' k9)
        have d9 : w9.cell? ⟨g, 0, none⟩ = some (.slice A S.L.length c) := k9.cell d6
        have f9 : w9.frozen? ⟨g, 0, none⟩ = false := (HAT.out.blk.keep (HK.out.trans' HK9.out) (by simp)).free 0
        have HR := hide (took_mk (v := .slice A9 (c + (1 + (0))) c9) (by decide) HAT.out HK.out HE2.out (by
          rw [HKK.out, insL_cells, show S.L.length + 1 = c + (1 + (0)) by omega]
          exact hown) (by
          rcases A9 with _ | ad
          · cases hown.2 with
            | inl h => exact absurd h.2 (by omega)
            | inr h => obtain ⟨g', cap, cur, h1, _⟩ := h; cases h1
          · exact .inr ⟨ad.block, rfl, Nat.le_trans (Nat.le_trans HK.out.size HK6.out.size) (n9 ad.block rfl)⟩) HK9.out.nil)
        clear hown hgrow hblk k9 n9 HV8 HN8 HR8 HV6 HO6 HO
        clear d6
        go_wp2
        go_ret
        exact ⟨by rw [HE2.out]; rfl, HR.out⟩
      · rcases Own.addr HAT.out.own with ⟨_, _, h3⟩ | ⟨b, rfl⟩
        · omega
        have d0 := HC0.out
        by_cases hl : 20000 ≤ S.L.length
        · have hdl : decide (20000 ≤ S.L.length) = true := by simp [hl]
          have hdl2 : (20000 : Int) ≤ (S.L.length : Int) := by omega
          have hdl3 : decide ((20000 : Int) ≤ (S.L.length : Int)) = true := by simp; omega
          have HE2 := hide (takeE_many (S := S) (e := e) (by have := HNL.out; omega) (by rw [HKK.out]; exact HQE.out) hl)
          have HR := hide (took_none HL.out HK.out (by rw [HE2.out]; decide))
          clear HL HAT HC0 HC1 HE HZ0 HKZ
          go_wp2
          go_ret
          exact ⟨by rw [HE2.out]; rfl, HR.out⟩
        have hdl : decide (20000 ≤ S.L.length) = false := by simp; omega
        have hdl2 : ¬ (20000 : Int) ≤ (S.L.length : Int) := by omega
        have hdl3 : decide ((20000 : Int) ≤ (S.L.length : Int)) = false := by simp; omega
        have HE2 := hide (takeE_ok (S := S) (e := e) (by have := HNL.out; omega) (by rw [HKK.out]; exact HQE.out) hl)
        clear HL HZ0 HKZ
        go_wp2
        clear d0 hdl hdl2 hdl3 hl
        have z1 : (k : Int) ≤ (c : Int) := by omega
        have z2 : (k : Int) ≤ (S.L.length : Int) := by omega
        have hlk : (S.L.take k).length = k := by rw [List.length_take]; omega
        have hlk2 : (S.L.drop k).length = S.L.length - k := by rw [List.length_drop]
        have HLK := hide (And.intro hlk hlk2)
        clear hlk hlk2
        have HO := hide (show Own w0 27 18 (.slice (some ⟨b, 0, none⟩) S.L.length c) S.L.length (ecs S.L) from Own.keep HAT.out.own HK.out (by simp))
        refine wp_region_held_drew (S := (fun w' => Hid (Keeps [] w0 w'))) (by kernel_rfl) (hide (Keeps.refl [] w0).drew) (fun hS => ?_)
        refine wpAnyH_take (i := 0) (oi := { dst := some 88, op := _, type := _, pos := _, after := _, guard := _ }) rfl (by kernel_rfl) (by kernel_rfl) (by kernel_rfl) (fun _ _ _ h => h) (yl_ev _ bx 0 e rfl (by rfl) (by rfl) (fun _ h => HE.out.keep h.out)) hS ?_
        simp only [Act.put, List.setIfInBounds_toArray, List.set_cons_zero, List.set_cons_succ]
        refine wpAnyH_take (i := 2) (oi := { dst := some 90, op := _, type := _, pos := _, after := _, guard := _ }) (v := ?_) rfl (by kernel_rfl) (by kernel_rfl) (by kernel_rfl) (fun _ _ _ h => h) (Or.inl ⟨by rfl, ?_⟩) hS ?_
        rotate_left
        · (intro w' hSw; go_simp; try with_reducible rfl)
        simp only [Act.put, List.setIfInBounds_toArray, List.set_cons_zero, List.set_cons_succ]
        refine wpAnyH_take (i := 3) (oi := { dst := some 91, op := _, type := _, pos := _, after := _, guard := _ }) (v := ?_) rfl (by kernel_rfl) (by kernel_rfl) (by kernel_rfl) (fun _ _ _ h => h) (Or.inl ⟨by rfl, ?_⟩) hS ?_
        rotate_left
        · (intro w' hSw; go_simp; try with_reducible rfl)
        simp only [Act.put, List.setIfInBounds_toArray, List.set_cons_zero, List.set_cons_succ]
        refine wpAnyH_take (i := 4) (oi := { dst := some 92, op := _, type := _, pos := _, after := _, guard := _ }) (v := ?_) rfl (by kernel_rfl) (by kernel_rfl) (by kernel_rfl) (fun _ _ _ h => h) (Or.inl ⟨by rfl, ?_⟩) hS ?_
        rotate_left
        · (intro w' hSw; go_simp; try with_reducible rfl)
        simp only [Act.put, List.setIfInBounds_toArray, List.set_cons_zero, List.set_cons_succ]
        refine wpAnyH_take (i := 5) (oi := { dst := some 93, op := _, type := _, pos := _, after := _, guard := _ }) rfl (by kernel_rfl) (by kernel_rfl) (by kernel_rfl) (fun _ _ _ h => h) (yl_cell 55 _ g 0 rfl Try.isAgg55 (by rfl) (by rfl) (fun _ h => h.out.cell HC0.out)) hS ?_
        simp only [Act.put, List.setIfInBounds_toArray, List.set_cons_zero, List.set_cons_succ]
        refine wpAnyH_take (i := 6) (oi := { dst := some 94, op := _, type := _, pos := _, after := _, guard := _ }) (v := ?_) rfl (by kernel_rfl) (by kernel_rfl) (by kernel_rfl) (fun _ _ _ h => h) (Or.inl ⟨by rfl, ?_⟩) hS ?_
        rotate_left
        · (intro w' hSw; go_simp; try with_reducible rfl)
        simp only [Act.put, List.setIfInBounds_toArray, List.set_cons_zero, List.set_cons_succ]
        refine wpAnyH_take (i := 7) (oi := { dst := some 95, op := _, type := _, pos := _, after := _, guard := _ }) (v := ?_) rfl (by kernel_rfl) (by kernel_rfl) (by kernel_rfl) (fun _ _ _ h => h) (Or.inl ⟨by rfl, ?_⟩) hS ?_
        rotate_left
        · (intro w' hSw; go_simp; try with_reducible rfl)
        simp only [Act.put, List.setIfInBounds_toArray, List.set_cons_zero, List.set_cons_succ]
        refine wpAnyH_ready (rs := [1]) (by kernel_rfl) (by simp) ?_
        refine AllReadyH.cons (o := { dst := some 89, op := _, type := _, pos := _, after := _, guard := _ }) rfl (fun K hK => ?_) AllReadyH.nil
        refine step_build1 _ e rfl (by rfl) (by rfl) ?_
        refine hK.out _ _ (hide (hS.out.alloc _)) (fun hS => ?_)
        clear hK K
        simp only [Act.put, List.setIfInBounds_toArray, List.set_cons_zero, List.set_cons_succ]
        have HSR2 := hide (show Src (w0.drew.alloc (.cells (ec e).toArray 27)) 18 (.slice (some ⟨b, k * 18, none⟩) (S.L.length - k) (c - k)) (S.L.length - k) (ecs (S.L.drop k)) from by
          have h1 := ES.back (Own.src HO.out) k
          rw [Addr.add_lit, Nat.zero_add] at h1
          exact Src.keep h1 hS.out (by simp))
        have HOE := hide (show Own (w0.drew.alloc (.cells (ec e).toArray 27)) 27 18 (.slice (some ⟨w0.drew.heap.size, 0, none⟩) 1 1) 1 (ec e) from own_of (Bk.new w0.drew 27 (ec e).toArray) rfl (Nat.le_refl _) (by unfold maxLen; omega) rfl rfl)
        have HNE := hide (show New w0 (.slice (some ⟨w0.drew.heap.size, 0, none⟩) 1 1) from fun b hb => by
          have : w0.drew.heap.size = b := by simpa [Value.ownBlock] using hb
          rw [← this]; exact Nat.le_refl _)
        refine wpAnyH_ready (rs := [8]) (by kernel_rfl) (by simp) ?_
        refine AllReadyH.cons (o := { dst := some 96, op := _, type := _, pos := _, after := _, guard := _ }) rfl (fun K hK => ?_) AllReadyH.nil
        refine step_append_src _ (by rfl) _ _ _ (by rfl) 27 i0 _ 18 152 Try.underlying55 HI0.out.1 HI0.out.2.1 HI0.out.2.2.1 HI0.out.2.2.2 rfl (by omega) (.slice (some ⟨w0.drew.heap.size, 0, none⟩) 1 1) (1) (ec e) (by rfl) (HOE.out) (.slice (some ⟨b, k * 18, none⟩) (S.L.length - k) (c - k)) (S.L.length - k) (ecs (S.L.drop k)) (by rfl) (HSR2.out) (ecs_one _) (by unfold maxLen; omega) (by omega) ?_
        intro v6 w6 hown hgrow hblk
        obtain ⟨k6, n6⟩ := step_new hS.out HNE.out hgrow hblk
        obtain ⟨A6, c6, rfl⟩ := Own.slice hown
        refine hK.out _ _ (hide k6) (fun hS => ?_)
        clear hK K
        simp only [Act.put, List.setIfInBounds_toArray, List.set_cons_zero, List.set_cons_succ]
        refine wpAnyH_take (i := 9) (oi := { dst := some 6, op := _, type := _, pos := _, after := _, guard := _ }) (v := ?_) rfl (by kernel_rfl) (by kernel_rfl) (by kernel_rfl) (fun _ _ _ h => h) (Or.inl ⟨by rfl, ?_⟩) hS ?_
        rotate_left
        · (intro w' hSw; go_simp; try with_reducible rfl)
        simp only [Act.put, List.setIfInBounds_toArray, List.set_cons_zero, List.set_cons_succ]
        refine wpAnyH_done (by kernel_rfl) ?_ _
        have HV6 := hide (And.intro hown n6)
        clear hown hgrow hblk k6 n6 HOE HNE HSR2 HSR
        have HK6 := hide (hS.out)
        have HO6 := hide (Own.keep HO.out HK6.out (by simp))
        have d6 : w6.cell? ⟨g, 0, none⟩ = some (.slice (some ⟨b, 0, none⟩) S.L.length c) := HK6.out.cell HC0.out
        obtain ⟨g1, g2, g3⟩ := fresh_row w6
        have HF := hide (And.intro g1 (And.intro g2 g3))
        have d7 := g3.cell d6
        have HS7 := hide (Src.keep (ES.front (Own.src HO6.out) k hk) g3 (by simp))
        have HV7 := hide (Own.keep HV6.out.1 g3 (by simp))
        clear g1 g2 g3 hS HE HC1
        go_wp2_with (with_reducible refine Halt.append ?_)
        refine Halt.on ?_
        refine wpList_append_src _ rfl _ _ _ rfl 27 i0 _ 18 152 Try.underlying55 HI0.out.1 HI0.out.2.1 HI0.out.2.2.1 HI0.out.2.2.2 rfl (by omega) (.slice (some ⟨w6.heap.size, 0, none⟩) 0 0) (0) ([]) rfl (HF.out.1) (.slice (some ⟨b, 0, none⟩) (k) (c)) (k) (ecs (S.L.take k)) rfl (HS7.out) (ecs_one _) (by unfold maxLen; omega) (by omega) ?_
        intro v8 w8 hown hgrow hblk
        obtain ⟨k8, n8⟩ := step_new HF.out.2.2 HF.out.2.1 hgrow hblk
        rw [Nat.zero_add, List.nil_append] at hown
        obtain ⟨A8, c8, rfl⟩ := Own.slice hown
        have HV8 := hide hown
        have HN8 := hide n8
        have HK8 := hide k8
        have HR8 := hide (Own.keep HV6.out.1 k8 (by simp))
        clear hown hgrow hblk k8 n8 HF HS7 HV7 d7
        go_wp2_with (with_reducible refine Halt.append ?_)
        refine Halt.on ?_
        refine wpList_append_src _ rfl _ _ _ rfl 27 i0 _ 18 152 Try.underlying55 HI0.out.1 HI0.out.2.1 HI0.out.2.2.1 HI0.out.2.2.2 rfl (by omega) (.slice A8 k c8) (k) (ecs (S.L.take k)) rfl (HV8.out) (.slice A6 (1 + (S.L.length - k)) (c6)) (1 + (S.L.length - k)) (ec e ++ ecs (S.L.drop k)) rfl ((Own.src HR8.out)) (fun u hu => by rw [List.mem_append] at hu; exact hu.elim (ec_one e u) (ecs_one _ u)) (by unfold maxLen; omega) (by omega) ?_
        intro v9 w9 hown hgrow hblk
        obtain ⟨k9, n9⟩ := step_new HK8.out HN8.out hgrow hblk
        obtain ⟨A9, c9, rfl⟩ := Own.slice hown
        have HK9 := hide (HK6.out.trans' k9)
        have d9 : w9.cell? ⟨g, 0, none⟩ = some (.slice (some ⟨b, 0, none⟩) S.L.length c) := k9.cell d6
        have f9 : w9.frozen? ⟨g, 0, none⟩ = false := (HAT.out.blk.keep (HK.out.trans' HK9.out) (by simp)).free 0
        have HR := hide (took_mk (v := .slice A9 (k + (1 + (S.L.length - k))) c9) (by decide) HAT.out HK.out HE2.out (by
          rw [HKK.out, insL_cells, show S.L.length + 1 = k + (1 + (S.L.length - k)) by omega]
          exact hown) (by
          rcases A9 with _ | ad
          · cases hown.2 with
            | inl h => exact absurd h.2 (by omega)
            | inr h => obtain ⟨g', cap, cur, h1, _⟩ := h; cases h1
          · exact .inr ⟨ad.block, rfl, Nat.le_trans (Nat.le_trans HK.out.size HK6.out.size) (n9 ad.block rfl)⟩) HK9.out.nil)
        clear hown hgrow hblk k9 n9 HV8 HN8 HR8 HV6 HO6 HO
        clear d6
        go_wp2
        go_ret
        exact ⟨by rw [HE2.out]; rfl, HR.out⟩
end Go.Proofs.Ytcfglfnncpcfoaa

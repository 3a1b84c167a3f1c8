/- The examples of the chapter. -/
import Derived.Test.YtcfglfnncpcfoaaSn
import Derived.Test.YtcfglfnncpcfoaaStl
import Derived.Test.YtcfglfnncpcfoaaSame
import Derived.Test.YtcfglfnncpcfoaaEvent
import Derived.Deep.DeepCutAuto
namespace Go.Proofs.Ytcfglfnncpcfoaa
open Go.RowKit Go.Shelf
def z0 : Ev := ⟨0, 0, 0, 0, 0, 0, 0, 0, 0, 0, 0, 0, 0, 0, 0, 0, 0, ⟨#[]⟩⟩
def e0 : Ev := ⟨5, 1, 1, 0, 0, 0, 0, 0, 0, 0, 0, 0, 0, 0, 0, 0, 0, ⟨#[97]⟩⟩
def f0 : Ev := ⟨5, 1, 1, 0, 0, 0, 0, 0, 0, 0, 0, 0, 0, 0, 0, 0, 0, ⟨#[98]⟩⟩
def g0 : Ev := ⟨4, 9, 9, 0, 0, 0, 0, 0, 0, 0, 0, 0, 0, 0, 0, 0, 0, ⟨#[97]⟩⟩
theorem sane_facts : ∃ A1 A2 A3 A4 A5 A6 A7 : Lg, (takeS Lg.new e0 = A1 ∧ takeE Lg.new e0 = 0) ∧ (takeS A1 e0 = A2 ∧ takeE A1 e0 = 22) ∧ (takeS A2 f0 = A3 ∧ takeE A2 f0 = 30) ∧ (takeS A3 g0 = A4 ∧ takeE A3 g0 = 0) ∧ A4.L = [g0, e0] ∧ (settleS A4 4 = A5 ∧ settleR A4 4 = [g0]) ∧ (settleS A5 3 = A6 ∧ settleR A5 3 = []) ∧ (takeS A6 g0 = A7 ∧ takeE A6 g0 = 71) ∧ ((A7.op : Int) - 1 = 4) :=
  ⟨_, _, _, _, _, _, _, ⟨rfl, by decide +kernel⟩, ⟨rfl, by decide +kernel⟩, ⟨rfl, by decide +kernel⟩, ⟨rfl, by decide +kernel⟩, by decide +kernel, ⟨rfl, by decide +kernel⟩, ⟨rfl, by decide +kernel⟩, ⟨rfl, by decide +kernel⟩, by decide +kernel⟩
theorem e0_fits : e0.fits := by unfold Ev.fits; decide +kernel
theorem e0_code : bs (evB e0) = ⟨#[2, 18, 17, 10, 2, 2, 0, 0, 0, 0, 0, 0, 0, 0, 0, 0, 0, 0, 0, 0, 1, 97]⟩ := by decide +kernel
theorem box2_src (w : World) (e f : Ev) : Src (w.alloc (.cells (ecs [e, f]).toArray 27)) 18 (.slice (some ⟨w.heap.size, 0, none⟩) 2 2) 2 (ecs [e, f]) := Src.built w 27 (ecs [e, f]).toArray 18 2 rfl _ rfl
theorem box1_src (w : World) (e : Ev) : Src (w.alloc (.cells (ec e).toArray 27)) 18 (.slice (some ⟨w.heap.size, 0, none⟩) 1 1) 1 (ecs [e]) := by
  have h := Src.built w 27 (ec e).toArray 18 1 rfl _ rfl
  rw [ecs_single]
  exact h
def zz14 : ByteArray := ⟨(List.replicate 14 (0 : UInt8)).toArray⟩
theorem conv14 (W W' : World) (k : Keeps [] (W.alloc (.cells (Array.replicate 14 (.int .u8 0)) 5)) W') : (convert 36 9 (.slice (some ⟨W.heap.size, 0, none⟩) 14 14)).run Try.prog W' = .ok (.string zz14) W' :=
  run_bytes_str W' (some ⟨W.heap.size, 0, none⟩) 14 14 (List.replicate 14 0) (by simp) (Src.keep (Src.built W 5 (Array.replicate 14 (.int .u8 0)) 1 14 (by simp) _ rfl) k (by simp))
theorem run_make14 (w : World) : (Instr.makeSlice 36 (.int .i64 14) (.int .i64 14)).run Try.prog w = .ok (.slice (some ⟨w.heap.size, 0, none⟩) 14 14) (w.alloc (.cells (Array.replicate 14 (.int .u8 0)) 5)) := by kernel_rfl
theorem exec_make14 {o : Oper} {a : Act} {w : World} (ho : o.op = .makeSlice 36 (.const (.int .i64 14)) (.const (.int .i64 14))) : (execOp a.eval o).run Try.prog w = .ok (.value (.slice (some ⟨w.heap.size, 0, none⟩) 14 14)) (w.alloc (.cells (Array.replicate 14 (.int .u8 0)) 5)) := by
  have h := run_make14 w
  unfold execOp
  simp [ho, Act.eval, h]
theorem exec_conv {o : Oper} {a : Act} {w : World} {t u : TypeId} {p : Operand} {v r : Value} (ho : o.op = .convert t u p) (hp : a.eval p = v) (h : (convert t u v).run Try.prog w = .ok r w) : (execOp a.eval o).run Try.prog w = .ok (.value r) w := by
  unfold execOp
  simp [ho, hp, h]
theorem step_run {ops : Array Oper} {o : Oper} {a : Act} {w w' : World} {K : Act → World → Prop} {Q : Exit → Act → World → Prop} {E : Prop} {v : Value} (hw : Region.wanted o (yielded ops a.tmps) = true) (hr : (execOp a.eval o).run Try.prog w = .ok (.value v) w') (h : K (a.put o.dst v) w') : if Region.wanted o (yielded ops a.tmps) = true then Oper.wp Try.prog o a w K Q else E := by
  rw [if_pos hw]
  unfold Oper.wp
  rw [hr]
  exact h
theorem step_build2 {ops : Array Oper} {o : Oper} {a : Act} {w : World} {K : Act → World → Prop} {Q : Exit → Act → World → Prop} {E : Prop} (x y : Operand) (e f : Ev) (ho : o.op = .buildSlice 55 2 #[(0, x), (1, y)]) (hw : Region.wanted o (yielded ops a.tmps) = true) (hx : a.eval x = ev e) (hy : a.eval y = ev f)
    (h : K (a.put o.dst (.slice (some ⟨w.heap.size, 0, none⟩) 2 2)) (w.alloc (.cells (ecs [e, f]).toArray 27))) : if Region.wanted o (yielded ops a.tmps) = true then Oper.wp Try.prog o a w K Q else E := by
  rw [if_pos hw]
  have hr := run_build2 e f w
  unfold Oper.wp execOp
  simp [ho, hx, hy, hr]
  exact h
set_option maxHeartbeats 4000000 in
set_option maxRecDepth 100000 in
theorem sanity_any (w : World) : Calls Try.prog 13 #[] w fun r w' => r = .returned (.bool true) ∧ Keeps [] w w' := by
  obtain ⟨A1, A2, A3, A4, A5, A6, A7, h1, h2, h3, h4, h5, h6, h7, h8, h9⟩ := sane_facts
  have H1 := hide h1
  have H2 := hide h2
  have H3 := hide h3
  have H4 := hide h4
  have H5 := hide h5
  have H6 := hide h6
  have H7 := hide h7
  have H8 := hide h8
  have H9 := hide h9
  clear h1 h2 h3 h4 h5 h6 h7 h8 h9
  go_enter Try.func13, Try.ntmps13
  go_wp2_with (with_reducible refine Halt.store ?_)
  refine Halt.on ?_
  refine wpList_store_ev rfl _ _ rfl w.heap.size e0 rfl rfl 27 _ (Bk.new w 27 _) rfl ?_
  change wpList _ _ _ _ _ ((w.alloc (.cells (ec z0).toArray 27)).setRow w.heap.size (ec e0).toArray)
  have HB1 := hide (row_bk (Bk.new w 27 (ec z0).toArray) (ec e0).toArray)
  have HK1 := hide (((Keeps.refl [] w).alloc (.cells (ec z0).toArray 27)).setRow (g := w.heap.size) (.inr (Nat.le_refl _)) (ec e0).toArray)
  generalize (w.alloc (.cells (ec z0).toArray 27)).setRow w.heap.size (ec e0).toArray = w1 at HB1 HK1 ⊢
  have HW1 := hide (Nat.le_refl w.heap.size)
  generalize hb1 : w.heap.size = b1 at HB1 HW1 ⊢
  clear hb1 HW1
  go_wp2_with (with_reducible refine Halt.load ?_)
  refine Halt.on ?_
  refine wpList_load_ev rfl _ rfl b1 0 e0 rfl (EvAt.box HB1.out) ?_
  go_wp2_with (with_reducible refine Halt.store ?_)
  refine Halt.on ?_
  refine wpList_store_ev rfl _ _ rfl w1.heap.size e0 rfl rfl 27 _ (Bk.new w1 27 _) rfl ?_
  change wpList _ _ _ _ _ ((w1.alloc (.cells (ec z0).toArray 27)).setRow w1.heap.size (ec e0).toArray)
  have HB2 := hide (row_bk (Bk.new w1 27 (ec z0).toArray) (ec e0).toArray)
  have hk2 : Keeps [] w1 ((w1.alloc (.cells (ec z0).toArray 27)).setRow w1.heap.size (ec e0).toArray) := ((Keeps.refl [] w1).alloc (.cells (ec z0).toArray 27)).setRow (g := w1.heap.size) (.inr (Nat.le_refl _)) (ec e0).toArray
  have HB12 := hide (HB1.out.keep hk2 (by simp))
  have HK2 := hide (HK1.out.trans' hk2)
  have hn12 : b1 ≠ w1.heap.size := by have := HB1.out.lt; omega
  have hnw2 : w.heap.size ≤ w1.heap.size := HK1.out.size
  clear hk2 HB1 HK1
  generalize (w1.alloc (.cells (ec z0).toArray 27)).setRow w1.heap.size (ec e0).toArray = w2 at HB2 HB12 HK2 ⊢
  generalize w1.heap.size = b2 at HB2 hn12 hnw2 ⊢
  have c17 : w2.cell? ⟨b2, 17, none⟩ = some (.string ⟨#[97]⟩) := HB2.out.cell 17
  have f17 : w2.frozen? ⟨b2, 17, none⟩ = false := HB2.out.free 17
  have HB23 := hide (show Bk (w2.setCell ⟨b2, 17, none⟩ (.string ⟨#[98]⟩)) b2 27 (ec f0).toArray from HB2.out.set 17 _)
  have HB13 := hide (HB12.out.far (p := ⟨b2, 17, none⟩) hn12 (.string ⟨#[98]⟩))
  have HK3 := hide (HK2.out.setCell (p := ⟨b2, 17, none⟩) (.inr hnw2) (.string ⟨#[98]⟩))
  clear HB12 HB2 HK2
  go_wp2_with (with_reducible refine Halt.load ?_)
  refine Halt.on ?_
  clear c17 f17
  generalize w2.setCell ⟨b2, 17, none⟩ (.string ⟨#[98]⟩) = w3 at HB23 HB13 HK3 ⊢
  refine wpList_load_ev rfl _ rfl b1 0 e0 rfl (EvAt.box HB13.out) ?_
  go_wp2_with (with_reducible refine Halt.store ?_)
  refine Halt.on ?_
  refine wpList_store_ev rfl _ _ rfl w3.heap.size e0 rfl rfl 27 _ (Bk.new w3 27 _) rfl ?_
  change wpList _ _ _ _ _ ((w3.alloc (.cells (ec z0).toArray 27)).setRow w3.heap.size (ec e0).toArray)
  have HB3 := hide (row_bk (Bk.new w3 27 (ec z0).toArray) (ec e0).toArray)
  have hk4 : Keeps [] w3 ((w3.alloc (.cells (ec z0).toArray 27)).setRow w3.heap.size (ec e0).toArray) := ((Keeps.refl [] w3).alloc (.cells (ec z0).toArray 27)).setRow (g := w3.heap.size) (.inr (Nat.le_refl _)) (ec e0).toArray
  have HB14 := hide (HB13.out.keep hk4 (by simp))
  have HB24 := hide (HB23.out.keep hk4 (by simp))
  have HK4 := hide (HK3.out.trans' hk4)
  have hn13 : b1 ≠ w3.heap.size := by have := HB13.out.lt; omega
  have hn23 : b2 ≠ w3.heap.size := by have := HB23.out.lt; omega
  have hnw4 : w.heap.size ≤ w3.heap.size := HK3.out.size
  clear hk4 HB13 HB23 HK3
  generalize (w3.alloc (.cells (ec z0).toArray 27)).setRow w3.heap.size (ec e0).toArray = w4 at HB3 HB14 HB24 HK4 ⊢
  generalize w3.heap.size = b3 at HB3 hn13 hn23 hnw4 ⊢
  have c0 : w4.cell? ⟨b3, 0, none⟩ = some (.int .i64 5) := HB3.out.cell 0
  have c1 : w4.cell? ⟨b3, 1, none⟩ = some (.int .i64 1) := HB3.out.cell 1
  have c2 : w4.cell? ⟨b3, 2, none⟩ = some (.int .i64 1) := HB3.out.cell 2
  have f0' : w4.frozen? ⟨b3, 0, none⟩ = false := HB3.out.free 0
  have f1 : w4.frozen? ⟨b3, 1, none⟩ = false := HB3.out.free 1
  have f2 : w4.frozen? ⟨b3, 2, none⟩ = false := HB3.out.free 2
  have HB35 := hide (show Bk (((w4.setCell ⟨b3, 0, none⟩ (.int .i64 4)).setCell ⟨b3, 1, none⟩ (.int .i64 9)).setCell ⟨b3, 2, none⟩ (.int .i64 9)) b3 27 (ec g0).toArray from ((HB3.out.set 0 _).set 1 _).set 2 _)
  have HB15 := hide (((HB14.out.far (p := ⟨b3, 0, none⟩) hn13 (.int .i64 4)).far (p := ⟨b3, 1, none⟩) hn13 (.int .i64 9)).far (p := ⟨b3, 2, none⟩) hn13 (.int .i64 9))
  have HB25 := hide (((HB24.out.far (p := ⟨b3, 0, none⟩) hn23 (.int .i64 4)).far (p := ⟨b3, 1, none⟩) hn23 (.int .i64 9)).far (p := ⟨b3, 2, none⟩) hn23 (.int .i64 9))
  have HK5 := hide (((HK4.out.setCell (p := ⟨b3, 0, none⟩) (.inr hnw4) (.int .i64 4)).setCell (p := ⟨b3, 1, none⟩) (.inr hnw4) (.int .i64 9)).setCell (p := ⟨b3, 2, none⟩) (.inr hnw4) (.int .i64 9))
  clear HB3 HB14 HB24 HK4
  go_wp2_with fail
  generalize ((w4.setCell ⟨b3, 0, none⟩ (.int .i64 4)).setCell ⟨b3, 1, none⟩ (.int .i64 9)).setCell ⟨b3, 2, none⟩ (.int .i64 9) = w5 at HB35 HB15 HB25 HK5 ⊢
  clear c0 c1 c2 f0' f1 f2 hn12 hnw2 hn13 hn23 hnw4
  have HE := hide (EvAt.box HB15.out)
  have HF := hide (EvAt.box HB25.out)
  have HG := hide (EvAt.box HB35.out)
  clear HB15 HB25 HB35
  refine (new_sn w5).mono ?_
  rintro r w6 ⟨rfl, hs6⟩
  have HS6 := hide hs6
  clear hs6
  generalize w5.heap.size = g at HS6 ⊢
  go_wp2
  go_cut [5] (fun s5 wx => s5 = .bool true ∧ Hid (Sn 66 w5 wx g A4))
  case first =>
    refine wp_region_held_drew (S := (fun w' => Hid (Keeps [] w5 w'))) (by kernel_rfl) (hide HS6.out.keeps.drew) (fun hS => ?_)
    have h6d := HS6.out.keep ((Keeps.refl [] w6).drew)
    refine wpAnyH_take (i := 0) (oi := { dst := some 17, op := _, type := _, pos := _, after := _, guard := _ }) (v := ?_) rfl (by kernel_rfl) (by kernel_rfl) (by kernel_rfl) (fun _ _ _ h => h) (Or.inl ⟨by rfl, ?_⟩) hS ?_
    rotate_left
    · (intro w' hSw; go_simp; try with_reducible rfl)
    simp only [Act.put, List.setIfInBounds_toArray, List.set_cons_zero, List.set_cons_succ]
    refine wpAnyH_take (i := 1) (oi := { dst := some 18, op := _, type := _, pos := _, after := _, guard := _ }) rfl (by kernel_rfl) (by kernel_rfl) (by kernel_rfl) (fun _ _ _ h => h) (yl_ev _ b1 0 e0 rfl (by rfl) (by rfl) (fun _ h => HE.out.keep h.out)) hS ?_
    simp only [Act.put, List.setIfInBounds_toArray, List.set_cons_zero, List.set_cons_succ]
    refine wpAnyH_ready (rs := [2]) (by kernel_rfl) (by simp) ?_
    refine AllReadyH.cons (o := { dst := some 19, op := _, type := _, pos := _, after := _, guard := _ }) rfl (fun K hK => ?_) AllReadyH.nil
    go_simp
    refine (h6d.take e0 (by decide) (by decide)).mono ?_
    rintro r2 w7 ⟨hr, h7⟩
    rw [H1.out.2] at hr
    rw [H1.out.1] at h7
    subst hr
    refine hK.out _ _ (hide h7.keeps) (fun hS => ?_)
    clear hK K
    refine wpAnyH_take (i := 3) (oi := { dst := some 20, op := _, type := _, pos := _, after := _, guard := _ }) (v := ?_) rfl (by kernel_rfl) (by kernel_rfl) (by kernel_rfl) (fun _ _ _ h => h) (Or.inl ⟨by rfl, ?_⟩) hS ?_
    rotate_left
    · (intro w' hSw; go_simp; try with_reducible rfl)
    simp only [Act.put, List.setIfInBounds_toArray, List.set_cons_zero, List.set_cons_succ]
    refine wpAnyH_take (i := 4) (oi := { dst := some 21, op := _, type := _, pos := _, after := _, guard := _ }) (v := ?_) rfl (by kernel_rfl) (by kernel_rfl) (by kernel_rfl) (fun _ _ _ h => h) (Or.inl ⟨by rfl, ?_⟩) hS ?_
    rotate_left
    · (intro w' hSw; go_simp; try with_reducible rfl)
    simp only [Act.put, List.setIfInBounds_toArray, List.set_cons_zero, List.set_cons_succ]
    refine wpAnyH_take (i := 5) (oi := { dst := some 22, op := _, type := _, pos := _, after := _, guard := _ }) (v := ?_) rfl (by kernel_rfl) (by kernel_rfl) (by kernel_rfl) (fun _ _ _ h => h) (Or.inl ⟨by rfl, ?_⟩) hS ?_
    rotate_left
    · (intro w' hSw; go_simp; try with_reducible rfl)
    simp only [Act.put, List.setIfInBounds_toArray, List.set_cons_zero, List.set_cons_succ]
    refine wpAnyH_take (i := 6) (oi := { dst := some 23, op := _, type := _, pos := _, after := _, guard := _ }) rfl (by kernel_rfl) (by kernel_rfl) (by kernel_rfl) (fun _ _ _ h => h) (yl_ev _ b1 0 e0 rfl (by rfl) (by rfl) (fun _ h => HE.out.keep h.out)) hS ?_
    simp only [Act.put, List.setIfInBounds_toArray, List.set_cons_zero, List.set_cons_succ]
    refine wpAnyH_ready (rs := [7]) (by kernel_rfl) (by simp) ?_
    refine AllReadyH.cons (o := { dst := some 24, op := _, type := _, pos := _, after := _, guard := _ }) rfl (fun K hK => ?_) AllReadyH.nil
    go_simp
    refine (h7.take e0 (by decide) (by decide)).mono ?_
    rintro r2 w8 ⟨hr, h8⟩
    rw [H2.out.2] at hr
    rw [H2.out.1] at h8
    subst hr
    refine hK.out _ _ (hide h8.keeps) (fun hS => ?_)
    clear hK K
    refine wpAnyH_take (i := 8) (oi := { dst := some 25, op := _, type := _, pos := _, after := _, guard := _ }) (v := ?_) rfl (by kernel_rfl) (by kernel_rfl) (by kernel_rfl) (fun _ _ _ h => h) (Or.inl ⟨by rfl, ?_⟩) hS ?_
    rotate_left
    · (intro w' hSw; go_simp; try with_reducible rfl)
    simp only [Act.put, List.setIfInBounds_toArray, List.set_cons_zero, List.set_cons_succ]
    refine wpAnyH_take (i := 9) (oi := { dst := some 26, op := _, type := _, pos := _, after := _, guard := _ }) (v := ?_) rfl (by kernel_rfl) (by kernel_rfl) (by kernel_rfl) (fun _ _ _ h => h) (Or.inl ⟨by rfl, ?_⟩) hS ?_
    rotate_left
    · (intro w' hSw; go_simp; try with_reducible rfl)
    simp only [Act.put, List.setIfInBounds_toArray, List.set_cons_zero, List.set_cons_succ]
    refine wpAnyH_take (i := 10) (oi := { dst := some 27, op := _, type := _, pos := _, after := _, guard := _ }) (v := ?_) rfl (by kernel_rfl) (by kernel_rfl) (by kernel_rfl) (fun _ _ _ h => h) (Or.inl ⟨by rfl, ?_⟩) hS ?_
    rotate_left
    · (intro w' hSw; go_simp; try with_reducible rfl)
    simp only [Act.put, List.setIfInBounds_toArray, List.set_cons_zero, List.set_cons_succ]
    refine wpAnyH_take (i := 11) (oi := { dst := some 28, op := _, type := _, pos := _, after := _, guard := _ }) (v := ?_) rfl (by kernel_rfl) (by kernel_rfl) (by kernel_rfl) (fun _ _ _ h => h) (Or.inl ⟨by rfl, ?_⟩) hS ?_
    rotate_left
    · (intro w' hSw; go_simp; try with_reducible rfl)
    simp only [Act.put, List.setIfInBounds_toArray, List.set_cons_zero, List.set_cons_succ]
    refine wpAnyH_take (i := 12) (oi := { dst := some 29, op := _, type := _, pos := _, after := _, guard := _ }) rfl (by kernel_rfl) (by kernel_rfl) (by kernel_rfl) (fun _ _ _ h => h) (yl_ev _ b2 0 f0 rfl (by rfl) (by rfl) (fun _ h => HF.out.keep h.out)) hS ?_
    simp only [Act.put, List.setIfInBounds_toArray, List.set_cons_zero, List.set_cons_succ]
    refine wpAnyH_ready (rs := [13]) (by kernel_rfl) (by simp) ?_
    refine AllReadyH.cons (o := { dst := some 30, op := _, type := _, pos := _, after := _, guard := _ }) rfl (fun K hK => ?_) AllReadyH.nil
    go_simp
    refine (h8.take f0 (by decide) (by decide)).mono ?_
    rintro r2 w9 ⟨hr, h9⟩
    rw [H3.out.2] at hr
    rw [H3.out.1] at h9
    subst hr
    refine hK.out _ _ (hide h9.keeps) (fun hS => ?_)
    clear hK K
    refine wpAnyH_take (i := 14) (oi := { dst := some 31, op := _, type := _, pos := _, after := _, guard := _ }) (v := ?_) rfl (by kernel_rfl) (by kernel_rfl) (by kernel_rfl) (fun _ _ _ h => h) (Or.inl ⟨by rfl, ?_⟩) hS ?_
    rotate_left
    · (intro w' hSw; go_simp; try with_reducible rfl)
    simp only [Act.put, List.setIfInBounds_toArray, List.set_cons_zero, List.set_cons_succ]
    refine wpAnyH_take (i := 15) (oi := { dst := some 32, op := _, type := _, pos := _, after := _, guard := _ }) (v := ?_) rfl (by kernel_rfl) (by kernel_rfl) (by kernel_rfl) (fun _ _ _ h => h) (Or.inl ⟨by rfl, ?_⟩) hS ?_
    rotate_left
    · (intro w' hSw; go_simp; try with_reducible rfl)
    simp only [Act.put, List.setIfInBounds_toArray, List.set_cons_zero, List.set_cons_succ]
    refine wpAnyH_take (i := 16) (oi := { dst := some 33, op := _, type := _, pos := _, after := _, guard := _ }) (v := ?_) rfl (by kernel_rfl) (by kernel_rfl) (by kernel_rfl) (fun _ _ _ h => h) (Or.inl ⟨by rfl, ?_⟩) hS ?_
    rotate_left
    · (intro w' hSw; go_simp; try with_reducible rfl)
    simp only [Act.put, List.setIfInBounds_toArray, List.set_cons_zero, List.set_cons_succ]
    refine wpAnyH_take (i := 17) (oi := { dst := some 34, op := _, type := _, pos := _, after := _, guard := _ }) (v := ?_) rfl (by kernel_rfl) (by kernel_rfl) (by kernel_rfl) (fun _ _ _ h => h) (Or.inl ⟨by rfl, ?_⟩) hS ?_
    rotate_left
    · (intro w' hSw; go_simp; try with_reducible rfl)
    simp only [Act.put, List.setIfInBounds_toArray, List.set_cons_zero, List.set_cons_succ]
    refine wpAnyH_take (i := 18) (oi := { dst := some 35, op := _, type := _, pos := _, after := _, guard := _ }) rfl (by kernel_rfl) (by kernel_rfl) (by kernel_rfl) (fun _ _ _ h => h) (yl_ev _ b3 0 g0 rfl (by rfl) (by rfl) (fun _ h => HG.out.keep h.out)) hS ?_
    simp only [Act.put, List.setIfInBounds_toArray, List.set_cons_zero, List.set_cons_succ]
    refine wpAnyH_ready (rs := [19]) (by kernel_rfl) (by simp) ?_
    refine AllReadyH.cons (o := { dst := some 36, op := _, type := _, pos := _, after := _, guard := _ }) rfl (fun K hK => ?_) AllReadyH.nil
    go_simp
    refine (h9.take g0 (by decide) (by decide)).mono ?_
    rintro r2 w10 ⟨hr, h10⟩
    rw [H4.out.2] at hr
    rw [H4.out.1] at h10
    subst hr
    refine hK.out _ _ (hide h10.keeps) (fun hS => ?_)
    clear hK K
    refine wpAnyH_take (i := 20) (oi := { dst := some 37, op := _, type := _, pos := _, after := _, guard := _ }) (v := ?_) rfl (by kernel_rfl) (by kernel_rfl) (by kernel_rfl) (fun _ _ _ h => h) (Or.inl ⟨by rfl, ?_⟩) hS ?_
    rotate_left
    · (intro w' hSw; go_simp; try with_reducible rfl)
    simp only [Act.put, List.setIfInBounds_toArray, List.set_cons_zero, List.set_cons_succ]
    refine wpAnyH_take (i := 21) (oi := { dst := some 38, op := _, type := _, pos := _, after := _, guard := _ }) (v := ?_) rfl (by kernel_rfl) (by kernel_rfl) (by kernel_rfl) (fun _ _ _ h => h) (Or.inl ⟨by rfl, ?_⟩) hS ?_
    rotate_left
    · (intro w' hSw; go_simp; try with_reducible rfl)
    simp only [Act.put, List.setIfInBounds_toArray, List.set_cons_zero, List.set_cons_succ]
    refine wpAnyH_take (i := 22) (oi := { dst := some 39, op := _, type := _, pos := _, after := _, guard := _ }) (v := ?_) rfl (by kernel_rfl) (by kernel_rfl) (by kernel_rfl) (fun _ _ _ h => h) (Or.inl ⟨by rfl, ?_⟩) hS ?_
    rotate_left
    · (intro w' hSw; go_simp; try with_reducible rfl)
    simp only [Act.put, List.setIfInBounds_toArray, List.set_cons_zero, List.set_cons_succ]
    refine wpAnyH_take (i := 23) (oi := { dst := some 40, op := _, type := _, pos := _, after := _, guard := _ }) (v := ?_) rfl (by kernel_rfl) (by kernel_rfl) (by kernel_rfl) (fun _ _ _ h => h) (Or.inl ⟨by rfl, ?_⟩) hS ?_
    rotate_left
    · (intro w' hSw; go_simp; try with_reducible rfl)
    simp only [Act.put, List.setIfInBounds_toArray, List.set_cons_zero, List.set_cons_succ]
    refine wpAnyH_take (i := 25) (oi := { dst := some 42, op := _, type := _, pos := _, after := _, guard := _ }) rfl (by kernel_rfl) (by kernel_rfl) (by kernel_rfl) (fun _ _ _ h => h) (yl_ev _ b3 0 g0 rfl (by rfl) (by rfl) (fun _ h => HG.out.keep h.out)) hS ?_
    simp only [Act.put, List.setIfInBounds_toArray, List.set_cons_zero, List.set_cons_succ]
    refine wpAnyH_take (i := 26) (oi := { dst := some 43, op := _, type := _, pos := _, after := _, guard := _ }) rfl (by kernel_rfl) (by kernel_rfl) (by kernel_rfl) (fun _ _ _ h => h) (yl_ev _ b1 0 e0 rfl (by rfl) (by rfl) (fun _ h => HE.out.keep h.out)) hS ?_
    simp only [Act.put, List.setIfInBounds_toArray, List.set_cons_zero, List.set_cons_succ]
    refine wpAnyH_ready (rs := [24, 27]) (by kernel_rfl) (by simp) ?_
    refine AllReadyH.cons (o := { dst := some 41, op := _, type := _, pos := _, after := _, guard := _ }) rfl (fun K hK => ?_) (AllReadyH.cons (o := { dst := some 44, op := _, type := _, pos := _, after := _, guard := _ }) rfl (fun K hK => ?_) AllReadyH.nil)
    · go_simp
      refine h10.events.mono ?_
      rintro r2 w11 ⟨v11, rfl, e11, n11, h11, k11⟩
      obtain ⟨A11, c11, rfl⟩ := Own.slice e11
      refine hK.out _ _ (hide h11.keeps) (fun hS => ?_)
      clear hK K
      refine wpAnyH_ready (rs := [27]) (by kernel_rfl) (by simp) ?_
      refine AllReadyH.cons (o := { dst := some 44, op := _, type := _, pos := _, after := _, guard := _ }) rfl (fun K hK => ?_) AllReadyH.nil
      refine step_build2 _ _ g0 e0 rfl (by rfl) (by rfl) (by rfl) ?_
      refine hK.out _ _ (hide (hS.out.alloc _)) (fun hS => ?_)
      clear hK K
      try simp only [Act.put, List.setIfInBounds_toArray, List.set_cons_zero, List.set_cons_succ]
      refine wpAnyH_ready (rs := [28]) (by kernel_rfl) (by simp) ?_
      refine AllReadyH.cons (o := { dst := some 45, op := _, type := _, pos := _, after := _, guard := _ }) rfl (fun K hK => ?_) AllReadyH.nil
      go_simp
      refine (same_any A11 (some ⟨w11.heap.size, 0, none⟩) c11 2 A4.L [g0, e0] _ (by rw [H5.out]; decide) (by decide) (Own.src (Own.alloc e11 _)) (box2_src w11 g0 e0)).mono ?_
      rintro r3 w12 ⟨hr, k12⟩
      rw [H5.out, decide_eq_true rfl] at hr
      subst hr
      refine hK.out _ _ (hide (hS.out.trans' k12)) (fun hS => ?_)
      clear hK K
      refine wpAnyH_take (i := 29) (oi := { dst := some 46, op := _, type := _, pos := _, after := _, guard := _ }) (v := ?_) rfl (by kernel_rfl) (by kernel_rfl) (by kernel_rfl) (fun _ _ _ h => h) (Or.inl ⟨by rfl, ?_⟩) hS ?_
      rotate_left
      · (intro w' hSw; go_simp; try with_reducible rfl)
      simp only [Act.put, List.setIfInBounds_toArray, List.set_cons_zero, List.set_cons_succ]
      refine wpAnyH_take (i := 30) (oi := { dst := some 5, op := _, type := _, pos := _, after := _, guard := _ }) (v := ?_) rfl (by kernel_rfl) (by kernel_rfl) (by kernel_rfl) (fun _ _ _ h => h) (Or.inl ⟨by rfl, ?_⟩) hS ?_
      rotate_left
      · (intro w' hSw; go_simp; try with_reducible rfl)
      simp only [Act.put, List.setIfInBounds_toArray, List.set_cons_zero, List.set_cons_succ]
      refine wpAnyH_done (by kernel_rfl) ?_ _
      go_wp2_with fail
      go_meet
      exact ⟨rfl, hide ((h11.keep ((Keeps.refl [] _).alloc _)).keep k12)⟩
    · refine step_build2 _ _ g0 e0 rfl (by rfl) (by rfl) (by rfl) ?_
      refine hK.out _ _ (hide (hS.out.alloc _)) (fun hS => ?_)
      clear hK K
      try simp only [Act.put, List.setIfInBounds_toArray, List.set_cons_zero, List.set_cons_succ]
      refine wpAnyH_ready (rs := [24]) (by kernel_rfl) (by simp) ?_
      refine AllReadyH.cons (o := { dst := some 41, op := _, type := _, pos := _, after := _, guard := _ }) rfl (fun K hK => ?_) AllReadyH.nil
      go_simp
      refine (h10.keep ((Keeps.refl [] _).alloc (.cells (ecs [g0, e0]).toArray 27))).events.mono ?_
      rintro r2 w11 ⟨v11, rfl, e11, n11, h11, k11⟩
      obtain ⟨A11, c11, rfl⟩ := Own.slice e11
      refine hK.out _ _ (hide h11.keeps) (fun hS => ?_)
      clear hK K
      refine wpAnyH_ready (rs := [28]) (by kernel_rfl) (by simp) ?_
      refine AllReadyH.cons (o := { dst := some 45, op := _, type := _, pos := _, after := _, guard := _ }) rfl (fun K hK => ?_) AllReadyH.nil
      go_simp
      refine (same_any A11 (some ⟨w10.heap.size, 0, none⟩) c11 2 A4.L [g0, e0] _ (by rw [H5.out]; decide) (by decide) (Own.src e11) (Src.keep (box2_src w10 g0 e0) k11 (by simp))).mono ?_
      rintro r3 w12 ⟨hr, k12⟩
      rw [H5.out, decide_eq_true rfl] at hr
      subst hr
      refine hK.out _ _ (hide (hS.out.trans' k12)) (fun hS => ?_)
      clear hK K
      refine wpAnyH_take (i := 29) (oi := { dst := some 46, op := _, type := _, pos := _, after := _, guard := _ }) (v := ?_) rfl (by kernel_rfl) (by kernel_rfl) (by kernel_rfl) (fun _ _ _ h => h) (Or.inl ⟨by rfl, ?_⟩) hS ?_
      rotate_left
      · (intro w' hSw; go_simp; try with_reducible rfl)
      simp only [Act.put, List.setIfInBounds_toArray, List.set_cons_zero, List.set_cons_succ]
      refine wpAnyH_take (i := 30) (oi := { dst := some 5, op := _, type := _, pos := _, after := _, guard := _ }) (v := ?_) rfl (by kernel_rfl) (by kernel_rfl) (by kernel_rfl) (fun _ _ _ h => h) (Or.inl ⟨by rfl, ?_⟩) hS ?_
      rotate_left
      · (intro w' hSw; go_simp; try with_reducible rfl)
      simp only [Act.put, List.setIfInBounds_toArray, List.set_cons_zero, List.set_cons_succ]
      refine wpAnyH_done (by kernel_rfl) ?_ _
      go_wp2_with fail
      go_meet
      exact ⟨rfl, hide (h11.keep k12)⟩
  case rest =>
  obtain ⟨rfl, HS10⟩ := hcut
  obtain ⟨w20, rfl⟩ : ∃ w20 : World, w20 = wc := ⟨_, rfl⟩
  clear HS6 H1 H2 H3 H4 H5
  go_wp2
  go_cut [6] (fun s6 wx => s6 = .bool true ∧ Hid (Keeps [] w5 wx))
  case first =>
    refine wp_region_held_drew (S := (fun w' => Hid (Keeps [] w5 w'))) (by kernel_rfl) (hide HS10.out.keeps.drew) (fun hS => ?_)
    have h20 := HS10.out.keep ((Keeps.refl [] w20).drew)
    refine wpAnyH_take (i := 0) (oi := { dst := some 47, op := _, type := _, pos := _, after := _, guard := _ }) (v := ?_) rfl (by kernel_rfl) (by kernel_rfl) (by kernel_rfl) (fun _ _ _ h => h) (Or.inl ⟨by rfl, ?_⟩) hS ?_
    rotate_left
    · (intro w' hSw; go_simp; try with_reducible rfl)
    simp only [Act.put, List.setIfInBounds_toArray, List.set_cons_zero, List.set_cons_succ]
    refine wpAnyH_take (i := 2) (oi := { dst := some 49, op := _, type := _, pos := _, after := _, guard := _ }) rfl (by kernel_rfl) (by kernel_rfl) (by kernel_rfl) (fun _ _ _ h => h) (yl_ev _ b3 0 g0 rfl (by rfl) (by rfl) (fun _ h => HG.out.keep h.out)) hS ?_
    simp only [Act.put, List.setIfInBounds_toArray, List.set_cons_zero, List.set_cons_succ]
    refine wpAnyH_ready (rs := [1, 3]) (by kernel_rfl) (by simp) ?_
    refine AllReadyH.cons (o := { dst := some 48, op := _, type := _, pos := _, after := _, guard := _ }) rfl (fun K hK => ?_) (AllReadyH.cons (o := { dst := some 50, op := _, type := _, pos := _, after := _, guard := _ }) rfl (fun K hK => ?_) AllReadyH.nil)
    · go_simp
      refine (h20.settle 4 (by decide) (by decide)).mono ?_
      rintro r2 w21 ⟨v21, rfl, e21, n21, h21⟩
      rw [H6.out.2] at e21
      rw [H6.out.1] at h21
      have e21' : Own w21 27 18 v21 1 (ecs [g0]) := e21
      obtain ⟨A21, c21, rfl⟩ := Own.slice e21'
      refine hK.out _ _ (hide h21.keeps) (fun hS => ?_)
      clear hK K
      try simp only [Act.put, List.setIfInBounds_toArray, List.set_cons_zero, List.set_cons_succ]
      refine wpAnyH_ready (rs := [3]) (by kernel_rfl) (by simp) ?_
      refine AllReadyH.cons (o := { dst := some 50, op := _, type := _, pos := _, after := _, guard := _ }) rfl (fun K hK => ?_) AllReadyH.nil
      refine step_build1 _ g0 rfl (by rfl) (by rfl) ?_
      refine hK.out _ _ (hide (hS.out.alloc _)) (fun hS => ?_)
      clear hK K
      try simp only [Act.put, List.setIfInBounds_toArray, List.set_cons_zero, List.set_cons_succ]
      refine wpAnyH_ready (rs := [4]) (by kernel_rfl) (by simp) ?_
      refine AllReadyH.cons (o := { dst := some 51, op := _, type := _, pos := _, after := _, guard := _ }) rfl (fun K hK => ?_) AllReadyH.nil
      go_simp
      refine (same_any A21 (some ⟨w21.heap.size, 0, none⟩) c21 1 [g0] [g0] _ (by decide) (by decide) (Own.src (Own.alloc e21' _)) (box1_src w21 g0)).mono ?_
      rintro r3 w22 ⟨hr, k22⟩
      rw [decide_eq_true rfl] at hr
      subst hr
      refine hK.out _ _ (hide (hS.out.trans' k22)) (fun hS => ?_)
      clear hK K
      have h22 := (h21.keep ((Keeps.refl [] _).alloc (.cells (ec g0).toArray 27))).keep k22
      refine wpAnyH_take (i := 5) (oi := { dst := some 52, op := _, type := _, pos := _, after := _, guard := _ }) (v := ?_) rfl (by kernel_rfl) (by kernel_rfl) (by kernel_rfl) (fun _ _ _ h => h) (Or.inl ⟨by rfl, ?_⟩) hS ?_
      rotate_left
      · (intro w' hSw; go_simp; try with_reducible rfl)
      simp only [Act.put, List.setIfInBounds_toArray, List.set_cons_zero, List.set_cons_succ]
      refine wpAnyH_take (i := 6) (oi := { dst := some 53, op := _, type := _, pos := _, after := _, guard := _ }) (v := ?_) rfl (by kernel_rfl) (by kernel_rfl) (by kernel_rfl) (fun _ _ _ h => h) (Or.inl ⟨by rfl, ?_⟩) hS ?_
      rotate_left
      · (intro w' hSw; go_simp; try with_reducible rfl)
      simp only [Act.put, List.setIfInBounds_toArray, List.set_cons_zero, List.set_cons_succ]
      refine wpAnyH_ready (rs := [7]) (by kernel_rfl) (by simp) ?_
      refine AllReadyH.cons (o := { dst := some 54, op := _, type := _, pos := _, after := _, guard := _ }) rfl (fun K hK => ?_) AllReadyH.nil
      go_simp
      refine (h22.settle 3 (by decide) (by decide)).mono ?_
      rintro r4 w23 ⟨v23, rfl, e23, n23, h23⟩
      rw [H7.out.2] at e23
      rw [H7.out.1] at h23
      have e23' : Own w23 27 18 v23 0 [] := e23
      obtain ⟨A23, c23, rfl⟩ := Own.slice e23'
      refine hK.out _ _ (hide h23.keeps) (fun hS => ?_)
      clear hK K
      refine wpAnyH_take (i := 8) (oi := { dst := some 55, op := _, type := _, pos := _, after := _, guard := _ }) (v := ?_) rfl (by kernel_rfl) (by kernel_rfl) (by kernel_rfl) (fun _ _ _ h => h) (Or.inl ⟨by rfl, ?_⟩) hS ?_
      rotate_left
      · (intro w' hSw; go_simp; try with_reducible rfl)
      simp only [Act.put, List.setIfInBounds_toArray, List.set_cons_zero, List.set_cons_succ]
      refine wpAnyH_take (i := 9) (oi := { dst := some 56, op := _, type := _, pos := _, after := _, guard := _ }) (v := ?_) rfl (by kernel_rfl) (by kernel_rfl) (by kernel_rfl) (fun _ _ _ h => h) (Or.inl ⟨by rfl, ?_⟩) hS ?_
      rotate_left
      · (intro w' hSw; go_simp; try with_reducible rfl)
      simp only [Act.put, List.setIfInBounds_toArray, List.set_cons_zero, List.set_cons_succ]
      refine wpAnyH_take (i := 10) (oi := { dst := some 57, op := _, type := _, pos := _, after := _, guard := _ }) (v := ?_) rfl (by kernel_rfl) (by kernel_rfl) (by kernel_rfl) (fun _ _ _ h => h) (Or.inl ⟨by rfl, ?_⟩) hS ?_
      rotate_left
      · (intro w' hSw; go_simp; try with_reducible rfl)
      simp only [Act.put, List.setIfInBounds_toArray, List.set_cons_zero, List.set_cons_succ]
      refine wpAnyH_take (i := 11) (oi := { dst := some 58, op := _, type := _, pos := _, after := _, guard := _ }) (v := ?_) rfl (by kernel_rfl) (by kernel_rfl) (by kernel_rfl) (fun _ _ _ h => h) (Or.inl ⟨by rfl, ?_⟩) hS ?_
      rotate_left
      · (intro w' hSw; go_simp; try with_reducible rfl)
      simp only [Act.put, List.setIfInBounds_toArray, List.set_cons_zero, List.set_cons_succ]
      refine wpAnyH_take (i := 12) (oi := { dst := some 59, op := _, type := _, pos := _, after := _, guard := _ }) (v := ?_) rfl (by kernel_rfl) (by kernel_rfl) (by kernel_rfl) (fun _ _ _ h => h) (Or.inl ⟨by rfl, ?_⟩) hS ?_
      rotate_left
      · (intro w' hSw; go_simp; try with_reducible rfl)
      simp only [Act.put, List.setIfInBounds_toArray, List.set_cons_zero, List.set_cons_succ]
      refine wpAnyH_take (i := 13) (oi := { dst := some 60, op := _, type := _, pos := _, after := _, guard := _ }) rfl (by kernel_rfl) (by kernel_rfl) (by kernel_rfl) (fun _ _ _ h => h) (yl_ev _ b3 0 g0 rfl (by rfl) (by rfl) (fun _ h => HG.out.keep h.out)) hS ?_
      simp only [Act.put, List.setIfInBounds_toArray, List.set_cons_zero, List.set_cons_succ]
      refine wpAnyH_ready (rs := [14]) (by kernel_rfl) (by simp) ?_
      refine AllReadyH.cons (o := { dst := some 61, op := _, type := _, pos := _, after := _, guard := _ }) rfl (fun K hK => ?_) AllReadyH.nil
      go_simp
      refine (h23.take g0 (by decide) (by decide)).mono ?_
      rintro r2 w24 ⟨hr, h24⟩
      rw [H8.out.2] at hr
      rw [H8.out.1] at h24
      subst hr
      refine hK.out _ _ (hide h24.keeps) (fun hS => ?_)
      clear hK K
      refine wpAnyH_take (i := 15) (oi := { dst := some 62, op := _, type := _, pos := _, after := _, guard := _ }) (v := ?_) rfl (by kernel_rfl) (by kernel_rfl) (by kernel_rfl) (fun _ _ _ h => h) (Or.inl ⟨by rfl, ?_⟩) hS ?_
      rotate_left
      · (intro w' hSw; go_simp; try with_reducible rfl)
      simp only [Act.put, List.setIfInBounds_toArray, List.set_cons_zero, List.set_cons_succ]
      refine wpAnyH_take (i := 16) (oi := { dst := some 63, op := _, type := _, pos := _, after := _, guard := _ }) (v := ?_) rfl (by kernel_rfl) (by kernel_rfl) (by kernel_rfl) (fun _ _ _ h => h) (Or.inl ⟨by rfl, ?_⟩) hS ?_
      rotate_left
      · (intro w' hSw; go_simp; try with_reducible rfl)
      simp only [Act.put, List.setIfInBounds_toArray, List.set_cons_zero, List.set_cons_succ]
      refine wpAnyH_take (i := 17) (oi := { dst := some 64, op := _, type := _, pos := _, after := _, guard := _ }) (v := ?_) rfl (by kernel_rfl) (by kernel_rfl) (by kernel_rfl) (fun _ _ _ h => h) (Or.inl ⟨by rfl, ?_⟩) hS ?_
      rotate_left
      · (intro w' hSw; go_simp; try with_reducible rfl)
      simp only [Act.put, List.setIfInBounds_toArray, List.set_cons_zero, List.set_cons_succ]
      refine wpAnyH_take (i := 18) (oi := { dst := some 65, op := _, type := _, pos := _, after := _, guard := _ }) (v := ?_) rfl (by kernel_rfl) (by kernel_rfl) (by kernel_rfl) (fun _ _ _ h => h) (Or.inl ⟨by rfl, ?_⟩) hS ?_
      rotate_left
      · (intro w' hSw; go_simp; try with_reducible rfl)
      simp only [Act.put, List.setIfInBounds_toArray, List.set_cons_zero, List.set_cons_succ]
      refine wpAnyH_ready (rs := [19]) (by kernel_rfl) (by simp) ?_
      refine AllReadyH.cons (o := { dst := some 66, op := _, type := _, pos := _, after := _, guard := _ }) rfl (fun K hK => ?_) AllReadyH.nil
      go_simp
      refine h24.settled.mono ?_
      rintro r5 w25 ⟨rfl, rfl⟩
      rw [H9.out]
      refine hK.out _ _ hS (fun hS => ?_)
      clear hK K
      refine wpAnyH_take (i := 20) (oi := { dst := some 67, op := _, type := _, pos := _, after := _, guard := _ }) (v := ?_) rfl (by kernel_rfl) (by kernel_rfl) (by kernel_rfl) (fun _ _ _ h => h) (Or.inl ⟨by rfl, ?_⟩) hS ?_
      rotate_left
      · (intro w' hSw; go_simp; try with_reducible rfl)
      simp only [Act.put, List.setIfInBounds_toArray, List.set_cons_zero, List.set_cons_succ]
      refine wpAnyH_take (i := 21) (oi := { dst := some 68, op := _, type := _, pos := _, after := _, guard := _ }) (v := ?_) rfl (by kernel_rfl) (by kernel_rfl) (by kernel_rfl) (fun _ _ _ h => h) (Or.inl ⟨by rfl, ?_⟩) hS ?_
      rotate_left
      · (intro w' hSw; go_simp; try with_reducible rfl)
      simp only [Act.put, List.setIfInBounds_toArray, List.set_cons_zero, List.set_cons_succ]
      refine wpAnyH_take (i := 22) (oi := { dst := some 6, op := _, type := _, pos := _, after := _, guard := _ }) (v := ?_) rfl (by kernel_rfl) (by kernel_rfl) (by kernel_rfl) (fun _ _ _ h => h) (Or.inl ⟨by rfl, ?_⟩) hS ?_
      rotate_left
      · (intro w' hSw; go_simp; try with_reducible rfl)
      simp only [Act.put, List.setIfInBounds_toArray, List.set_cons_zero, List.set_cons_succ]
      refine wpAnyH_done (by kernel_rfl) ?_ _
      go_wp2_with fail
      go_meet
      exact ⟨rfl, hide h24.keeps⟩
    · refine step_build1 _ g0 rfl (by rfl) (by rfl) ?_
      refine hK.out _ _ (hide (hS.out.alloc _)) (fun hS => ?_)
      clear hK K
      try simp only [Act.put, List.setIfInBounds_toArray, List.set_cons_zero, List.set_cons_succ]
      refine wpAnyH_ready (rs := [1]) (by kernel_rfl) (by simp) ?_
      refine AllReadyH.cons (o := { dst := some 48, op := _, type := _, pos := _, after := _, guard := _ }) rfl (fun K hK => ?_) AllReadyH.nil
      go_simp
      obtain ⟨F, hF, hFa, hFk⟩ := h20
      refine (settle_any g F A4 4 _ (hF.keep0 ((Keeps.refl [] _).alloc (.cells (ec g0).toArray 27))) (by decide) (by decide)).mono ?_
      rintro r2 w21 ⟨v21, rfl, hst⟩
      have h21 := Sn.step hFa (hFk.alloc (.cells (ec g0).toArray 27)) hst.stp
      obtain ⟨e21, n21, F', q1, q2, q3, q4⟩ := hst
      rw [H6.out.2] at e21
      rw [H6.out.1] at h21
      have e21' : Own w21 27 18 v21 1 (ecs [g0]) := e21
      have hbs : Src w21 18 (.slice (some ⟨w20.drew.heap.size, 0, none⟩) 1 1) 1 (ecs [g0]) := Src.keep (box1_src w20.drew g0) q3 (fun _ b hb hm => by
        have h1 := hF.all b hm
        have h2 : w20.drew.heap.size = b := by simpa [Value.ownBlock] using hb
        omega)
      obtain ⟨A21, c21, rfl⟩ := Own.slice e21'
      refine hK.out _ _ (hide h21.keeps) (fun hS => ?_)
      clear hK K
      refine wpAnyH_ready (rs := [4]) (by kernel_rfl) (by simp) ?_
      refine AllReadyH.cons (o := { dst := some 51, op := _, type := _, pos := _, after := _, guard := _ }) rfl (fun K hK => ?_) AllReadyH.nil
      go_simp
      refine (same_any A21 (some ⟨w20.drew.heap.size, 0, none⟩) c21 1 [g0] [g0] _ (by decide) (by decide) (Own.src e21') hbs).mono ?_
      rintro r3 w22 ⟨hr, k22⟩
      rw [decide_eq_true rfl] at hr
      subst hr
      refine hK.out _ _ (hide (hS.out.trans' k22)) (fun hS => ?_)
      clear hK K
      have h22 := h21.keep k22
      refine wpAnyH_take (i := 5) (oi := { dst := some 52, op := _, type := _, pos := _, after := _, guard := _ }) (v := ?_) rfl (by kernel_rfl) (by kernel_rfl) (by kernel_rfl) (fun _ _ _ h => h) (Or.inl ⟨by rfl, ?_⟩) hS ?_
      rotate_left
      · (intro w' hSw; go_simp; try with_reducible rfl)
      simp only [Act.put, List.setIfInBounds_toArray, List.set_cons_zero, List.set_cons_succ]
      refine wpAnyH_take (i := 6) (oi := { dst := some 53, op := _, type := _, pos := _, after := _, guard := _ }) (v := ?_) rfl (by kernel_rfl) (by kernel_rfl) (by kernel_rfl) (fun _ _ _ h => h) (Or.inl ⟨by rfl, ?_⟩) hS ?_
      rotate_left
      · (intro w' hSw; go_simp; try with_reducible rfl)
      simp only [Act.put, List.setIfInBounds_toArray, List.set_cons_zero, List.set_cons_succ]
      refine wpAnyH_ready (rs := [7]) (by kernel_rfl) (by simp) ?_
      refine AllReadyH.cons (o := { dst := some 54, op := _, type := _, pos := _, after := _, guard := _ }) rfl (fun K hK => ?_) AllReadyH.nil
      go_simp
      refine (h22.settle 3 (by decide) (by decide)).mono ?_
      rintro r4 w23 ⟨v23, rfl, e23, n23, h23⟩
      rw [H7.out.2] at e23
      rw [H7.out.1] at h23
      have e23' : Own w23 27 18 v23 0 [] := e23
      obtain ⟨A23, c23, rfl⟩ := Own.slice e23'
      refine hK.out _ _ (hide h23.keeps) (fun hS => ?_)
      clear hK K
      refine wpAnyH_take (i := 8) (oi := { dst := some 55, op := _, type := _, pos := _, after := _, guard := _ }) (v := ?_) rfl (by kernel_rfl) (by kernel_rfl) (by kernel_rfl) (fun _ _ _ h => h) (Or.inl ⟨by rfl, ?_⟩) hS ?_
      rotate_left
      · (intro w' hSw; go_simp; try with_reducible rfl)
      simp only [Act.put, List.setIfInBounds_toArray, List.set_cons_zero, List.set_cons_succ]
      refine wpAnyH_take (i := 9) (oi := { dst := some 56, op := _, type := _, pos := _, after := _, guard := _ }) (v := ?_) rfl (by kernel_rfl) (by kernel_rfl) (by kernel_rfl) (fun _ _ _ h => h) (Or.inl ⟨by rfl, ?_⟩) hS ?_
      rotate_left
      · (intro w' hSw; go_simp; try with_reducible rfl)
      simp only [Act.put, List.setIfInBounds_toArray, List.set_cons_zero, List.set_cons_succ]
      refine wpAnyH_take (i := 10) (oi := { dst := some 57, op := _, type := _, pos := _, after := _, guard := _ }) (v := ?_) rfl (by kernel_rfl) (by kernel_rfl) (by kernel_rfl) (fun _ _ _ h => h) (Or.inl ⟨by rfl, ?_⟩) hS ?_
      rotate_left
      · (intro w' hSw; go_simp; try with_reducible rfl)
      simp only [Act.put, List.setIfInBounds_toArray, List.set_cons_zero, List.set_cons_succ]
      refine wpAnyH_take (i := 11) (oi := { dst := some 58, op := _, type := _, pos := _, after := _, guard := _ }) (v := ?_) rfl (by kernel_rfl) (by kernel_rfl) (by kernel_rfl) (fun _ _ _ h => h) (Or.inl ⟨by rfl, ?_⟩) hS ?_
      rotate_left
      · (intro w' hSw; go_simp; try with_reducible rfl)
      simp only [Act.put, List.setIfInBounds_toArray, List.set_cons_zero, List.set_cons_succ]
      refine wpAnyH_take (i := 12) (oi := { dst := some 59, op := _, type := _, pos := _, after := _, guard := _ }) (v := ?_) rfl (by kernel_rfl) (by kernel_rfl) (by kernel_rfl) (fun _ _ _ h => h) (Or.inl ⟨by rfl, ?_⟩) hS ?_
      rotate_left
      · (intro w' hSw; go_simp; try with_reducible rfl)
      simp only [Act.put, List.setIfInBounds_toArray, List.set_cons_zero, List.set_cons_succ]
      refine wpAnyH_take (i := 13) (oi := { dst := some 60, op := _, type := _, pos := _, after := _, guard := _ }) rfl (by kernel_rfl) (by kernel_rfl) (by kernel_rfl) (fun _ _ _ h => h) (yl_ev _ b3 0 g0 rfl (by rfl) (by rfl) (fun _ h => HG.out.keep h.out)) hS ?_
      simp only [Act.put, List.setIfInBounds_toArray, List.set_cons_zero, List.set_cons_succ]
      refine wpAnyH_ready (rs := [14]) (by kernel_rfl) (by simp) ?_
      refine AllReadyH.cons (o := { dst := some 61, op := _, type := _, pos := _, after := _, guard := _ }) rfl (fun K hK => ?_) AllReadyH.nil
      go_simp
      refine (h23.take g0 (by decide) (by decide)).mono ?_
      rintro r2 w24 ⟨hr, h24⟩
      rw [H8.out.2] at hr
      rw [H8.out.1] at h24
      subst hr
      refine hK.out _ _ (hide h24.keeps) (fun hS => ?_)
      clear hK K
      refine wpAnyH_take (i := 15) (oi := { dst := some 62, op := _, type := _, pos := _, after := _, guard := _ }) (v := ?_) rfl (by kernel_rfl) (by kernel_rfl) (by kernel_rfl) (fun _ _ _ h => h) (Or.inl ⟨by rfl, ?_⟩) hS ?_
      rotate_left
      · (intro w' hSw; go_simp; try with_reducible rfl)
      simp only [Act.put, List.setIfInBounds_toArray, List.set_cons_zero, List.set_cons_succ]
      refine wpAnyH_take (i := 16) (oi := { dst := some 63, op := _, type := _, pos := _, after := _, guard := _ }) (v := ?_) rfl (by kernel_rfl) (by kernel_rfl) (by kernel_rfl) (fun _ _ _ h => h) (Or.inl ⟨by rfl, ?_⟩) hS ?_
      rotate_left
      · (intro w' hSw; go_simp; try with_reducible rfl)
      simp only [Act.put, List.setIfInBounds_toArray, List.set_cons_zero, List.set_cons_succ]
      refine wpAnyH_take (i := 17) (oi := { dst := some 64, op := _, type := _, pos := _, after := _, guard := _ }) (v := ?_) rfl (by kernel_rfl) (by kernel_rfl) (by kernel_rfl) (fun _ _ _ h => h) (Or.inl ⟨by rfl, ?_⟩) hS ?_
      rotate_left
      · (intro w' hSw; go_simp; try with_reducible rfl)
      simp only [Act.put, List.setIfInBounds_toArray, List.set_cons_zero, List.set_cons_succ]
      refine wpAnyH_take (i := 18) (oi := { dst := some 65, op := _, type := _, pos := _, after := _, guard := _ }) (v := ?_) rfl (by kernel_rfl) (by kernel_rfl) (by kernel_rfl) (fun _ _ _ h => h) (Or.inl ⟨by rfl, ?_⟩) hS ?_
      rotate_left
      · (intro w' hSw; go_simp; try with_reducible rfl)
      simp only [Act.put, List.setIfInBounds_toArray, List.set_cons_zero, List.set_cons_succ]
      refine wpAnyH_ready (rs := [19]) (by kernel_rfl) (by simp) ?_
      refine AllReadyH.cons (o := { dst := some 66, op := _, type := _, pos := _, after := _, guard := _ }) rfl (fun K hK => ?_) AllReadyH.nil
      go_simp
      refine h24.settled.mono ?_
      rintro r5 w25 ⟨rfl, rfl⟩
      rw [H9.out]
      refine hK.out _ _ hS (fun hS => ?_)
      clear hK K
      refine wpAnyH_take (i := 20) (oi := { dst := some 67, op := _, type := _, pos := _, after := _, guard := _ }) (v := ?_) rfl (by kernel_rfl) (by kernel_rfl) (by kernel_rfl) (fun _ _ _ h => h) (Or.inl ⟨by rfl, ?_⟩) hS ?_
      rotate_left
      · (intro w' hSw; go_simp; try with_reducible rfl)
      simp only [Act.put, List.setIfInBounds_toArray, List.set_cons_zero, List.set_cons_succ]
      refine wpAnyH_take (i := 21) (oi := { dst := some 68, op := _, type := _, pos := _, after := _, guard := _ }) (v := ?_) rfl (by kernel_rfl) (by kernel_rfl) (by kernel_rfl) (fun _ _ _ h => h) (Or.inl ⟨by rfl, ?_⟩) hS ?_
      rotate_left
      · (intro w' hSw; go_simp; try with_reducible rfl)
      simp only [Act.put, List.setIfInBounds_toArray, List.set_cons_zero, List.set_cons_succ]
      refine wpAnyH_take (i := 22) (oi := { dst := some 6, op := _, type := _, pos := _, after := _, guard := _ }) (v := ?_) rfl (by kernel_rfl) (by kernel_rfl) (by kernel_rfl) (fun _ _ _ h => h) (Or.inl ⟨by rfl, ?_⟩) hS ?_
      rotate_left
      · (intro w' hSw; go_simp; try with_reducible rfl)
      simp only [Act.put, List.setIfInBounds_toArray, List.set_cons_zero, List.set_cons_succ]
      refine wpAnyH_done (by kernel_rfl) ?_ _
      go_wp2_with fail
      go_meet
      exact ⟨rfl, hide h24.keeps⟩
  case rest =>
  obtain ⟨rfl, HK30⟩ := hcut
  obtain ⟨w30, rfl⟩ : ∃ w30 : World, w30 = wc := ⟨_, rfl⟩
  clear HS10 H6 H7 H8 H9
  obtain ⟨s0, hs0⟩ : ∃ s0, s0 = bs (evB e0) := ⟨_, rfl⟩
  have HEV := hide (fun (W : World) => event_any e0 W e0_fits (by decide))
  rw [← hs0] at HEV
  have hadd1 := fun (W : World) => run_string_add_sum (P := Try.prog) (w := W) ⟨#[2, 18, 17, 10, 2, 2]⟩ zz14 (by decide)
  have hadd2 : ∀ (W : World), (Op.stringOp .add (⟨#[2, 18, 17, 10, 2, 2]⟩ ++ zz14) ⟨#[1, 97]⟩).run Try.prog W = .ok (.string s0) W := fun W => by
    rw [run_string_add_sum (P := Try.prog) (w := W) (⟨#[2, 18, 17, 10, 2, 2]⟩ ++ zz14) ⟨#[1, 97]⟩ (by decide), hs0, e0_code]
    rfl
  have HCV := hide (fun (W W' : World) (k : Keeps [] (W.alloc (.cells (Array.replicate 14 (.int .u8 0)) 5)) W') => conv14 W W' k)
  generalize zz14 = zz at hadd1 hadd2 HCV
  generalize (⟨#[2, 18, 17, 10, 2, 2]⟩ : ByteArray) ++ zz = u1 at hadd1 hadd2
  clear hs0
  go_wp2
  refine wp_region_held_drew (S := (fun w' => Hid (Keeps [] w5 w'))) (by kernel_rfl) (hide HK30.out.drew) (fun hS => ?_)
  refine wpAnyH_take (i := 0) (oi := { dst := some 69, op := _, type := _, pos := _, after := _, guard := _ }) (v := ?_) rfl (by kernel_rfl) (by kernel_rfl) (by kernel_rfl) (fun _ _ _ h => h) (Or.inl ⟨by rfl, ?_⟩) hS ?_
  rotate_left
  · (intro w' hSw; go_simp; try with_reducible rfl)
  simp only [Act.put, List.setIfInBounds_toArray, List.set_cons_zero, List.set_cons_succ]
  refine wpAnyH_take (i := 1) (oi := { dst := some 70, op := _, type := _, pos := _, after := _, guard := _ }) (v := ?_) rfl (by kernel_rfl) (by kernel_rfl) (by kernel_rfl) (fun _ _ _ h => h) (Or.inl ⟨by rfl, ?_⟩) hS ?_
  rotate_left
  · (intro w' hSw; go_simp; try with_reducible rfl)
  simp only [Act.put, List.setIfInBounds_toArray, List.set_cons_zero, List.set_cons_succ]
  refine wpAnyH_take (i := 2) (oi := { dst := some 71, op := _, type := _, pos := _, after := _, guard := _ }) (v := ?_) rfl (by kernel_rfl) (by kernel_rfl) (by kernel_rfl) (fun _ _ _ h => h) (Or.inl ⟨by rfl, ?_⟩) hS ?_
  rotate_left
  · (intro w' hSw; go_simp; try with_reducible rfl)
  simp only [Act.put, List.setIfInBounds_toArray, List.set_cons_zero, List.set_cons_succ]
  refine wpAnyH_take (i := 3) (oi := { dst := some 72, op := _, type := _, pos := _, after := _, guard := _ }) (v := ?_) rfl (by kernel_rfl) (by kernel_rfl) (by kernel_rfl) (fun _ _ _ h => h) (Or.inl ⟨by rfl, ?_⟩) hS ?_
  rotate_left
  · (intro w' hSw; go_simp; try with_reducible rfl)
  simp only [Act.put, List.setIfInBounds_toArray, List.set_cons_zero, List.set_cons_succ]
  refine wpAnyH_take (i := 4) (oi := { dst := some 73, op := _, type := _, pos := _, after := _, guard := _ }) (v := ?_) rfl (by kernel_rfl) (by kernel_rfl) (by kernel_rfl) (fun _ _ _ h => h) (Or.inl ⟨by rfl, ?_⟩) hS ?_
  rotate_left
  · (intro w' hSw; go_simp; try with_reducible rfl)
  simp only [Act.put, List.setIfInBounds_toArray, List.set_cons_zero, List.set_cons_succ]
  refine wpAnyH_take (i := 5) (oi := { dst := some 74, op := _, type := _, pos := _, after := _, guard := _ }) rfl (by kernel_rfl) (by kernel_rfl) (by kernel_rfl) (fun _ _ _ h => h) (yl_ev _ b1 0 e0 rfl (by rfl) (by rfl) (fun _ h => HE.out.keep h.out)) hS ?_
  simp only [Act.put, List.setIfInBounds_toArray, List.set_cons_zero, List.set_cons_succ]
  refine wpAnyH_ready (rs := [6, 7]) (by kernel_rfl) (by simp) ?_
  refine AllReadyH.cons (o := { dst := some 75, op := _, type := _, pos := _, after := _, guard := _ }) rfl (fun K hK => ?_) (AllReadyH.cons (o := { dst := some 76, op := _, type := _, pos := _, after := _, guard := _ }) rfl (fun K hK => ?_) AllReadyH.nil)
  · go_simp
    refine (HEV.out _).mono ?_
    rintro r2 w31 ⟨rfl, k31⟩
    refine hK.out _ _ (hide (hS.out.trans' k31)) (fun hS => ?_)
    clear hK K
    refine wpAnyH_ready (rs := [7]) (by kernel_rfl) (by simp) ?_
    refine AllReadyH.cons (o := { dst := some 76, op := _, type := _, pos := _, after := _, guard := _ }) rfl (fun K hK => ?_) AllReadyH.nil
    refine step_run (by rfl) (exec_make14 rfl) ?_
    refine hK.out _ _ (hide (hS.out.alloc _)) (fun hS => ?_)
    clear hK K
    try simp only [Act.put, List.setIfInBounds_toArray, List.set_cons_zero, List.set_cons_succ]
    refine wpAnyH_ready (rs := [8]) (by kernel_rfl) (by simp) ?_
    refine AllReadyH.cons (o := { dst := some 77, op := _, type := _, pos := _, after := _, guard := _ }) rfl (fun K hK => ?_) AllReadyH.nil
    refine step_run (by rfl) (exec_conv rfl (by rfl) (HCV.out w31 _ (Keeps.refl _ _))) ?_
    refine hK.out _ _ hS (fun hS => ?_)
    clear hK K
    try simp only [Act.put, List.setIfInBounds_toArray, List.set_cons_zero, List.set_cons_succ]
    refine wpAnyH_take (i := 9) (oi := { dst := some 78, op := _, type := _, pos := _, after := _, guard := _ }) (v := ?_) rfl (by kernel_rfl) (by kernel_rfl) (by kernel_rfl) (fun _ _ _ h => h) (Or.inl ⟨by rfl, ?_⟩) hS ?_
    rotate_left
    · (intro w' hSw; go_simp; try with_reducible rfl)
    simp only [Act.put, List.setIfInBounds_toArray, List.set_cons_zero, List.set_cons_succ]
    refine wpAnyH_take (i := 10) (oi := { dst := some 79, op := _, type := _, pos := _, after := _, guard := _ }) (v := ?_) rfl (by kernel_rfl) (by kernel_rfl) (by kernel_rfl) (fun _ _ _ h => h) (Or.inl ⟨by rfl, ?_⟩) hS ?_
    rotate_left
    · (intro w' hSw; go_simp; try with_reducible rfl)
    simp only [Act.put, List.setIfInBounds_toArray, List.set_cons_zero, List.set_cons_succ]
    refine wpAnyH_take (i := 11) (oi := { dst := some 80, op := _, type := _, pos := _, after := _, guard := _ }) (v := ?_) rfl (by kernel_rfl) (by kernel_rfl) (by kernel_rfl) (fun _ _ _ h => h) (Or.inl ⟨by rfl, ?_⟩) hS ?_
    rotate_left
    · (intro w' hSw; go_simp; try with_reducible rfl)
    simp only [Act.put, List.setIfInBounds_toArray, List.set_cons_zero, List.set_cons_succ]
    refine wpAnyH_take (i := 12) (oi := { dst := some 81, op := _, type := _, pos := _, after := _, guard := _ }) (v := ?_) rfl (by kernel_rfl) (by kernel_rfl) (by kernel_rfl) (fun _ _ _ h => h) (Or.inl ⟨by rfl, ?_⟩) hS ?_
    rotate_left
    · (intro w' hSw; go_simp; try with_reducible rfl)
    simp only [Act.put, List.setIfInBounds_toArray, List.set_cons_zero, List.set_cons_succ]
    refine wpAnyH_take (i := 13) (oi := { dst := some 0, op := _, type := _, pos := _, after := _, guard := _ }) (v := ?_) rfl (by kernel_rfl) (by kernel_rfl) (by kernel_rfl) (fun _ _ _ h => h) (Or.inl ⟨by rfl, ?_⟩) hS ?_
    rotate_left
    · (intro w' hSw; go_simp; try with_reducible rfl)
    simp only [Act.put, List.setIfInBounds_toArray, List.set_cons_zero]
    refine wpAnyH_done (by kernel_rfl) ?_ _
    go_wp2
    go_ret
    exact ⟨rfl, HK5.out.trans' hS.out⟩
  · refine step_run (by rfl) (exec_make14 rfl) ?_
    refine hK.out _ _ (hide (hS.out.alloc _)) (fun hS => ?_)
    clear hK K
    try simp only [Act.put, List.setIfInBounds_toArray, List.set_cons_zero, List.set_cons_succ]
    refine wpAnyH_ready (rs := [6, 8]) (by kernel_rfl) (by simp) ?_
    refine AllReadyH.cons (o := { dst := some 75, op := _, type := _, pos := _, after := _, guard := _ }) rfl (fun K hK => ?_) (AllReadyH.cons (o := { dst := some 77, op := _, type := _, pos := _, after := _, guard := _ }) rfl (fun K hK => ?_) AllReadyH.nil)
    · go_simp
      refine (HEV.out _).mono ?_
      rintro r2 w31 ⟨rfl, k31⟩
      refine hK.out _ _ (hide (hS.out.trans' k31)) (fun hS => ?_)
      clear hK K
      refine wpAnyH_ready (rs := [8]) (by kernel_rfl) (by simp) ?_
      refine AllReadyH.cons (o := { dst := some 77, op := _, type := _, pos := _, after := _, guard := _ }) rfl (fun K hK => ?_) AllReadyH.nil
      refine step_run (by rfl) (exec_conv rfl (by rfl) (HCV.out w30.drew _ k31)) ?_
      refine hK.out _ _ hS (fun hS => ?_)
      clear hK K
      try simp only [Act.put, List.setIfInBounds_toArray, List.set_cons_zero, List.set_cons_succ]
      refine wpAnyH_take (i := 9) (oi := { dst := some 78, op := _, type := _, pos := _, after := _, guard := _ }) (v := ?_) rfl (by kernel_rfl) (by kernel_rfl) (by kernel_rfl) (fun _ _ _ h => h) (Or.inl ⟨by rfl, ?_⟩) hS ?_
      rotate_left
      · (intro w' hSw; go_simp; try with_reducible rfl)
      simp only [Act.put, List.setIfInBounds_toArray, List.set_cons_zero, List.set_cons_succ]
      refine wpAnyH_take (i := 10) (oi := { dst := some 79, op := _, type := _, pos := _, after := _, guard := _ }) (v := ?_) rfl (by kernel_rfl) (by kernel_rfl) (by kernel_rfl) (fun _ _ _ h => h) (Or.inl ⟨by rfl, ?_⟩) hS ?_
      rotate_left
      · (intro w' hSw; go_simp; try with_reducible rfl)
      simp only [Act.put, List.setIfInBounds_toArray, List.set_cons_zero, List.set_cons_succ]
      refine wpAnyH_take (i := 11) (oi := { dst := some 80, op := _, type := _, pos := _, after := _, guard := _ }) (v := ?_) rfl (by kernel_rfl) (by kernel_rfl) (by kernel_rfl) (fun _ _ _ h => h) (Or.inl ⟨by rfl, ?_⟩) hS ?_
      rotate_left
      · (intro w' hSw; go_simp; try with_reducible rfl)
      simp only [Act.put, List.setIfInBounds_toArray, List.set_cons_zero, List.set_cons_succ]
      refine wpAnyH_take (i := 12) (oi := { dst := some 81, op := _, type := _, pos := _, after := _, guard := _ }) (v := ?_) rfl (by kernel_rfl) (by kernel_rfl) (by kernel_rfl) (fun _ _ _ h => h) (Or.inl ⟨by rfl, ?_⟩) hS ?_
      rotate_left
      · (intro w' hSw; go_simp; try with_reducible rfl)
      simp only [Act.put, List.setIfInBounds_toArray, List.set_cons_zero, List.set_cons_succ]
      refine wpAnyH_take (i := 13) (oi := { dst := some 0, op := _, type := _, pos := _, after := _, guard := _ }) (v := ?_) rfl (by kernel_rfl) (by kernel_rfl) (by kernel_rfl) (fun _ _ _ h => h) (Or.inl ⟨by rfl, ?_⟩) hS ?_
      rotate_left
      · (intro w' hSw; go_simp; try with_reducible rfl)
      simp only [Act.put, List.setIfInBounds_toArray, List.set_cons_zero]
      refine wpAnyH_done (by kernel_rfl) ?_ _
      go_wp2
      go_ret
      exact ⟨rfl, HK5.out.trans' hS.out⟩
    · refine step_run (by rfl) (exec_conv rfl (by rfl) (HCV.out w30.drew _ (Keeps.refl _ _))) ?_
      refine hK.out _ _ hS (fun hS => ?_)
      clear hK K
      try simp only [Act.put, List.setIfInBounds_toArray, List.set_cons_zero, List.set_cons_succ]
      refine wpAnyH_take (i := 9) (oi := { dst := some 78, op := _, type := _, pos := _, after := _, guard := _ }) (v := ?_) rfl (by kernel_rfl) (by kernel_rfl) (by kernel_rfl) (fun _ _ _ h => h) (Or.inl ⟨by rfl, ?_⟩) hS ?_
      rotate_left
      · (intro w' hSw; go_simp; try with_reducible rfl)
      simp only [Act.put, List.setIfInBounds_toArray, List.set_cons_zero, List.set_cons_succ]
      refine wpAnyH_take (i := 10) (oi := { dst := some 79, op := _, type := _, pos := _, after := _, guard := _ }) (v := ?_) rfl (by kernel_rfl) (by kernel_rfl) (by kernel_rfl) (fun _ _ _ h => h) (Or.inl ⟨by rfl, ?_⟩) hS ?_
      rotate_left
      · (intro w' hSw; go_simp; try with_reducible rfl)
      simp only [Act.put, List.setIfInBounds_toArray, List.set_cons_zero, List.set_cons_succ]
      refine wpAnyH_ready (rs := [6]) (by kernel_rfl) (by simp) ?_
      refine AllReadyH.cons (o := { dst := some 75, op := _, type := _, pos := _, after := _, guard := _ }) rfl (fun K hK => ?_) AllReadyH.nil
      go_simp
      refine (HEV.out _).mono ?_
      rintro r2 w31 ⟨rfl, k31⟩
      refine hK.out _ _ (hide (hS.out.trans' k31)) (fun hS => ?_)
      clear hK K
      refine wpAnyH_take (i := 11) (oi := { dst := some 80, op := _, type := _, pos := _, after := _, guard := _ }) (v := ?_) rfl (by kernel_rfl) (by kernel_rfl) (by kernel_rfl) (fun _ _ _ h => h) (Or.inl ⟨by rfl, ?_⟩) hS ?_
      rotate_left
      · (intro w' hSw; go_simp; try with_reducible rfl)
      simp only [Act.put, List.setIfInBounds_toArray, List.set_cons_zero, List.set_cons_succ]
      refine wpAnyH_take (i := 12) (oi := { dst := some 81, op := _, type := _, pos := _, after := _, guard := _ }) (v := ?_) rfl (by kernel_rfl) (by kernel_rfl) (by kernel_rfl) (fun _ _ _ h => h) (Or.inl ⟨by rfl, ?_⟩) hS ?_
      rotate_left
      · (intro w' hSw; go_simp; try with_reducible rfl)
      simp only [Act.put, List.setIfInBounds_toArray, List.set_cons_zero, List.set_cons_succ]
      refine wpAnyH_take (i := 13) (oi := { dst := some 0, op := _, type := _, pos := _, after := _, guard := _ }) (v := ?_) rfl (by kernel_rfl) (by kernel_rfl) (by kernel_rfl) (fun _ _ _ h => h) (Or.inl ⟨by rfl, ?_⟩) hS ?_
      rotate_left
      · (intro w' hSw; go_simp; try with_reducible rfl)
      simp only [Act.put, List.setIfInBounds_toArray, List.set_cons_zero]
      refine wpAnyH_done (by kernel_rfl) ?_ _
      go_wp2
      go_ret
      exact ⟨rfl, HK5.out.trans' hS.out⟩
end Go.Proofs.Ytcfglfnncpcfoaa

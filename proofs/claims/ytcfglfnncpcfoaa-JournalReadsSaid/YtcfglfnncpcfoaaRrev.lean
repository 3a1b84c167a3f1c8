/- The reference's ReadEvent. -/
import Derived.Test.YtcfglfnncpcfoaaRev
import Derived.Test.YtcfglfnncpcfoaaRunp
import Derived.Test.YtcfglfnncpcfoaaRuni
namespace Go.Proofs.Ytcfglfnncpcfoaa
open Go.RowKit Go.Shelf
theorem list17 {q : List Int} (h : q.length = 17) : ∃ a0 a1 a2 a3 a4 a5 a6 a7 a8 a9 a10 a11 a12 a13 a14 a15 a16, q = [a0, a1, a2, a3, a4, a5, a6, a7, a8, a9, a10, a11, a12, a13, a14, a15, a16] := by
  match q, h with
  | [a0, a1, a2, a3, a4, a5, a6, a7, a8, a9, a10, a11, a12, a13, a14, a15, a16], _ => exact ⟨a0, a1, a2, a3, a4, a5, a6, a7, a8, a9, a10, a11, a12, a13, a14, a15, a16, rfl⟩
theorem step_store_part {w : World} {ops : Array Oper} {o : Oper} {a : Act} {K : Act → World → Prop} {Q : Exit → Act → World → Prop} {E : Prop} (tt : TypeId) (p y : Operand) (ho : o.op = .store tt p y) (hw : Region.wanted o (yielded ops a.tmps) = true) (g off : Nat) (vs : List Value) (hp : a.eval p = .pointer (some ⟨g, off, none⟩)) (hy : a.eval y = .agg vs.toArray) (t : TypeId) (cur : Array Value) (hg : Bk w g t cur) (hs : off + vs.length ≤ cur.size) (h1 : ∀ v ∈ vs, v.oneCell' = true) (hz : ∀ w, (sizeOf tt).run Try.prog w = .ok vs.length w)
    (h : K (a.put o.dst undef) (w.setRow g (cur.toList.take off ++ vs ++ cur.toList.drop (off + vs.length)).toArray)) : if Region.wanted o (yielded ops a.tmps) = true then Oper.wp Try.prog o a w K Q else E := by
  have hst := run_storeCells_at Try.prog g off t vs 0 cur w hg (by omega) h1
  rw [Nat.add_zero] at hst
  have hc : (Value.agg vs.toArray).cells = vs.toArray := rfl
  generalize (cur.toList.take off ++ vs ++ cur.toList.drop (off + vs.length)).toArray = new at hst h
  rw [if_pos hw]
  unfold Oper.wp execOp
  simp [ho, hp, hy, Instr.storeAt, Instr.sureAddr, storeVar, hc, hz, hst]
  exact h
theorem sizeOf23 (w : World) : (sizeOf 23).run Try.prog w = .ok 3 w := by kernel_rfl
theorem sizeOf25 (w : World) : (sizeOf 25).run Try.prog w = .ok 2 w := by kernel_rfl
set_option maxHeartbeats 4000000 in
set_option maxRecDepth 100000 in
theorem rread_event_any (l : List UInt8) (w : World) (hf : Fine l) : Calls Try.prog 40 #[.string (bs l)] w fun r w' => r = .returned (.tuple #[ev (readE l).1, .int .i64 (readE l).2]) ∧ Keeps [] w w' := by
  have HF := hide hf
  have HB := hide (Bk.new w 27 (ec z0).toArray)
  have HK := hide ((Keeps.refl [] w).alloc (.cells (ec z0).toArray 27))
  clear hf
  go_enter Try.func40, Try.ntmps40
  go_wp2_with fail
  change Calls _ _ _ (w.alloc (.cells (ec z0).toArray 27)) _
  generalize w.alloc (.cells (ec z0).toArray 27) = w0 at HB HK ⊢
  obtain ⟨bx, hbx⟩ : ∃ b, w.heap.size = b := ⟨_, rfl⟩
  rw [hbx] at HB ⊢
  have HNW := hide (Nat.le_of_eq hbx)
  clear hbx
  refine (runpack_any (bs l) w0 (by rw [bs_size]; exact HF.out.1) (by rw [bs_list]; exact HF.out.2.1)).mono ?_
  rw [bs_list]
  rintro r w1 ⟨v, rfl, ho, hn, k1⟩
  obtain ⟨A, c, rfl⟩ := Own.slice ho
  replace HB := hide (HB.out.keep k1 (by simp))
  replace HK := hide (HK.out.trans' k1)
  obtain ⟨⟨o, er⟩, hu⟩ : ∃ p, unpB l = p := ⟨_, rfl⟩
  rw [hu] at ho ⊢
  simp only at ho ⊢
  have HU := hide hu
  have HO := hide ho
  have ⟨hol, hol2⟩ : (0 : Int) ≤ (o.length : Int) ∧ True := ⟨by omega, trivial⟩
  clear hu ho hn k1 hol2
  by_cases he : er = 0
  case neg =>
    have he0 : (er != 0) = true := by simp [he]
    have HE := hide (readE_err HU.out he)
    clear he
    go_wp2_with (with_reducible refine Halt.store (t := 27) ?_)
    refine Halt.on ?_
    refine wpList_store_ev rfl _ _ rfl bx z0 rfl rfl 27 _ HB.out rfl ?_
    have HX := hide (row_bk HB.out (ec z0).toArray)
    have HKX := hide (HK.out.setRow (g := bx) (.inr HNW.out) (ec z0).toArray)
    generalize w1.setRow bx (ec z0).toArray = w9 at HX HKX ⊢
    go_wp2_with fail
    refine bodyPost_ret (v := .tuple #[ev z0, .int .i64 er]) ?_ rfl ⟨by rw [HE.out], HKX.out⟩
    exact results_two_ev rfl _ w9 bx _ _ rfl rfl (EvAt.box HX.out)
  case pos =>
  subst he
  by_cases h2 : o.length = 2
  case neg =>
    have hne : ((o.length : Int) != 2) = true := by simp; omega
    have HE := hide (readE_form HU.out h2)
    clear h2
    go_wp2_with (with_reducible refine Halt.store (t := 27) ?_)
    refine Halt.on ?_
    refine wpList_store_ev rfl _ _ rfl bx z0 rfl rfl 27 _ HB.out rfl ?_
    have HX := hide (row_bk HB.out (ec z0).toArray)
    have HKX := hide (HK.out.setRow (g := bx) (.inr HNW.out) (ec z0).toArray)
    generalize w1.setRow bx (ec z0).toArray = w9 at HX HKX ⊢
    go_wp2_with fail
    refine bodyPost_ret (v := .tuple #[ev z0, .int .i64 11]) ?_ rfl ⟨by rw [HE.out], HKX.out⟩
    exact results_two_ev rfl _ w9 bx _ _ rfl rfl (EvAt.box HX.out)
  case pos =>
  have ⟨a, x, hox⟩ : ∃ a x, o = [a, x] := by
    match o, h2 with
    | [a, x], _ => exact ⟨a, x, rfl⟩
  subst hox
  clear h2 hol
  obtain ⟨g9, c9, cur, hv, _, _, _, _, _, hcell⟩ := Own.head HO.out (by simp)
  injection hv with hA _ hc
  subst hA hc
  have q0 : w1.cell? ⟨g9, 0, none⟩ = some (.string a) := hcell 0 _ rfl
  have q1 : w1.cell? ⟨g9, 1, none⟩ = some (.string x) := hcell 1 _ rfl
  clear hcell
  have hrd := readE_two HU.out
  have hla := HF.out.2.2 _ _ HU.out
  have HLA := hide hla
  obtain ⟨⟨q, f⟩, hq⟩ : ∃ p, readI a.data.toList = p := ⟨_, rfl⟩
  rw [hq] at hrd
  simp only at hrd
  have HRD := hide hrd
  have HQ := hide hq
  have HQ1 := hide q1
  clear hrd hla q1 hq HO
  go_wp2_with fail
  refine (runi_any a w1 HLA.out).mono ?_
  rintro r w2 ⟨v2, rfl, ho2, hn2, k2⟩
  obtain ⟨A2, c2, rfl⟩ := Own.slice ho2
  rw [HQ.out] at ho2 ⊢
  simp only at ho2 ⊢
  have HO2 := hide ho2
  replace HQ1 := hide (show w2.cell? ⟨g9, 1, none⟩ = some (.string x) from k2.cell HQ1.out)
  replace HB := hide (HB.out.keep k2 (by simp))
  replace HK := hide (HK.out.trans' k2)
  clear ho2 hn2 k2 q0 HLA
  by_cases hf0 : f = 0
  case neg =>
    have he0 : (f != 0) = true := by simp [hf0]
    have HE := hide (HRD.out.trans (if_pos hf0))
    clear hf0
    go_wp2_with (with_reducible refine Halt.store (t := 27) ?_)
    refine Halt.on ?_
    refine wpList_store_ev rfl _ _ rfl bx z0 rfl rfl 27 _ HB.out rfl ?_
    have HX := hide (row_bk HB.out (ec z0).toArray)
    have HKX := hide (HK.out.setRow (g := bx) (.inr HNW.out) (ec z0).toArray)
    generalize w2.setRow bx (ec z0).toArray = w9 at HX HKX ⊢
    go_wp2_with fail
    refine bodyPost_ret (v := .tuple #[ev z0, .int .i64 f]) ?_ rfl ⟨by rw [HE.out], HKX.out⟩
    exact results_two_ev rfl _ w9 bx _ _ rfl rfl (EvAt.box HX.out)
  case pos =>
  subst hf0
  have ⟨hql, hql2⟩ : (0 : Int) ≤ (q.length : Int) ∧ True := ⟨by omega, trivial⟩
  clear hql2
  by_cases h17 : q.length = 17
  case neg =>
    have hne : ((q.length : Int) != 17) = true := by simp; omega
    have HE := hide (HRD.out.trans ((if_neg (by simp)).trans (if_pos h17)))
    clear h17
    go_wp2_with (with_reducible refine Halt.store (t := 27) ?_)
    refine Halt.on ?_
    refine wpList_store_ev rfl _ _ rfl bx z0 rfl rfl 27 _ HB.out rfl ?_
    have HX := hide (row_bk HB.out (ec z0).toArray)
    have HKX := hide (HK.out.setRow (g := bx) (.inr HNW.out) (ec z0).toArray)
    generalize w2.setRow bx (ec z0).toArray = w9 at HX HKX ⊢
    go_wp2_with fail
    refine bodyPost_ret (v := .tuple #[ev z0, .int .i64 11]) ?_ rfl ⟨by rw [HE.out], HKX.out⟩
    exact results_two_ev rfl _ w9 bx _ _ rfl rfl (EvAt.box HX.out)
  case pos =>
  have HR := hide (HRD.out.trans ((if_neg (by simp)).trans (if_neg (by simp [h17]))))
  obtain ⟨a0, a1, a2, a3, a4, a5, a6, a7, a8, a9, a10, a11, a12, a13, a14, a15, a16, hq17⟩ := list17 h17
  subst hq17
  clear hql h17 HRD HQ HU HF
  obtain ⟨g5, c5, cur, hv, _, _, _, _, _, hcell⟩ := Own.head HO2.out (by simp)
  injection hv with hA _ hc
  subst hA hc
  have HC := hide hcell
  clear hcell
  go_wp2
  refine wp_region_held_drew (S := (fun w' => Hid (Keeps [] w2 w'))) (by kernel_rfl) (hide (Keeps.refl [] w2).drew) (fun hS => ?_)
  refine wpAnyH_take (i := 0) (oi := { dst := some 37, op := _, type := _, pos := _, after := _, guard := _ }) (v := ?_) rfl (by kernel_rfl) (by kernel_rfl) (by kernel_rfl) (fun _ _ _ h => h) (Or.inl ⟨by rfl, ?_⟩) hS ?_
  rotate_left
  · (intro w' hSw; go_simp; try with_reducible rfl)
  simp only [Act.put, List.setIfInBounds_toArray, List.set_cons_zero, List.set_cons_succ]
  refine wpAnyH_take (i := 1) (oi := { dst := some 38, op := _, type := _, pos := _, after := _, guard := _ }) (v := ?_) rfl (by kernel_rfl) (by kernel_rfl) (by kernel_rfl) (fun _ _ _ h => h) (Or.inl ⟨by rfl, ?_⟩) hS ?_
  rotate_left
  · (intro w' hSw; go_simp; try with_reducible rfl)
  simp only [Act.put, List.setIfInBounds_toArray, List.set_cons_zero, List.set_cons_succ]
  refine wpAnyH_take (i := 2) (oi := { dst := some 39, op := _, type := _, pos := _, after := _, guard := _ }) rfl (by kernel_rfl) (by kernel_rfl) (by kernel_rfl) (fun _ _ _ h => h) (yl_cell 3 _ g5 3 rfl Try.isAgg3 (by rfl) (by rfl) (fun _ h => h.out.cell (HC.out 3 _ rfl))) hS ?_
  simp only [Act.put, List.setIfInBounds_toArray, List.set_cons_zero, List.set_cons_succ]
  refine wpAnyH_take (i := 3) (oi := { dst := some 40, op := _, type := _, pos := _, after := _, guard := _ }) (v := ?_) rfl (by kernel_rfl) (by kernel_rfl) (by kernel_rfl) (fun _ _ _ h => h) (Or.inl ⟨by rfl, ?_⟩) hS ?_
  rotate_left
  · (intro w' hSw; go_simp; try with_reducible rfl)
  simp only [Act.put, List.setIfInBounds_toArray, List.set_cons_zero, List.set_cons_succ]
  refine wpAnyH_take (i := 4) (oi := { dst := some 41, op := _, type := _, pos := _, after := _, guard := _ }) (v := ?_) rfl (by kernel_rfl) (by kernel_rfl) (by kernel_rfl) (fun _ _ _ h => h) (Or.inl ⟨by rfl, ?_⟩) hS ?_
  rotate_left
  · (intro w' hSw; go_simp; try with_reducible rfl)
  simp only [Act.put, List.setIfInBounds_toArray, List.set_cons_zero, List.set_cons_succ]
  refine wpAnyH_take (i := 5) (oi := { dst := some 42, op := _, type := _, pos := _, after := _, guard := _ }) rfl (by kernel_rfl) (by kernel_rfl) (by kernel_rfl) (fun _ _ _ h => h) (yl_cell 3 _ g5 4 rfl Try.isAgg3 (by rfl) (by rfl) (fun _ h => h.out.cell (HC.out 4 _ rfl))) hS ?_
  simp only [Act.put, List.setIfInBounds_toArray, List.set_cons_zero, List.set_cons_succ]
  refine wpAnyH_take (i := 6) (oi := { dst := some 43, op := _, type := _, pos := _, after := _, guard := _ }) (v := ?_) rfl (by kernel_rfl) (by kernel_rfl) (by kernel_rfl) (fun _ _ _ h => h) (Or.inl ⟨by rfl, ?_⟩) hS ?_
  rotate_left
  · (intro w' hSw; go_simp; try with_reducible rfl)
  simp only [Act.put, List.setIfInBounds_toArray, List.set_cons_zero, List.set_cons_succ]
  refine wpAnyH_take (i := 7) (oi := { dst := some 44, op := _, type := _, pos := _, after := _, guard := _ }) (v := ?_) rfl (by kernel_rfl) (by kernel_rfl) (by kernel_rfl) (fun _ _ _ h => h) (Or.inl ⟨by rfl, ?_⟩) hS ?_
  rotate_left
  · (intro w' hSw; go_simp; try with_reducible rfl)
  simp only [Act.put, List.setIfInBounds_toArray, List.set_cons_zero, List.set_cons_succ]
  refine wpAnyH_take (i := 8) (oi := { dst := some 45, op := _, type := _, pos := _, after := _, guard := _ }) rfl (by kernel_rfl) (by kernel_rfl) (by kernel_rfl) (fun _ _ _ h => h) (yl_cell 3 _ g5 5 rfl Try.isAgg3 (by rfl) (by rfl) (fun _ h => h.out.cell (HC.out 5 _ rfl))) hS ?_
  simp only [Act.put, List.setIfInBounds_toArray, List.set_cons_zero, List.set_cons_succ]
  refine wpAnyH_take (i := 9) (oi := { dst := some 46, op := _, type := _, pos := _, after := _, guard := _ }) (v := ?_) rfl (by kernel_rfl) (by kernel_rfl) (by kernel_rfl) (fun _ _ _ h => h) (Or.inl ⟨by rfl, ?_⟩) hS ?_
  rotate_left
  · (intro w' hSw; go_simp; try with_reducible rfl)
  simp only [Act.put, List.setIfInBounds_toArray, List.set_cons_zero, List.set_cons_succ]
  refine wpAnyH_take (i := 10) (oi := { dst := some 47, op := _, type := _, pos := _, after := _, guard := _ }) (v := ?_) rfl (by kernel_rfl) (by kernel_rfl) (by kernel_rfl) (fun _ _ _ h => h) (Or.inl ⟨by rfl, ?_⟩) hS ?_
  rotate_left
  · (intro w' hSw; go_simp; try with_reducible rfl)
  simp only [Act.put, List.setIfInBounds_toArray, List.set_cons_zero, List.set_cons_succ]
  refine wpAnyH_take (i := 11) (oi := { dst := some 48, op := _, type := _, pos := _, after := _, guard := _ }) rfl (by kernel_rfl) (by kernel_rfl) (by kernel_rfl) (fun _ _ _ h => h) (yl_cell 3 _ g5 6 rfl Try.isAgg3 (by rfl) (by rfl) (fun _ h => h.out.cell (HC.out 6 _ rfl))) hS ?_
  simp only [Act.put, List.setIfInBounds_toArray, List.set_cons_zero, List.set_cons_succ]
  refine wpAnyH_take (i := 12) (oi := { dst := some 49, op := _, type := _, pos := _, after := _, guard := _ }) (v := ?_) rfl (by kernel_rfl) (by kernel_rfl) (by kernel_rfl) (fun _ _ _ h => h) (Or.inl ⟨by rfl, ?_⟩) hS ?_
  rotate_left
  · (intro w' hSw; go_simp; try with_reducible rfl)
  simp only [Act.put, List.setIfInBounds_toArray, List.set_cons_zero, List.set_cons_succ]
  refine wpAnyH_take (i := 13) (oi := { dst := some 50, op := _, type := _, pos := _, after := _, guard := _ }) (v := ?_) rfl (by kernel_rfl) (by kernel_rfl) (by kernel_rfl) (fun _ _ _ h => h) (Or.inl ⟨by rfl, ?_⟩) hS ?_
  rotate_left
  · (intro w' hSw; go_simp; try with_reducible rfl)
  simp only [Act.put, List.setIfInBounds_toArray, List.set_cons_zero, List.set_cons_succ]
  refine wpAnyH_take (i := 14) (oi := { dst := some 51, op := _, type := _, pos := _, after := _, guard := _ }) rfl (by kernel_rfl) (by kernel_rfl) (by kernel_rfl) (fun _ _ _ h => h) (yl_cell 3 _ g5 7 rfl Try.isAgg3 (by rfl) (by rfl) (fun _ h => h.out.cell (HC.out 7 _ rfl))) hS ?_
  simp only [Act.put, List.setIfInBounds_toArray, List.set_cons_zero, List.set_cons_succ]
  refine wpAnyH_take (i := 15) (oi := { dst := some 52, op := _, type := _, pos := _, after := _, guard := _ }) (v := ?_) rfl (by kernel_rfl) (by kernel_rfl) (by kernel_rfl) (fun _ _ _ h => h) (Or.inl ⟨by rfl, ?_⟩) hS ?_
  rotate_left
  · (intro w' hSw; go_simp; try with_reducible rfl)
  simp only [Act.put, List.setIfInBounds_toArray, List.set_cons_zero, List.set_cons_succ]
  refine wpAnyH_take (i := 16) (oi := { dst := some 53, op := _, type := _, pos := _, after := _, guard := _ }) (v := ?_) rfl (by kernel_rfl) (by kernel_rfl) (by kernel_rfl) (fun _ _ _ h => h) (Or.inl ⟨by rfl, ?_⟩) hS ?_
  rotate_left
  · (intro w' hSw; go_simp; try with_reducible rfl)
  simp only [Act.put, List.setIfInBounds_toArray, List.set_cons_zero, List.set_cons_succ]
  refine wpAnyH_take (i := 17) (oi := { dst := some 54, op := _, type := _, pos := _, after := _, guard := _ }) rfl (by kernel_rfl) (by kernel_rfl) (by kernel_rfl) (fun _ _ _ h => h) (yl_cell 3 _ g5 8 rfl Try.isAgg3 (by rfl) (by rfl) (fun _ h => h.out.cell (HC.out 8 _ rfl))) hS ?_
  simp only [Act.put, List.setIfInBounds_toArray, List.set_cons_zero, List.set_cons_succ]
  refine wpAnyH_take (i := 18) (oi := { dst := some 55, op := _, type := _, pos := _, after := _, guard := _ }) (v := ?_) rfl (by kernel_rfl) (by kernel_rfl) (by kernel_rfl) (fun _ _ _ h => h) (Or.inl ⟨by rfl, ?_⟩) hS ?_
  rotate_left
  · (intro w' hSw; go_simp; try with_reducible rfl)
  simp only [Act.put, List.setIfInBounds_toArray, List.set_cons_zero, List.set_cons_succ]
  refine wpAnyH_take (i := 19) (oi := { dst := some 56, op := _, type := _, pos := _, after := _, guard := _ }) (v := ?_) rfl (by kernel_rfl) (by kernel_rfl) (by kernel_rfl) (fun _ _ _ h => h) (Or.inl ⟨by rfl, ?_⟩) hS ?_
  rotate_left
  · (intro w' hSw; go_simp; try with_reducible rfl)
  simp only [Act.put, List.setIfInBounds_toArray, List.set_cons_zero, List.set_cons_succ]
  refine wpAnyH_take (i := 20) (oi := { dst := some 57, op := _, type := _, pos := _, after := _, guard := _ }) rfl (by kernel_rfl) (by kernel_rfl) (by kernel_rfl) (fun _ _ _ h => h) (yl_cell 3 _ g5 9 rfl Try.isAgg3 (by rfl) (by rfl) (fun _ h => h.out.cell (HC.out 9 _ rfl))) hS ?_
  simp only [Act.put, List.setIfInBounds_toArray, List.set_cons_zero, List.set_cons_succ]
  refine wpAnyH_take (i := 21) (oi := { dst := some 58, op := _, type := _, pos := _, after := _, guard := _ }) (v := ?_) rfl (by kernel_rfl) (by kernel_rfl) (by kernel_rfl) (fun _ _ _ h => h) (Or.inl ⟨by rfl, ?_⟩) hS ?_
  rotate_left
  · (intro w' hSw; go_simp; try with_reducible rfl)
  simp only [Act.put, List.setIfInBounds_toArray, List.set_cons_zero, List.set_cons_succ]
  refine wpAnyH_take (i := 22) (oi := { dst := some 59, op := _, type := _, pos := _, after := _, guard := _ }) (v := ?_) rfl (by kernel_rfl) (by kernel_rfl) (by kernel_rfl) (fun _ _ _ h => h) (Or.inl ⟨by rfl, ?_⟩) hS ?_
  rotate_left
  · (intro w' hSw; go_simp; try with_reducible rfl)
  simp only [Act.put, List.setIfInBounds_toArray, List.set_cons_zero, List.set_cons_succ]
  refine wpAnyH_take (i := 23) (oi := { dst := some 60, op := _, type := _, pos := _, after := _, guard := _ }) rfl (by kernel_rfl) (by kernel_rfl) (by kernel_rfl) (fun _ _ _ h => h) (yl_cell 3 _ g5 10 rfl Try.isAgg3 (by rfl) (by rfl) (fun _ h => h.out.cell (HC.out 10 _ rfl))) hS ?_
  simp only [Act.put, List.setIfInBounds_toArray, List.set_cons_zero, List.set_cons_succ]
  refine wpAnyH_take (i := 24) (oi := { dst := some 61, op := _, type := _, pos := _, after := _, guard := _ }) (v := ?_) rfl (by kernel_rfl) (by kernel_rfl) (by kernel_rfl) (fun _ _ _ h => h) (Or.inl ⟨by rfl, ?_⟩) hS ?_
  rotate_left
  · (intro w' hSw; go_simp; try with_reducible rfl)
  simp only [Act.put, List.setIfInBounds_toArray, List.set_cons_zero, List.set_cons_succ]
  refine wpAnyH_take (i := 25) (oi := { dst := some 62, op := _, type := _, pos := _, after := _, guard := _ }) (v := ?_) rfl (by kernel_rfl) (by kernel_rfl) (by kernel_rfl) (fun _ _ _ h => h) (Or.inl ⟨by rfl, ?_⟩) hS ?_
  rotate_left
  · (intro w' hSw; go_simp; try with_reducible rfl)
  simp only [Act.put, List.setIfInBounds_toArray, List.set_cons_zero, List.set_cons_succ]
  refine wpAnyH_take (i := 26) (oi := { dst := some 63, op := _, type := _, pos := _, after := _, guard := _ }) rfl (by kernel_rfl) (by kernel_rfl) (by kernel_rfl) (fun _ _ _ h => h) (yl_cell 3 _ g5 11 rfl Try.isAgg3 (by rfl) (by rfl) (fun _ h => h.out.cell (HC.out 11 _ rfl))) hS ?_
  simp only [Act.put, List.setIfInBounds_toArray, List.set_cons_zero, List.set_cons_succ]
  refine wpAnyH_take (i := 27) (oi := { dst := some 64, op := _, type := _, pos := _, after := _, guard := _ }) (v := ?_) rfl (by kernel_rfl) (by kernel_rfl) (by kernel_rfl) (fun _ _ _ h => h) (Or.inl ⟨by rfl, ?_⟩) hS ?_
  rotate_left
  · (intro w' hSw; go_simp; try with_reducible rfl)
  simp only [Act.put, List.setIfInBounds_toArray, List.set_cons_zero, List.set_cons_succ]
  refine wpAnyH_take (i := 28) (oi := { dst := some 65, op := _, type := _, pos := _, after := _, guard := _ }) (v := ?_) rfl (by kernel_rfl) (by kernel_rfl) (by kernel_rfl) (fun _ _ _ h => h) (Or.inl ⟨by rfl, ?_⟩) hS ?_
  rotate_left
  · (intro w' hSw; go_simp; try with_reducible rfl)
  simp only [Act.put, List.setIfInBounds_toArray, List.set_cons_zero, List.set_cons_succ]
  refine wpAnyH_take (i := 29) (oi := { dst := some 66, op := _, type := _, pos := _, after := _, guard := _ }) rfl (by kernel_rfl) (by kernel_rfl) (by kernel_rfl) (fun _ _ _ h => h) (yl_cell 3 _ g5 12 rfl Try.isAgg3 (by rfl) (by rfl) (fun _ h => h.out.cell (HC.out 12 _ rfl))) hS ?_
  simp only [Act.put, List.setIfInBounds_toArray, List.set_cons_zero, List.set_cons_succ]
  refine wpAnyH_take (i := 30) (oi := { dst := some 67, op := _, type := _, pos := _, after := _, guard := _ }) (v := ?_) rfl (by kernel_rfl) (by kernel_rfl) (by kernel_rfl) (fun _ _ _ h => h) (Or.inl ⟨by rfl, ?_⟩) hS ?_
  rotate_left
  · (intro w' hSw; go_simp; try with_reducible rfl)
  simp only [Act.put, List.setIfInBounds_toArray, List.set_cons_zero, List.set_cons_succ]
  refine wpAnyH_take (i := 31) (oi := { dst := some 68, op := _, type := _, pos := _, after := _, guard := _ }) (v := ?_) rfl (by kernel_rfl) (by kernel_rfl) (by kernel_rfl) (fun _ _ _ h => h) (Or.inl ⟨by rfl, ?_⟩) hS ?_
  rotate_left
  · (intro w' hSw; go_simp; try with_reducible rfl)
  simp only [Act.put, List.setIfInBounds_toArray, List.set_cons_zero, List.set_cons_succ]
  refine wpAnyH_take (i := 32) (oi := { dst := some 69, op := _, type := _, pos := _, after := _, guard := _ }) rfl (by kernel_rfl) (by kernel_rfl) (by kernel_rfl) (fun _ _ _ h => h) (yl_cell 9 _ g9 1 rfl Try.isAgg9 (by rfl) (by rfl) (fun _ h => h.out.cell HQ1.out)) hS ?_
  simp only [Act.put, List.setIfInBounds_toArray, List.set_cons_zero, List.set_cons_succ]
  refine wpAnyH_take (i := 33) (oi := { dst := some 70, op := _, type := _, pos := _, after := _, guard := _ }) (v := ?_) rfl (by kernel_rfl) (by kernel_rfl) (by kernel_rfl) (fun _ _ _ h => h) (Or.inl ⟨by rfl, ?_⟩) hS ?_
  rotate_left
  · (intro w' hSw; go_simp; try with_reducible rfl)
  simp only [Act.put, List.setIfInBounds_toArray, List.set_cons_zero, List.set_cons_succ]
  refine wpAnyH_ready (rs := [34]) (by kernel_rfl) (by simp) ?_
  refine AllReadyH.cons (o := { dst := some 8, op := _, type := _, pos := _, after := _, guard := _ }) rfl (fun K hK => ?_) AllReadyH.nil
  refine step_run (by rfl) (exec_alloc27 rfl) ?_
  refine hK.out _ _ (hide (hS.out.alloc _)) (fun hS => ?_)
  clear hK K
  try simp only [Act.put, List.setIfInBounds_toArray, List.set_cons_zero, List.set_cons_succ]
  refine wpAnyH_ready (rs := [35]) (by kernel_rfl) (by simp) ?_
  refine AllReadyH.cons (o := { dst := none, op := _, type := _, pos := _, after := _, guard := _ }) rfl (fun K hK => ?_) AllReadyH.nil
  refine step_store_ev _ _ rfl (by rfl) w2.drew.heap.size ⟨0, 0, 0, a3, a4, a5, a6, a7, a8, a9, a10, a11, a12, 0, 0, 0, 0, x⟩ (by rfl) (by rfl) 27 _ (Bk.new w2.drew 27 (ec z0).toArray) rfl ?_
  refine hK.out _ _ (hide (hS.out.setRow (g := w2.drew.heap.size) (.inr (Nat.le_refl _)) _)) (fun hS => ?_)
  clear hK K
  refine wpAnyH_done (by kernel_rfl) ?_ _
  have HE := hide (row_bk (Bk.new w2.drew 27 (ec z0).toArray) (ec ⟨0, 0, 0, a3, a4, a5, a6, a7, a8, a9, a10, a11, a12, 0, 0, 0, 0, x⟩).toArray)
  have HBN := hide (show bx ≠ w2.drew.heap.size by have := HB.out.drew.lt; omega)
  have HEN := hide (show w.heap.size ≤ w2.drew.heap.size from HK.out.size)
  have HGE := hide (show g5 ≠ w2.drew.heap.size by have := Own.lt HO2.out g5 rfl; have h2 : w2.drew.heap.size = w2.heap.size := rfl; omega)
  replace HC := hide (fun j u (h : (isv [a0, a1, a2, a3, a4, a5, a6, a7, a8, a9, a10, a11, a12, a13, a14, a15, a16])[j]? = some u) => hS.out.cell (HC.out j u h))
  replace HB := hide (HB.out.keep hS.out (by simp))
  replace HK := hide (HK.out.trans' hS.out)
  clear hS HQ1 HO2
  generalize (w2.drew.alloc (.cells (ec z0).toArray 27)).setRow w2.drew.heap.size (ec ⟨0, 0, 0, a3, a4, a5, a6, a7, a8, a9, a10, a11, a12, 0, 0, 0, 0, x⟩).toArray = w3 at HE HC HB HK ⊢
  generalize w2.drew.heap.size = be at HE HBN HEN HGE ⊢
  try simp only [Act.put]
  go_wp2
  refine wp_region_held_drew (S := (fun w' => Hid (Keeps [be] w3 w'))) (by kernel_rfl) (hide (Keeps.refl [be] w3).drew) (fun hS => ?_)
  refine wpAnyH_take (i := 0) (oi := { dst := some 71, op := _, type := _, pos := _, after := _, guard := _ }) (v := ?_) rfl (by kernel_rfl) (by kernel_rfl) (by kernel_rfl) (fun _ _ _ h => h) (Or.inl ⟨by rfl, ?_⟩) hS ?_
  rotate_left
  · (intro w' hSw; go_simp; try with_reducible rfl)
  simp only [Act.put, List.setIfInBounds_toArray, List.set_cons_zero, List.set_cons_succ]
  refine wpAnyH_take (i := 1) (oi := { dst := some 72, op := _, type := _, pos := _, after := _, guard := _ }) (v := ?_) rfl (by kernel_rfl) (by kernel_rfl) (by kernel_rfl) (fun _ _ _ h => h) (Or.inl ⟨by rfl, ?_⟩) hS ?_
  rotate_left
  · (intro w' hSw; go_simp; try with_reducible rfl)
  simp only [Act.put, List.setIfInBounds_toArray, List.set_cons_zero, List.set_cons_succ]
  refine wpAnyH_take (i := 2) (oi := { dst := some 73, op := _, type := _, pos := _, after := _, guard := _ }) rfl (by kernel_rfl) (by kernel_rfl) (by kernel_rfl) (fun _ _ _ h => h) (yl_cell 3 _ g5 0 rfl Try.isAgg3 (by rfl) (by rfl) (fun _ h => h.out.cellF (HC.out 0 _ rfl) (by simpa using HGE.out))) hS ?_
  simp only [Act.put, List.setIfInBounds_toArray, List.set_cons_zero, List.set_cons_succ]
  refine wpAnyH_take (i := 3) (oi := { dst := some 74, op := _, type := _, pos := _, after := _, guard := _ }) (v := ?_) rfl (by kernel_rfl) (by kernel_rfl) (by kernel_rfl) (fun _ _ _ h => h) (Or.inl ⟨by rfl, ?_⟩) hS ?_
  rotate_left
  · (intro w' hSw; go_simp; try with_reducible rfl)
  simp only [Act.put, List.setIfInBounds_toArray, List.set_cons_zero, List.set_cons_succ]
  refine wpAnyH_take (i := 4) (oi := { dst := some 75, op := _, type := _, pos := _, after := _, guard := _ }) (v := ?_) rfl (by kernel_rfl) (by kernel_rfl) (by kernel_rfl) (fun _ _ _ h => h) (Or.inl ⟨by rfl, ?_⟩) hS ?_
  rotate_left
  · (intro w' hSw; go_simp; try with_reducible rfl)
  simp only [Act.put, List.setIfInBounds_toArray, List.set_cons_zero, List.set_cons_succ]
  refine wpAnyH_take (i := 5) (oi := { dst := some 76, op := _, type := _, pos := _, after := _, guard := _ }) rfl (by kernel_rfl) (by kernel_rfl) (by kernel_rfl) (fun _ _ _ h => h) (yl_cell 3 _ g5 1 rfl Try.isAgg3 (by rfl) (by rfl) (fun _ h => h.out.cellF (HC.out 1 _ rfl) (by simpa using HGE.out))) hS ?_
  simp only [Act.put, List.setIfInBounds_toArray, List.set_cons_zero, List.set_cons_succ]
  refine wpAnyH_take (i := 6) (oi := { dst := some 77, op := _, type := _, pos := _, after := _, guard := _ }) (v := ?_) rfl (by kernel_rfl) (by kernel_rfl) (by kernel_rfl) (fun _ _ _ h => h) (Or.inl ⟨by rfl, ?_⟩) hS ?_
  rotate_left
  · (intro w' hSw; go_simp; try with_reducible rfl)
  simp only [Act.put, List.setIfInBounds_toArray, List.set_cons_zero, List.set_cons_succ]
  refine wpAnyH_take (i := 7) (oi := { dst := some 78, op := _, type := _, pos := _, after := _, guard := _ }) (v := ?_) rfl (by kernel_rfl) (by kernel_rfl) (by kernel_rfl) (fun _ _ _ h => h) (Or.inl ⟨by rfl, ?_⟩) hS ?_
  rotate_left
  · (intro w' hSw; go_simp; try with_reducible rfl)
  simp only [Act.put, List.setIfInBounds_toArray, List.set_cons_zero, List.set_cons_succ]
  refine wpAnyH_take (i := 8) (oi := { dst := some 79, op := _, type := _, pos := _, after := _, guard := _ }) rfl (by kernel_rfl) (by kernel_rfl) (by kernel_rfl) (fun _ _ _ h => h) (yl_cell 3 _ g5 2 rfl Try.isAgg3 (by rfl) (by rfl) (fun _ h => h.out.cellF (HC.out 2 _ rfl) (by simpa using HGE.out))) hS ?_
  simp only [Act.put, List.setIfInBounds_toArray, List.set_cons_zero, List.set_cons_succ]
  refine wpAnyH_take (i := 9) (oi := { dst := some 80, op := _, type := _, pos := _, after := _, guard := _ }) (v := ?_) rfl (by kernel_rfl) (by kernel_rfl) (by kernel_rfl) (fun _ _ _ h => h) (Or.inl ⟨by rfl, ?_⟩) hS ?_
  rotate_left
  · (intro w' hSw; go_simp; try with_reducible rfl)
  simp only [Act.put, List.setIfInBounds_toArray, List.set_cons_zero, List.set_cons_succ]
  refine wpAnyH_take (i := 10) (oi := { dst := some 81, op := _, type := _, pos := _, after := _, guard := _ }) (v := ?_) rfl (by kernel_rfl) (by kernel_rfl) (by kernel_rfl) (fun _ _ _ h => h) (Or.inl ⟨by rfl, ?_⟩) hS ?_
  rotate_left
  · (intro w' hSw; go_simp; try with_reducible rfl)
  simp only [Act.put, List.setIfInBounds_toArray, List.set_cons_zero, List.set_cons_succ]
  refine wpAnyH_ready (rs := [11]) (by kernel_rfl) (by simp) ?_
  refine AllReadyH.cons (o := { dst := none, op := _, type := _, pos := _, after := _, guard := _ }) rfl (fun K hK => ?_) AllReadyH.nil
  refine step_store_part 23 _ _ rfl (by rfl) be 0 [.int .i64 a0, .int .i64 a1, .int .i64 a2] (by rfl) (by rfl) 27 _ (Bk.drew HE.out) (by show (3 : Nat) ≤ 18; omega) (by simp [Value.oneCell']) sizeOf23 ?_
  change K _ (w3.drew.setRow be (ec ⟨a0, a1, a2, a3, a4, a5, a6, a7, a8, a9, a10, a11, a12, 0, 0, 0, 0, x⟩).toArray)
  refine hK.out _ _ (hide (hS.out.setRow (g := be) (.inl (by simp)) _)) (fun hS => ?_)
  clear hK K
  refine wpAnyH_done (by kernel_rfl) ?_ _
  replace HE := hide (row_bk (Bk.drew HE.out) (ec ⟨a0, a1, a2, a3, a4, a5, a6, a7, a8, a9, a10, a11, a12, 0, 0, 0, 0, x⟩).toArray)
  replace HC := hide (fun j u (h : (isv [a0, a1, a2, a3, a4, a5, a6, a7, a8, a9, a10, a11, a12, a13, a14, a15, a16])[j]? = some u) => hS.out.cellF (HC.out j u h) (by simpa using HGE.out))
  replace HB := hide (HB.out.keep hS.out (by simpa using HBN.out))
  replace HK := hide (HK.out.trans hS.out (fun i hi => .inr (by simp at hi; subst hi; exact HEN.out)))
  clear hS
  generalize w3.drew.setRow be (ec ⟨a0, a1, a2, a3, a4, a5, a6, a7, a8, a9, a10, a11, a12, 0, 0, 0, 0, x⟩).toArray = w4 at HE HC HB HK ⊢
  go_wp2
  refine wp_region_held_drew (S := (fun w' => Hid (Keeps [be] w4 w'))) (by kernel_rfl) (hide (Keeps.refl [be] w4).drew) (fun hS => ?_)
  refine wpAnyH_take (i := 0) (oi := { dst := some 82, op := _, type := _, pos := _, after := _, guard := _ }) (v := ?_) rfl (by kernel_rfl) (by kernel_rfl) (by kernel_rfl) (fun _ _ _ h => h) (Or.inl ⟨by rfl, ?_⟩) hS ?_
  rotate_left
  · (intro w' hSw; go_simp; try with_reducible rfl)
  simp only [Act.put, List.setIfInBounds_toArray, List.set_cons_zero, List.set_cons_succ]
  refine wpAnyH_take (i := 1) (oi := { dst := some 83, op := _, type := _, pos := _, after := _, guard := _ }) (v := ?_) rfl (by kernel_rfl) (by kernel_rfl) (by kernel_rfl) (fun _ _ _ h => h) (Or.inl ⟨by rfl, ?_⟩) hS ?_
  rotate_left
  · (intro w' hSw; go_simp; try with_reducible rfl)
  simp only [Act.put, List.setIfInBounds_toArray, List.set_cons_zero, List.set_cons_succ]
  refine wpAnyH_take (i := 2) (oi := { dst := some 84, op := _, type := _, pos := _, after := _, guard := _ }) rfl (by kernel_rfl) (by kernel_rfl) (by kernel_rfl) (fun _ _ _ h => h) (yl_cell 3 _ g5 13 rfl Try.isAgg3 (by rfl) (by rfl) (fun _ h => h.out.cellF (HC.out 13 _ rfl) (by simpa using HGE.out))) hS ?_
  simp only [Act.put, List.setIfInBounds_toArray, List.set_cons_zero, List.set_cons_succ]
  refine wpAnyH_take (i := 3) (oi := { dst := some 85, op := _, type := _, pos := _, after := _, guard := _ }) (v := ?_) rfl (by kernel_rfl) (by kernel_rfl) (by kernel_rfl) (fun _ _ _ h => h) (Or.inl ⟨by rfl, ?_⟩) hS ?_
  rotate_left
  · (intro w' hSw; go_simp; try with_reducible rfl)
  simp only [Act.put, List.setIfInBounds_toArray, List.set_cons_zero, List.set_cons_succ]
  refine wpAnyH_take (i := 4) (oi := { dst := some 86, op := _, type := _, pos := _, after := _, guard := _ }) (v := ?_) rfl (by kernel_rfl) (by kernel_rfl) (by kernel_rfl) (fun _ _ _ h => h) (Or.inl ⟨by rfl, ?_⟩) hS ?_
  rotate_left
  · (intro w' hSw; go_simp; try with_reducible rfl)
  simp only [Act.put, List.setIfInBounds_toArray, List.set_cons_zero, List.set_cons_succ]
  refine wpAnyH_take (i := 5) (oi := { dst := some 87, op := _, type := _, pos := _, after := _, guard := _ }) rfl (by kernel_rfl) (by kernel_rfl) (by kernel_rfl) (fun _ _ _ h => h) (yl_cell 3 _ g5 14 rfl Try.isAgg3 (by rfl) (by rfl) (fun _ h => h.out.cellF (HC.out 14 _ rfl) (by simpa using HGE.out))) hS ?_
  simp only [Act.put, List.setIfInBounds_toArray, List.set_cons_zero, List.set_cons_succ]
  refine wpAnyH_take (i := 6) (oi := { dst := some 88, op := _, type := _, pos := _, after := _, guard := _ }) (v := ?_) rfl (by kernel_rfl) (by kernel_rfl) (by kernel_rfl) (fun _ _ _ h => h) (Or.inl ⟨by rfl, ?_⟩) hS ?_
  rotate_left
  · (intro w' hSw; go_simp; try with_reducible rfl)
  simp only [Act.put, List.setIfInBounds_toArray, List.set_cons_zero, List.set_cons_succ]
  refine wpAnyH_take (i := 7) (oi := { dst := some 89, op := _, type := _, pos := _, after := _, guard := _ }) (v := ?_) rfl (by kernel_rfl) (by kernel_rfl) (by kernel_rfl) (fun _ _ _ h => h) (Or.inl ⟨by rfl, ?_⟩) hS ?_
  rotate_left
  · (intro w' hSw; go_simp; try with_reducible rfl)
  simp only [Act.put, List.setIfInBounds_toArray, List.set_cons_zero, List.set_cons_succ]
  refine wpAnyH_ready (rs := [8]) (by kernel_rfl) (by simp) ?_
  refine AllReadyH.cons (o := { dst := none, op := _, type := _, pos := _, after := _, guard := _ }) rfl (fun K hK => ?_) AllReadyH.nil
  refine step_store_part 25 _ _ rfl (by rfl) be 13 [.int .i64 a13, .int .i64 a14] (by rfl) (by rfl) 27 _ (Bk.drew HE.out) (by show (15 : Nat) ≤ 18; omega) (by simp [Value.oneCell']) sizeOf25 ?_
  change K _ (w4.drew.setRow be (ec ⟨a0, a1, a2, a3, a4, a5, a6, a7, a8, a9, a10, a11, a12, a13, a14, 0, 0, x⟩).toArray)
  refine hK.out _ _ (hide (hS.out.setRow (g := be) (.inl (by simp)) _)) (fun hS => ?_)
  clear hK K
  refine wpAnyH_done (by kernel_rfl) ?_ _
  replace HE := hide (row_bk (Bk.drew HE.out) (ec ⟨a0, a1, a2, a3, a4, a5, a6, a7, a8, a9, a10, a11, a12, a13, a14, 0, 0, x⟩).toArray)
  replace HC := hide (fun j u (h : (isv [a0, a1, a2, a3, a4, a5, a6, a7, a8, a9, a10, a11, a12, a13, a14, a15, a16])[j]? = some u) => hS.out.cellF (HC.out j u h) (by simpa using HGE.out))
  replace HB := hide (HB.out.keep hS.out (by simpa using HBN.out))
  replace HK := hide (HK.out.trans hS.out (fun i hi => .inr (by simp at hi; subst hi; exact HEN.out)))
  clear hS
  generalize w4.drew.setRow be (ec ⟨a0, a1, a2, a3, a4, a5, a6, a7, a8, a9, a10, a11, a12, a13, a14, 0, 0, x⟩).toArray = w5 at HE HC HB HK ⊢
  go_wp2
  refine wp_region_held_drew (S := (fun w' => Hid (Keeps [be] w5 w'))) (by kernel_rfl) (hide (Keeps.refl [be] w5).drew) (fun hS => ?_)
  refine wpAnyH_take (i := 0) (oi := { dst := some 90, op := _, type := _, pos := _, after := _, guard := _ }) (v := ?_) rfl (by kernel_rfl) (by kernel_rfl) (by kernel_rfl) (fun _ _ _ h => h) (Or.inl ⟨by rfl, ?_⟩) hS ?_
  rotate_left
  · (intro w' hSw; go_simp; try with_reducible rfl)
  simp only [Act.put, List.setIfInBounds_toArray, List.set_cons_zero, List.set_cons_succ]
  refine wpAnyH_take (i := 1) (oi := { dst := some 91, op := _, type := _, pos := _, after := _, guard := _ }) (v := ?_) rfl (by kernel_rfl) (by kernel_rfl) (by kernel_rfl) (fun _ _ _ h => h) (Or.inl ⟨by rfl, ?_⟩) hS ?_
  rotate_left
  · (intro w' hSw; go_simp; try with_reducible rfl)
  simp only [Act.put, List.setIfInBounds_toArray, List.set_cons_zero, List.set_cons_succ]
  refine wpAnyH_take (i := 2) (oi := { dst := some 92, op := _, type := _, pos := _, after := _, guard := _ }) rfl (by kernel_rfl) (by kernel_rfl) (by kernel_rfl) (fun _ _ _ h => h) (yl_cell 3 _ g5 15 rfl Try.isAgg3 (by rfl) (by rfl) (fun _ h => h.out.cellF (HC.out 15 _ rfl) (by simpa using HGE.out))) hS ?_
  simp only [Act.put, List.setIfInBounds_toArray, List.set_cons_zero, List.set_cons_succ]
  refine wpAnyH_take (i := 3) (oi := { dst := some 93, op := _, type := _, pos := _, after := _, guard := _ }) (v := ?_) rfl (by kernel_rfl) (by kernel_rfl) (by kernel_rfl) (fun _ _ _ h => h) (Or.inl ⟨by rfl, ?_⟩) hS ?_
  rotate_left
  · (intro w' hSw; go_simp; try with_reducible rfl)
  simp only [Act.put, List.setIfInBounds_toArray, List.set_cons_zero, List.set_cons_succ]
  refine wpAnyH_take (i := 4) (oi := { dst := some 94, op := _, type := _, pos := _, after := _, guard := _ }) (v := ?_) rfl (by kernel_rfl) (by kernel_rfl) (by kernel_rfl) (fun _ _ _ h => h) (Or.inl ⟨by rfl, ?_⟩) hS ?_
  rotate_left
  · (intro w' hSw; go_simp; try with_reducible rfl)
  simp only [Act.put, List.setIfInBounds_toArray, List.set_cons_zero, List.set_cons_succ]
  refine wpAnyH_take (i := 5) (oi := { dst := some 95, op := _, type := _, pos := _, after := _, guard := _ }) rfl (by kernel_rfl) (by kernel_rfl) (by kernel_rfl) (fun _ _ _ h => h) (yl_cell 3 _ g5 16 rfl Try.isAgg3 (by rfl) (by rfl) (fun _ h => h.out.cellF (HC.out 16 _ rfl) (by simpa using HGE.out))) hS ?_
  simp only [Act.put, List.setIfInBounds_toArray, List.set_cons_zero, List.set_cons_succ]
  refine wpAnyH_take (i := 6) (oi := { dst := some 96, op := _, type := _, pos := _, after := _, guard := _ }) (v := ?_) rfl (by kernel_rfl) (by kernel_rfl) (by kernel_rfl) (fun _ _ _ h => h) (Or.inl ⟨by rfl, ?_⟩) hS ?_
  rotate_left
  · (intro w' hSw; go_simp; try with_reducible rfl)
  simp only [Act.put, List.setIfInBounds_toArray, List.set_cons_zero, List.set_cons_succ]
  refine wpAnyH_take (i := 7) (oi := { dst := some 97, op := _, type := _, pos := _, after := _, guard := _ }) (v := ?_) rfl (by kernel_rfl) (by kernel_rfl) (by kernel_rfl) (fun _ _ _ h => h) (Or.inl ⟨by rfl, ?_⟩) hS ?_
  rotate_left
  · (intro w' hSw; go_simp; try with_reducible rfl)
  simp only [Act.put, List.setIfInBounds_toArray, List.set_cons_zero, List.set_cons_succ]
  refine wpAnyH_ready (rs := [8]) (by kernel_rfl) (by simp) ?_
  refine AllReadyH.cons (o := { dst := none, op := _, type := _, pos := _, after := _, guard := _ }) rfl (fun K hK => ?_) AllReadyH.nil
  refine step_store_part 25 _ _ rfl (by rfl) be 15 [.int .i64 a15, .int .i64 a16] (by rfl) (by rfl) 27 _ (Bk.drew HE.out) (by show (17 : Nat) ≤ 18; omega) (by simp [Value.oneCell']) sizeOf25 ?_
  change K _ (w5.drew.setRow be (ec ⟨a0, a1, a2, a3, a4, a5, a6, a7, a8, a9, a10, a11, a12, a13, a14, a15, a16, x⟩).toArray)
  refine hK.out _ _ (hide (hS.out.setRow (g := be) (.inl (by simp)) _)) (fun hS => ?_)
  clear hK K
  refine wpAnyH_done (by kernel_rfl) ?_ _
  replace HE := hide (row_bk (Bk.drew HE.out) (ec ⟨a0, a1, a2, a3, a4, a5, a6, a7, a8, a9, a10, a11, a12, a13, a14, a15, a16, x⟩).toArray)
  replace HC := hide (fun j u (h : (isv [a0, a1, a2, a3, a4, a5, a6, a7, a8, a9, a10, a11, a12, a13, a14, a15, a16])[j]? = some u) => hS.out.cellF (HC.out j u h) (by simpa using HGE.out))
  replace HB := hide (HB.out.keep hS.out (by simpa using HBN.out))
  replace HK := hide (HK.out.trans hS.out (fun i hi => .inr (by simp at hi; subst hi; exact HEN.out)))
  clear hS
  generalize w5.drew.setRow be (ec ⟨a0, a1, a2, a3, a4, a5, a6, a7, a8, a9, a10, a11, a12, a13, a14, a15, a16, x⟩).toArray = w6 at HE HC HB HK ⊢
  go_wp2_with (with_reducible refine Halt.load (t := 27) ?_)
  refine Halt.on ?_
  refine wpList_load_ev rfl _ rfl be 0 ⟨a0, a1, a2, a3, a4, a5, a6, a7, a8, a9, a10, a11, a12, a13, a14, a15, a16, x⟩ rfl (EvAt.box HE.out) ?_
  go_wp2_with (with_reducible refine Halt.store (t := 27) ?_)
  refine Halt.on ?_
  refine wpList_store_ev rfl _ _ rfl bx ⟨a0, a1, a2, a3, a4, a5, a6, a7, a8, a9, a10, a11, a12, a13, a14, a15, a16, x⟩ rfl rfl 27 _ HB.out rfl ?_
  have HX := hide (row_bk HB.out (ec ⟨a0, a1, a2, a3, a4, a5, a6, a7, a8, a9, a10, a11, a12, a13, a14, a15, a16, x⟩).toArray)
  have HKX := hide (HK.out.setRow (g := bx) (.inr HNW.out) (ec ⟨a0, a1, a2, a3, a4, a5, a6, a7, a8, a9, a10, a11, a12, a13, a14, a15, a16, x⟩).toArray)
  generalize w6.setRow bx (ec ⟨a0, a1, a2, a3, a4, a5, a6, a7, a8, a9, a10, a11, a12, a13, a14, a15, a16, x⟩).toArray = w9 at HX HKX ⊢
  go_wp2_with fail
  refine bodyPost_ret (v := .tuple #[ev ⟨a0, a1, a2, a3, a4, a5, a6, a7, a8, a9, a10, a11, a12, a13, a14, a15, a16, x⟩, .int .i64 0]) ?_ rfl ⟨by rw [HR.out]; rfl, HKX.out⟩
  exact results_two_ev rfl _ w9 bx _ _ rfl rfl (EvAt.box HX.out)
end Go.Proofs.Ytcfglfnncpcfoaa

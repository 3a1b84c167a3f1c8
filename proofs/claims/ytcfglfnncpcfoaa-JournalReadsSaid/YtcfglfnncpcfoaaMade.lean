/- The reference's Made. -/
import Derived.Test.YtcfglfnncpcfoaaSane
namespace Go.Proofs.Ytcfglfnncpcfoaa
open Go.RowKit
theorem run_alloc27 (w : World) : (Instr.alloc 27 true (.tuple #[])).run Try.prog w = .ok (.pointer (some ⟨w.heap.size, 0, none⟩)) (w.alloc (.cells (ec z0).toArray 27)) := by kernel_rfl
theorem exec_alloc27 {o : Oper} {a : Act} {w : World} (ho : o.op = .alloc 27) : (execOp a.eval o).run Try.prog w = .ok (.value (.pointer (some ⟨w.heap.size, 0, none⟩))) (w.alloc (.cells (ec z0).toArray 27)) := by
  have h := run_alloc27 w
  unfold execOp
  simp [ho, h]
theorem step_store_ev {w : World} {ops : Array Oper} {o : Oper} {a : Act} {K : Act → World → Prop} {Q : Exit → Act → World → Prop} {E : Prop} (p y : Operand) (ho : o.op = .store 27 p y) (hw : Region.wanted o (yielded ops a.tmps) = true) (g : Nat) (e : Ev) (hp : a.eval p = .pointer (some ⟨g, 0, none⟩)) (hy : a.eval y = ev e) (t : TypeId) (cur : Array Value) (hg : Bk w g t cur) (hs : cur.size = 18)
    (h : K (a.put o.dst undef) (w.setRow g (ec e).toArray)) : if Region.wanted o (yielded ops a.tmps) = true then Oper.wp Try.prog o a w K Q else E := by
  have hst := run_storeCells_at Try.prog g 0 t (ec e) 0 cur w hg (by rw [ec_length, hs]; omega) (ec_one e)
  rw [Nat.add_zero, List.take_zero, List.nil_append, Nat.zero_add, ec_length, List.drop_eq_nil_of_le (by rw [Array.length_toList, hs]; exact Nat.le_refl _), List.append_nil] at hst
  rw [if_pos hw]
  unfold Oper.wp execOp
  simp [ho, hp, hy, Instr.storeAt, Instr.sureAddr, storeVar, ev, Value.cells, hst]
  exact h
theorem results_cell_ev {fn : Func} {p : Tmp} (h : fn.results = #[.cell p 27]) (tmps : Array Value) (w : World) (g : Nat) (e : Ev) (hp : tmps.getD p undef = .pointer (some ⟨g, 0, none⟩)) (hg : EvAt w g 0 e) : (results fn tmps).run Try.prog w = .ok (ev e) w := by
  have hp' : tmps[p]?.getD undef = .pointer (some ⟨g, 0, none⟩) := by simpa using hp
  simp [results, h, hp', asAddr, run_load_ev hg]
theorem tdiv3 (x : Int) (h1 : -9223372036854775808 ≤ x) (h2 : x ≤ 9223372036854775807) : -9223372036854775808 ≤ x.tdiv 3 ∧ x.tdiv 3 ≤ 9223372036854775807 := by
  have h := Int.tdiv_eq_ediv (a := x) (b := 3)
  have hs : (3 : Int).sign = 1 := rfl
  rw [h, hs]
  split <;> constructor <;> omega
set_option maxHeartbeats 4000000 in
set_option maxRecDepth 100000 in
theorem made_any (q0 q1 q2 q3 : Int) (w : World) (b0 : -9223372036854775808 ≤ q0 ∧ q0 ≤ 9223372036854775807) (b1 : -9223372036854775808 ≤ q1 ∧ q1 ≤ 9223372036854775807) (b2 : -9223372036854775808 ≤ q2 ∧ q2 ≤ 9223372036854775807) (b3 : -9223372036854775808 ≤ q3 ∧ q3 ≤ 9223372036854775807) :
    Calls Try.prog 41 #[.agg #[.int .i64 q0, .int .i64 q1, .int .i64 q2, .int .i64 q3]] w fun r w' => ∃ x : Ev, r = .returned (ev x) ∧ 0 ≤ x.t ∧ x.t ≤ 5 ∧ Keeps [] w w' := by
  obtain ⟨d, hd⟩ : ∃ d, IntKind.i64.wrap (q1.tdiv 3) = d := ⟨_, rfl⟩
  have b4 := tdiv3 q1 b1.1 b1.2
  rw [← IntWalk.i64_in (q1.tdiv 3) (by omega), hd] at b4
  obtain ⟨m0, hm0⟩ : ∃ m, q0 % 6 = m := ⟨_, rfl⟩
  obtain ⟨m1, hm1⟩ : ∃ m, q1 % 3 = m := ⟨_, rfl⟩
  obtain ⟨m2, hm2⟩ : ∃ m, d % 3 = m := ⟨_, rfl⟩
  obtain ⟨m3, hm3⟩ : ∃ m, q2 % 3 = m := ⟨_, rfl⟩
  obtain ⟨m4, hm4⟩ : ∃ m : Nat, q3 % 3 = (m : Int) := ⟨(q3 % 3).toNat, by omega⟩
  have h00 : 0 ≤ m0 := by omega
  have h01 : m0 ≤ 5 := by omega
  have h30 : 0 ≤ m3 := by omega
  have h31 : m3 ≤ 2 := by omega
  have h41 : m4 < 3 := by omega
  have HM := hide (And.intro hm0 (And.intro hm1 (And.intro hm2 (And.intro hm3 hm4))))
  have HQ := hide (And.intro b0 (And.intro b1 (And.intro b2 (And.intro b3 b4))))
  have HDV := hide hd
  clear hm0 hm1 hm2 hm3 hm4 b0 b1 b2 b3 b4 hd
  have HB := hide (Bk.new w 51 #[.int .i64 q0, .int .i64 q1, .int .i64 q2, .int .i64 q3])
  have HK := hide ((Keeps.refl [] w).alloc (.cells #[.int .i64 q0, .int .i64 q1, .int .i64 q2, .int .i64 q3] 51))
  have HR := hide (Bk.new (w.alloc (.cells #[.int .i64 q0, .int .i64 q1, .int .i64 q2, .int .i64 q3] 51)) 27 (ec z0).toArray)
  have HK2 := hide (HK.out.alloc (.cells (ec z0).toArray 27))
  have HB2 := hide (HB.out.alloc (.cells (ec z0).toArray 27))
  clear HB HK
  go_enter Try.func41, Try.ntmps41
  go_wp2
  change Code.wp _ _ _ _ ((w.alloc (.cells #[.int .i64 q0, .int .i64 q1, .int .i64 q2, .int .i64 q3] 51)).alloc (.cells (ec z0).toArray 27))
  have hne : w.heap.size ≠ (w.alloc (.cells #[.int .i64 q0, .int .i64 q1, .int .i64 q2, .int .i64 q3] 51)).heap.size := by simp
  have hsz : (w.alloc (.cells #[.int .i64 q0, .int .i64 q1, .int .i64 q2, .int .i64 q3] 51)).heap.size = w.heap.size + 1 := by simp
  rw [hsz] at HR hne
  have hnw : w.heap.size ≤ w.heap.size + 1 := by omega
  clear hsz
  generalize (w.alloc (.cells #[.int .i64 q0, .int .i64 q1, .int .i64 q2, .int .i64 q3] 51)).alloc (.cells (ec z0).toArray 27) = w0 at HR HK2 HB2 ⊢
  generalize w.heap.size + 1 = br at HR hne hnw ⊢
  have HNW := hide hnw
  clear hnw
  generalize hbq : w.heap.size = bq at HB2 hne ⊢
  have HBQ := hide hbq
  clear hbq
  go_cut [3] (fun s3 wx => s3 = .pointer (some ⟨w0.drew.heap.size, 0, none⟩) ∧ Hid (Bk wx w0.drew.heap.size 27 (ec ⟨m0, m1, m2, 0, 0, 0, 0, 0, 0, 0, 0, 0, 0, 0, 0, 0, 0, ⟨#[]⟩⟩).toArray ∧ Keeps [] w0 wx))
  case first =>
    refine wp_region_held_drew (S := (fun w' => Hid (Keeps [] w0 w'))) (by kernel_rfl) (hide (Keeps.refl [] w0).drew) (fun hS => ?_)
    refine wpAnyH_take (i := 0) (oi := { dst := some 4, op := _, type := _, pos := _, after := _, guard := _ }) (v := ?_) rfl (by kernel_rfl) (by kernel_rfl) (by kernel_rfl) (fun _ _ _ h => h) (Or.inl ⟨by rfl, ?_⟩) hS ?_
    rotate_left
    · (intro w' hSw; go_simp; try with_reducible rfl)
    simp only [Act.put, List.setIfInBounds_toArray, List.set_cons_zero, List.set_cons_succ]
    refine wpAnyH_take (i := 1) (oi := { dst := some 5, op := _, type := _, pos := _, after := _, guard := _ }) rfl (by kernel_rfl) (by kernel_rfl) (by kernel_rfl) (fun _ _ _ h => h) (yl_cell 3 _ bq 0 rfl Try.isAgg3 (by rfl) (by rfl) (fun _ h => h.out.cell (HB2.out.cell 0))) hS ?_
    simp only [Act.put, List.setIfInBounds_toArray, List.set_cons_zero, List.set_cons_succ]
    refine wpAnyH_take (i := 3) (oi := { dst := some 7, op := _, type := _, pos := _, after := _, guard := _ }) (v := ?_) rfl (by kernel_rfl) (by kernel_rfl) (by kernel_rfl) (fun _ _ _ h => h) (Or.inl ⟨by rfl, ?_⟩) hS ?_
    rotate_left
    · (intro w' hSw; go_simp; try with_reducible rfl)
    simp only [Act.put, List.setIfInBounds_toArray, List.set_cons_zero, List.set_cons_succ]
    refine wpAnyH_take (i := 4) (oi := { dst := some 8, op := _, type := _, pos := _, after := _, guard := _ }) rfl (by kernel_rfl) (by kernel_rfl) (by kernel_rfl) (fun _ _ _ h => h) (yl_cell 3 _ bq 1 rfl Try.isAgg3 (by rfl) (by rfl) (fun _ h => h.out.cell (HB2.out.cell 1))) hS ?_
    simp only [Act.put, List.setIfInBounds_toArray, List.set_cons_zero, List.set_cons_succ]
    refine wpAnyH_take (i := 6) (oi := { dst := some 10, op := _, type := _, pos := _, after := _, guard := _ }) (v := ?_) rfl (by kernel_rfl) (by kernel_rfl) (by kernel_rfl) (fun _ _ _ h => h) (Or.inl ⟨by rfl, ?_⟩) hS ?_
    rotate_left
    · (intro w' hSw; go_simp; try with_reducible rfl)
    simp only [Act.put, List.setIfInBounds_toArray, List.set_cons_zero, List.set_cons_succ]
    refine wpAnyH_take (i := 7) (oi := { dst := some 11, op := _, type := _, pos := _, after := _, guard := _ }) rfl (by kernel_rfl) (by kernel_rfl) (by kernel_rfl) (fun _ _ _ h => h) (yl_cell 3 _ bq 1 rfl Try.isAgg3 (by rfl) (by rfl) (fun _ h => h.out.cell (HB2.out.cell 1))) hS ?_
    simp only [Act.put, List.setIfInBounds_toArray, List.set_cons_zero, List.set_cons_succ]
    refine wpAnyH_take (i := 8) (oi := { dst := some 12, op := _, type := _, pos := _, after := _, guard := _ }) (v := ?_) rfl (by kernel_rfl) (by kernel_rfl) (by kernel_rfl) (fun _ _ _ h => h) (Or.inl ⟨by rfl, ?_⟩) hS ?_
    rotate_left
    · (intro w' hSw; go_simp; try with_reducible rfl)
    simp only [Act.put, List.setIfInBounds_toArray, List.set_cons_zero, List.set_cons_succ]
    refine wpAnyH_ready (rs := [2, 12]) (by kernel_rfl) (by simp) ?_
    refine AllReadyH.cons (o := { dst := some 6, op := _, type := _, pos := _, after := _, guard := _ }) rfl (fun K hK => ?_) (AllReadyH.cons (o := { dst := some 3, op := _, type := _, pos := _, after := _, guard := _ }) rfl (fun K hK => ?_) AllReadyH.nil)
    · go_simp
      refine (mod_any q0 6 _ HQ.out.1.1 HQ.out.1.2 (by omega) (by omega)).mono ?_
      rintro r2 w2 ⟨rfl, rfl⟩
      rw [HM.out.1]
      refine hK.out _ _ hS (fun hS => ?_)
      clear hK K
      refine wpAnyH_ready (rs := [5, 12]) (by kernel_rfl) (by simp) ?_
      refine AllReadyH.cons (o := { dst := some 9, op := _, type := _, pos := _, after := _, guard := _ }) rfl (fun K hK => ?_) (AllReadyH.cons (o := { dst := some 3, op := _, type := _, pos := _, after := _, guard := _ }) rfl (fun K hK => ?_) AllReadyH.nil)
      · go_simp
        refine (mod_any q1 3 _ HQ.out.2.1.1 HQ.out.2.1.2 (by omega) (by omega)).mono ?_
        rintro r2 w2 ⟨rfl, rfl⟩
        rw [HM.out.2.1]
        refine hK.out _ _ hS (fun hS => ?_)
        clear hK K
        refine wpAnyH_ready (rs := [9, 12]) (by kernel_rfl) (by simp) ?_
        refine AllReadyH.cons (o := { dst := some 13, op := _, type := _, pos := _, after := _, guard := _ }) rfl (fun K hK => ?_) (AllReadyH.cons (o := { dst := some 3, op := _, type := _, pos := _, after := _, guard := _ }) rfl (fun K hK => ?_) AllReadyH.nil)
        · go_simp
          rw [HDV.out]
          refine (mod_any d 3 _ HQ.out.2.2.2.2.1 HQ.out.2.2.2.2.2 (by omega) (by omega)).mono ?_
          rintro r2 w2 ⟨rfl, rfl⟩
          rw [HM.out.2.2.1]
          refine hK.out _ _ hS (fun hS => ?_)
          clear hK K
          try simp only [Act.put, List.setIfInBounds_toArray, List.set_cons_zero, List.set_cons_succ]
          refine wpAnyH_take (i := 10) (oi := { dst := some 14, op := _, type := _, pos := _, after := _, guard := _ }) (v := ?_) rfl (by kernel_rfl) (by kernel_rfl) (by kernel_rfl) (fun _ _ _ h => h) (Or.inl ⟨by rfl, ?_⟩) hS ?_
          rotate_left
          · (intro w' hSw; go_simp; try with_reducible rfl)
          simp only [Act.put, List.setIfInBounds_toArray, List.set_cons_zero, List.set_cons_succ]
          refine wpAnyH_take (i := 11) (oi := { dst := some 15, op := _, type := _, pos := _, after := _, guard := _ }) (v := ?_) rfl (by kernel_rfl) (by kernel_rfl) (by kernel_rfl) (fun _ _ _ h => h) (Or.inl ⟨by rfl, ?_⟩) hS ?_
          rotate_left
          · (intro w' hSw; go_simp; try with_reducible rfl)
          simp only [Act.put, List.setIfInBounds_toArray, List.set_cons_zero, List.set_cons_succ]
          refine wpAnyH_ready (rs := [12]) (by kernel_rfl) (by simp) ?_
          refine AllReadyH.cons (o := { dst := some 3, op := _, type := _, pos := _, after := _, guard := _ }) rfl (fun K hK => ?_) AllReadyH.nil
          refine step_run (by rfl) (exec_alloc27 rfl) ?_
          refine hK.out _ _ (hide (hS.out.alloc _)) (fun hS => ?_)
          clear hK K
          try simp only [Act.put, List.setIfInBounds_toArray, List.set_cons_zero, List.set_cons_succ]
          refine wpAnyH_ready (rs := [13]) (by kernel_rfl) (by simp) ?_
          refine AllReadyH.cons (o := { dst := none, op := _, type := _, pos := _, after := _, guard := _ }) rfl (fun K hK => ?_) AllReadyH.nil
          refine step_store_ev _ _ rfl (by rfl) w0.drew.heap.size ⟨m0, m1, m2, 0, 0, 0, 0, 0, 0, 0, 0, 0, 0, 0, 0, 0, 0, ⟨#[]⟩⟩ (by rfl) (by rfl) 27 _ (Bk.new w0.drew 27 (ec z0).toArray) rfl ?_
          refine hK.out _ _ (hide (hS.out.setRow (g := w0.drew.heap.size) (.inr (Nat.le_refl _)) _)) (fun hS => ?_)
          clear hK K
          refine wpAnyH_done (by kernel_rfl) ?_ _
          go_wp2_with fail
          go_meet
          exact ⟨rfl, hide ⟨row_bk (Bk.new w0.drew 27 (ec z0).toArray) _, hS.out⟩⟩
        · refine step_run (by rfl) (exec_alloc27 rfl) ?_
          refine hK.out _ _ (hide (hS.out.alloc _)) (fun hS => ?_)
          clear hK K
          try simp only [Act.put, List.setIfInBounds_toArray, List.set_cons_zero, List.set_cons_succ]
          refine wpAnyH_ready (rs := [9]) (by kernel_rfl) (by simp) ?_
          refine AllReadyH.cons (o := { dst := some 13, op := _, type := _, pos := _, after := _, guard := _ }) rfl (fun K hK => ?_) AllReadyH.nil
          go_simp
          rw [HDV.out]
          refine (mod_any d 3 _ HQ.out.2.2.2.2.1 HQ.out.2.2.2.2.2 (by omega) (by omega)).mono ?_
          rintro r2 w2 ⟨rfl, rfl⟩
          rw [HM.out.2.2.1]
          refine hK.out _ _ hS (fun hS => ?_)
          clear hK K
          try simp only [Act.put, List.setIfInBounds_toArray, List.set_cons_zero, List.set_cons_succ]
          refine wpAnyH_take (i := 10) (oi := { dst := some 14, op := _, type := _, pos := _, after := _, guard := _ }) (v := ?_) rfl (by kernel_rfl) (by kernel_rfl) (by kernel_rfl) (fun _ _ _ h => h) (Or.inl ⟨by rfl, ?_⟩) hS ?_
          rotate_left
          · (intro w' hSw; go_simp; try with_reducible rfl)
          simp only [Act.put, List.setIfInBounds_toArray, List.set_cons_zero, List.set_cons_succ]
          refine wpAnyH_take (i := 11) (oi := { dst := some 15, op := _, type := _, pos := _, after := _, guard := _ }) (v := ?_) rfl (by kernel_rfl) (by kernel_rfl) (by kernel_rfl) (fun _ _ _ h => h) (Or.inl ⟨by rfl, ?_⟩) hS ?_
          rotate_left
          · (intro w' hSw; go_simp; try with_reducible rfl)
          simp only [Act.put, List.setIfInBounds_toArray, List.set_cons_zero, List.set_cons_succ]
          refine wpAnyH_ready (rs := [13]) (by kernel_rfl) (by simp) ?_
          refine AllReadyH.cons (o := { dst := none, op := _, type := _, pos := _, after := _, guard := _ }) rfl (fun K hK => ?_) AllReadyH.nil
          refine step_store_ev _ _ rfl (by rfl) w0.drew.heap.size ⟨m0, m1, m2, 0, 0, 0, 0, 0, 0, 0, 0, 0, 0, 0, 0, 0, 0, ⟨#[]⟩⟩ (by rfl) (by rfl) 27 _ (Bk.new w0.drew 27 (ec z0).toArray) rfl ?_
          refine hK.out _ _ (hide (hS.out.setRow (g := w0.drew.heap.size) (.inr (Nat.le_refl _)) _)) (fun hS => ?_)
          clear hK K
          refine wpAnyH_done (by kernel_rfl) ?_ _
          go_wp2_with fail
          go_meet
          exact ⟨rfl, hide ⟨row_bk (Bk.new w0.drew 27 (ec z0).toArray) _, hS.out⟩⟩
      · refine step_run (by rfl) (exec_alloc27 rfl) ?_
        refine hK.out _ _ (hide (hS.out.alloc _)) (fun hS => ?_)
        clear hK K
        try simp only [Act.put, List.setIfInBounds_toArray, List.set_cons_zero, List.set_cons_succ]
        refine wpAnyH_ready (rs := [5]) (by kernel_rfl) (by simp) ?_
        refine AllReadyH.cons (o := { dst := some 9, op := _, type := _, pos := _, after := _, guard := _ }) rfl (fun K hK => ?_) AllReadyH.nil
        go_simp
        refine (mod_any q1 3 _ HQ.out.2.1.1 HQ.out.2.1.2 (by omega) (by omega)).mono ?_
        rintro r2 w2 ⟨rfl, rfl⟩
        rw [HM.out.2.1]
        refine hK.out _ _ hS (fun hS => ?_)
        clear hK K
        refine wpAnyH_ready (rs := [9]) (by kernel_rfl) (by simp) ?_
        refine AllReadyH.cons (o := { dst := some 13, op := _, type := _, pos := _, after := _, guard := _ }) rfl (fun K hK => ?_) AllReadyH.nil
        go_simp
        rw [HDV.out]
        refine (mod_any d 3 _ HQ.out.2.2.2.2.1 HQ.out.2.2.2.2.2 (by omega) (by omega)).mono ?_
        rintro r2 w2 ⟨rfl, rfl⟩
        rw [HM.out.2.2.1]
        refine hK.out _ _ hS (fun hS => ?_)
        clear hK K
        try simp only [Act.put, List.setIfInBounds_toArray, List.set_cons_zero, List.set_cons_succ]
        refine wpAnyH_take (i := 10) (oi := { dst := some 14, op := _, type := _, pos := _, after := _, guard := _ }) (v := ?_) rfl (by kernel_rfl) (by kernel_rfl) (by kernel_rfl) (fun _ _ _ h => h) (Or.inl ⟨by rfl, ?_⟩) hS ?_
        rotate_left
        · (intro w' hSw; go_simp; try with_reducible rfl)
        simp only [Act.put, List.setIfInBounds_toArray, List.set_cons_zero, List.set_cons_succ]
        refine wpAnyH_take (i := 11) (oi := { dst := some 15, op := _, type := _, pos := _, after := _, guard := _ }) (v := ?_) rfl (by kernel_rfl) (by kernel_rfl) (by kernel_rfl) (fun _ _ _ h => h) (Or.inl ⟨by rfl, ?_⟩) hS ?_
        rotate_left
        · (intro w' hSw; go_simp; try with_reducible rfl)
        simp only [Act.put, List.setIfInBounds_toArray, List.set_cons_zero, List.set_cons_succ]
        refine wpAnyH_ready (rs := [13]) (by kernel_rfl) (by simp) ?_
        refine AllReadyH.cons (o := { dst := none, op := _, type := _, pos := _, after := _, guard := _ }) rfl (fun K hK => ?_) AllReadyH.nil
        refine step_store_ev _ _ rfl (by rfl) w0.drew.heap.size ⟨m0, m1, m2, 0, 0, 0, 0, 0, 0, 0, 0, 0, 0, 0, 0, 0, 0, ⟨#[]⟩⟩ (by rfl) (by rfl) 27 _ (Bk.new w0.drew 27 (ec z0).toArray) rfl ?_
        refine hK.out _ _ (hide (hS.out.setRow (g := w0.drew.heap.size) (.inr (Nat.le_refl _)) _)) (fun hS => ?_)
        clear hK K
        refine wpAnyH_done (by kernel_rfl) ?_ _
        go_wp2_with fail
        go_meet
        exact ⟨rfl, hide ⟨row_bk (Bk.new w0.drew 27 (ec z0).toArray) _, hS.out⟩⟩
    · refine step_run (by rfl) (exec_alloc27 rfl) ?_
      refine hK.out _ _ (hide (hS.out.alloc _)) (fun hS => ?_)
      clear hK K
      try simp only [Act.put, List.setIfInBounds_toArray, List.set_cons_zero, List.set_cons_succ]
      refine wpAnyH_ready (rs := [2]) (by kernel_rfl) (by simp) ?_
      refine AllReadyH.cons (o := { dst := some 6, op := _, type := _, pos := _, after := _, guard := _ }) rfl (fun K hK => ?_) AllReadyH.nil
      go_simp
      refine (mod_any q0 6 _ HQ.out.1.1 HQ.out.1.2 (by omega) (by omega)).mono ?_
      rintro r2 w2 ⟨rfl, rfl⟩
      rw [HM.out.1]
      refine hK.out _ _ hS (fun hS => ?_)
      clear hK K
      refine wpAnyH_ready (rs := [5]) (by kernel_rfl) (by simp) ?_
      refine AllReadyH.cons (o := { dst := some 9, op := _, type := _, pos := _, after := _, guard := _ }) rfl (fun K hK => ?_) AllReadyH.nil
      go_simp
      refine (mod_any q1 3 _ HQ.out.2.1.1 HQ.out.2.1.2 (by omega) (by omega)).mono ?_
      rintro r2 w2 ⟨rfl, rfl⟩
      rw [HM.out.2.1]
      refine hK.out _ _ hS (fun hS => ?_)
      clear hK K
      refine wpAnyH_ready (rs := [9]) (by kernel_rfl) (by simp) ?_
      refine AllReadyH.cons (o := { dst := some 13, op := _, type := _, pos := _, after := _, guard := _ }) rfl (fun K hK => ?_) AllReadyH.nil
      go_simp
      rw [HDV.out]
      refine (mod_any d 3 _ HQ.out.2.2.2.2.1 HQ.out.2.2.2.2.2 (by omega) (by omega)).mono ?_
      rintro r2 w2 ⟨rfl, rfl⟩
      rw [HM.out.2.2.1]
      refine hK.out _ _ hS (fun hS => ?_)
      clear hK K
      try simp only [Act.put, List.setIfInBounds_toArray, List.set_cons_zero, List.set_cons_succ]
      refine wpAnyH_take (i := 10) (oi := { dst := some 14, op := _, type := _, pos := _, after := _, guard := _ }) (v := ?_) rfl (by kernel_rfl) (by kernel_rfl) (by kernel_rfl) (fun _ _ _ h => h) (Or.inl ⟨by rfl, ?_⟩) hS ?_
      rotate_left
      · (intro w' hSw; go_simp; try with_reducible rfl)
      simp only [Act.put, List.setIfInBounds_toArray, List.set_cons_zero, List.set_cons_succ]
      refine wpAnyH_take (i := 11) (oi := { dst := some 15, op := _, type := _, pos := _, after := _, guard := _ }) (v := ?_) rfl (by kernel_rfl) (by kernel_rfl) (by kernel_rfl) (fun _ _ _ h => h) (Or.inl ⟨by rfl, ?_⟩) hS ?_
      rotate_left
      · (intro w' hSw; go_simp; try with_reducible rfl)
      simp only [Act.put, List.setIfInBounds_toArray, List.set_cons_zero, List.set_cons_succ]
      refine wpAnyH_ready (rs := [13]) (by kernel_rfl) (by simp) ?_
      refine AllReadyH.cons (o := { dst := none, op := _, type := _, pos := _, after := _, guard := _ }) rfl (fun K hK => ?_) AllReadyH.nil
      refine step_store_ev _ _ rfl (by rfl) w0.drew.heap.size ⟨m0, m1, m2, 0, 0, 0, 0, 0, 0, 0, 0, 0, 0, 0, 0, 0, 0, ⟨#[]⟩⟩ (by rfl) (by rfl) 27 _ (Bk.new w0.drew 27 (ec z0).toArray) rfl ?_
      refine hK.out _ _ (hide (hS.out.setRow (g := w0.drew.heap.size) (.inr (Nat.le_refl _)) _)) (fun hS => ?_)
      clear hK K
      refine wpAnyH_done (by kernel_rfl) ?_ _
      go_wp2_with fail
      go_meet
      exact ⟨rfl, hide ⟨row_bk (Bk.new w0.drew 27 (ec z0).toArray) _, hS.out⟩⟩
  case rest =>
  obtain ⟨rfl, HC⟩ := hcut
  obtain ⟨w1, rfl⟩ : ∃ w1 : World, w1 = wc := ⟨_, rfl⟩
  have HG := hide (show w0.heap.size ≤ w0.drew.heap.size from Nat.le_refl _)
  have hn1 : br ≠ w0.drew.heap.size := by have := HR.out.lt; have h2 := HG.out; omega
  have hn2 : bq ≠ w0.drew.heap.size := by have := HB2.out.lt; have h2 := HG.out; omega
  generalize w0.drew.heap.size = bx at HC HG hn1 hn2 ⊢
  have HX := hide HC.out.1
  have HK3 := hide (HK2.out.trans' HC.out.2)
  have HGW := hide (Nat.le_trans HK2.out.size HG.out)
  replace HB2 := hide (HB2.out.keep HC.out.2 (by simp))
  replace HR := hide (HR.out.keep HC.out.2 (by simp))
  clear HC HK2
  have c2 : w1.cell? ⟨bq, 2, none⟩ = some (.int .i64 q2) := HB2.out.cell 2
  have c3 : w1.cell? ⟨bx, 3, none⟩ = some (.int .i64 0) := HX.out.cell 3
  have f3 : w1.frozen? ⟨bx, 3, none⟩ = false := HX.out.free 3
  have v1 : IntKind.i64.wrap (1 + m3) = 1 + m3 := IntWalk.i64_in _ (by omega)
  go_wp2_with fail
  refine (mod_any q2 3 w1 HQ.out.2.2.1.1 HQ.out.2.2.1.2 (by omega) (by omega)).mono ?_
  rintro r w' ⟨rfl, rfl⟩
  rw [HM.out.2.2.2.1]
  have HX2 := hide (show Bk (w1.setCell ⟨bx, 3, none⟩ (.int .i64 (1 + m3))) bx 27 (ec ⟨m0, m1, m2, 1 + m3, 0, 0, 0, 0, 0, 0, 0, 0, 0, 0, 0, 0, 0, ⟨#[]⟩⟩).toArray from HX.out.set 3 _)
  have HK4 := hide (HK3.out.setCell (p := ⟨bx, 3, none⟩) (.inr HGW.out) (.int .i64 (1 + m3)))
  have HB4 := hide (HB2.out.far (p := ⟨bx, 3, none⟩) hn2 (.int .i64 (1 + m3)))
  have HR4 := hide (HR.out.far (p := ⟨bx, 3, none⟩) hn1 (.int .i64 (1 + m3)))
  have d3 : (w1.setCell ⟨bx, 3, none⟩ (.int .i64 (1 + m3))).cell? ⟨bq, 3, none⟩ = some (.int .i64 q3) := HB4.out.cell 3
  clear HX HK3 HB2 HR
  have d4 : ((w1.setCell ⟨bx, 3, none⟩ (.int .i64 (1 + m3))).alloc (.cells #[.string ⟨#[]⟩, .string ⟨#[97]⟩, .string ⟨#[98]⟩] 9)).cell? ⟨bq, 3, none⟩ = some (.int .i64 q3) := (HB4.out.alloc _).cell 3
  go_wp2_with fail
  refine (mod_any q3 3 _ HQ.out.2.2.2.1.1 HQ.out.2.2.2.1.2 (by omega) (by omega)).mono ?_
  rintro r w' ⟨rfl, rfl⟩
  rw [HM.out.2.2.2.2]
  obtain ⟨sx, es⟩ : ∃ sx : ByteArray, ((w1.setCell ⟨bx, 3, none⟩ (.int .i64 (1 + m3))).alloc (.cells #[.string ⟨#[]⟩, .string ⟨#[97]⟩, .string ⟨#[98]⟩] 9)).cell? ⟨w1.heap.size, m4, none⟩ = some (.string sx) := by
    have hb := Bk.new (w1.setCell ⟨bx, 3, none⟩ (.int .i64 (1 + m3))) 9 #[.string ⟨#[]⟩, .string ⟨#[97]⟩, .string ⟨#[98]⟩]
    have hz : (w1.setCell ⟨bx, 3, none⟩ (.int .i64 (1 + m3))).heap.size = w1.heap.size := by simp
    rw [hz] at hb
    have : m4 = 0 ∨ m4 = 1 ∨ m4 = 2 := by omega
    rcases this with rfl | rfl | rfl
    · exact ⟨_, hb.cell 0⟩
    · exact ⟨_, hb.cell 1⟩
    · exact ⟨_, hb.cell 2⟩
  have i0 : (0 : Int) ≤ (m4 : Int) := by omega
  have i1 : (m4 : Int) < 3 := by omega
  have HX3 := hide (HX2.out.alloc (.cells #[.string ⟨#[]⟩, .string ⟨#[97]⟩, .string ⟨#[98]⟩] 9))
  have HR5 := hide (HR4.out.alloc (.cells #[.string ⟨#[]⟩, .string ⟨#[97]⟩, .string ⟨#[98]⟩] 9))
  have HK5 := hide (HK4.out.alloc (.cells #[.string ⟨#[]⟩, .string ⟨#[97]⟩, .string ⟨#[98]⟩] 9))
  clear d3 d4 c2 c3 f3 v1 HX2 HK4 HB4 HR4
  generalize (w1.setCell ⟨bx, 3, none⟩ (.int .i64 (1 + m3))).alloc (.cells #[.string ⟨#[]⟩, .string ⟨#[97]⟩, .string ⟨#[98]⟩] 9) = w3 at es HX3 HR5 HK5 ⊢
  generalize w1.heap.size = bs at es ⊢
  have c17 : w3.cell? ⟨bx, 17, none⟩ = some (.string ⟨#[]⟩) := HX3.out.cell 17
  have f17 : w3.frozen? ⟨bx, 17, none⟩ = false := HX3.out.free 17
  have HX4 := hide (show Bk (w3.setCell ⟨bx, 17, none⟩ (.string sx)) bx 27 (ec ⟨m0, m1, m2, 1 + m3, 0, 0, 0, 0, 0, 0, 0, 0, 0, 0, 0, 0, 0, sx⟩).toArray from HX3.out.set 17 _)
  have HR6 := hide (HR5.out.far (p := ⟨bx, 17, none⟩) hn1 (.string sx))
  have HK6 := hide (HK5.out.setCell (p := ⟨bx, 17, none⟩) (.inr HGW.out) (.string sx))
  clear HX3 HR5 HK5
  go_wp2_with (with_reducible refine Halt.load (t := 27) ?_)
  refine Halt.on ?_
  clear c17 f17 es
  generalize w3.setCell ⟨bx, 17, none⟩ (.string sx) = w4 at HX4 HR6 HK6 ⊢
  refine wpList_load_ev rfl _ rfl bx 0 ⟨m0, m1, m2, 1 + m3, 0, 0, 0, 0, 0, 0, 0, 0, 0, 0, 0, 0, 0, sx⟩ rfl (EvAt.box HX4.out) ?_
  go_wp2_with (with_reducible refine Halt.store (t := 27) ?_)
  refine Halt.on ?_
  refine wpList_store_ev rfl _ _ rfl br ⟨m0, m1, m2, 1 + m3, 0, 0, 0, 0, 0, 0, 0, 0, 0, 0, 0, 0, 0, sx⟩ rfl rfl 27 _ HR6.out rfl ?_
  have HR7 := hide (row_bk HR6.out (ec ⟨m0, m1, m2, 1 + m3, 0, 0, 0, 0, 0, 0, 0, 0, 0, 0, 0, 0, 0, sx⟩).toArray)
  have HK7 := hide (HK6.out.setRow (g := br) (.inr HNW.out) (ec ⟨m0, m1, m2, 1 + m3, 0, 0, 0, 0, 0, 0, 0, 0, 0, 0, 0, 0, 0, sx⟩).toArray)
  generalize w4.setRow br (ec ⟨m0, m1, m2, 1 + m3, 0, 0, 0, 0, 0, 0, 0, 0, 0, 0, 0, 0, 0, sx⟩).toArray = w5 at HR7 HK7 ⊢
  go_wp2_with fail
  refine bodyPost_ret (v := ev ⟨m0, m1, m2, 1 + m3, 0, 0, 0, 0, 0, 0, 0, 0, 0, 0, 0, 0, 0, sx⟩) ?_ rfl ⟨⟨m0, m1, m2, 1 + m3, 0, 0, 0, 0, 0, 0, 0, 0, 0, 0, 0, 0, 0, sx⟩, rfl, h00, h01, HK7.out⟩
  exact results_cell_ev rfl _ w5 br _ rfl (EvAt.box HR7.out)
end Go.Proofs.Ytcfglfnncpcfoaa

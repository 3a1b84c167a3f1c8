/- desk.do. -/
import Derived.Test.YtcfglfnncpcfoaaDuo
import Derived.Test.YtcfglfnncpcfoaaSame
import Derived.Test.YtcfglfnncpcfoaaOpen
namespace Go.Proofs.Ytcfglfnncpcfoaa
open Go.RowKit
def Dux (w0 w : World) (g h : Nat) (B : List Bx) : Prop := ∃ S M, Duo w0 w g h S M B
theorem Dux.bk {w0 w : World} {g h : Nat} {B : List Bx} (d : Dux w0 w g h B) {b : Bx} (hb : b ∈ B) : Bk w b.1 b.2.1 b.2.2 := by
  obtain ⟨S, M, d⟩ := d
  exact d.bk hb
theorem Duv.dux {w0 w : World} {g h : Nat} {S M : Lg} {B : List Bx} {v : Value} {L : List Ev} (d : Duv w0 w g h S M B v L) : Dux w0 w g h B := by
  obtain ⟨F, G, h1, h2, h3, h4, h5, h6, hB, _⟩ := d
  exact ⟨S, M, F, G, h1, h2, h3, h4, h5, h6, hB⟩
theorem sub1 {x : Bx} {B : List Bx} : ∀ b, b ∈ B → b ∈ x :: B := fun _ h => List.mem_cons_of_mem _ h
theorem sub2 {x y : Bx} {B : List Bx} : ∀ b, b ∈ B → b ∈ x :: y :: B := fun _ h => List.mem_cons_of_mem _ (List.mem_cons_of_mem _ h)
theorem sub3 {x y z : Bx} {B : List Bx} : ∀ b, b ∈ x :: z :: B → b ∈ x :: y :: z :: B := fun b h => by
  rcases List.mem_cons.1 h with rfl | h
  · simp
  · exact List.mem_cons_of_mem _ (List.mem_cons_of_mem _ h)
theorem agg44 (w : World) : (isAgg 44).run Try.prog w = .ok false w := by kernel_rfl
theorem agg46 (w : World) : (isAgg 46).run Try.prog w = .ok false w := by kernel_rfl
theorem agg51 (w : World) : (isAgg 51).run Try.prog w = .ok true w := by kernel_rfl
theorem size51 : (Try.prog.info? 51).map (·.size) = some 4 := by kernel_rfl
def qv (a b c d : Int) : Value := .agg #[.int .i64 a, .int .i64 b, .int .i64 c, .int .i64 d]
def QAt (w : World) (g o : Nat) (a b c d : Int) : Prop := w.cell? ⟨g, o, none⟩ = some (.int .i64 a) ∧ w.cell? ⟨g, o + 1, none⟩ = some (.int .i64 b) ∧ w.cell? ⟨g, o + 2, none⟩ = some (.int .i64 c) ∧ w.cell? ⟨g, o + 3, none⟩ = some (.int .i64 d)
theorem run_load_q {w : World} {g o : Nat} {a b c d : Int} (h : QAt w g o a b c d) : (loadVar 51 ⟨g, o, none⟩).run Try.prog w = .ok (qv a b c d) w := by
  have hl : (loadCells ⟨g, o, none⟩ 4).run Try.prog w = .ok #[.int .i64 a, .int .i64 b, .int .i64 c, .int .i64 d] w :=
    run_loadCells_list (P := Try.prog) w ⟨g, o, none⟩ [.int .i64 a, .int .i64 b, .int .i64 c, .int .i64 d] (fun j v hv => by
      rw [Addr.add_lit]
      match j, hv with
      | 0, hv => simp at hv; subst hv; exact h.1
      | 1, hv => simp at hv; subst hv; exact h.2.1
      | 2, hv => simp at hv; subst hv; exact h.2.2.1
      | 3, hv => simp at hv; subst hv; exact h.2.2.2
      | j + 4, hv => simp at hv)
  have hagg := agg51
  have hi := size51
  cases hq : Try.prog.info? 51 with
  | none => simp [hq] at hi
  | some i =>
    have hs : i.size = 4 := by simpa [hq] using hi
    simp [loadVar, Sem.run_bind, hagg, sizeOf, typeInfo, hq, hs, hl, qv]
theorem wpList_load_q {ops : Array Oper} {rest : List Oper} {o : Oper} {a : Act} {w : World} {Q : Exit → Act → World → Prop} (hgd : o.guard = none) (x : Operand) (ho : o.op = .load 51 x) (b f : Nat) (q0 q1 q2 q3 : Int) (hx : a.eval x = .pointer (some ⟨b, f, none⟩)) (h : QAt w b f q0 q1 q2 q3)
    (hk : wpList Try.prog ops Q rest (a.put o.dst (qv q0 q1 q2 q3)) w) : wpList Try.prog ops Q (o :: rest) a w :=
  wpList_plain hgd fun _ hK => by
    unfold Oper.wp execOp
    simp only [ho, hx, Instr.loadAt, Instr.sureAddr, Sem.run_bind, Sem.run_pure, Result.andThen_ok, run_load_q h]
    exact hK _ _ hk
set_option maxHeartbeats 4000000 in
set_option maxRecDepth 100000 in
theorem do_any (w0 w : World) (g h : Nat) (S : Lg) (B : List Bx) (hd : Duo w0 w g h S S B) (kd tm q0 q1 q2 q3 : Int) (bk : -9223372036854775808 ≤ kd ∧ kd ≤ 9223372036854775807) (bt : -9223372036854775808 ≤ tm ∧ tm ≤ 9223372036854775807)
    (b0 : -9223372036854775808 ≤ q0 ∧ q0 ≤ 9223372036854775807) (b1 : -9223372036854775808 ≤ q1 ∧ q1 ≤ 9223372036854775807) (b2 : -9223372036854775808 ≤ q2 ∧ q2 ≤ 9223372036854775807) (b3 : -9223372036854775808 ≤ q3 ∧ q3 ≤ 9223372036854775807) :
    Calls Try.prog 23 #[.agg #[.pointer (some ⟨g, 0, none⟩), .pointer (some ⟨h, 0, none⟩)], .agg #[.int .i64 kd, .int .i64 tm, .int .i64 q0, .int .i64 q1, .int .i64 q2, .int .i64 q3]] w fun r w' => r = .returned (.bool true) ∧ ∃ S', Duo w0 w' g h S' S' B := by
  have HQ := hide (And.intro bk (And.intro bt (And.intro b0 (And.intro b1 (And.intro b2 b3)))))
  clear bk bt b0 b1 b2 b3
  have hd2 := (hd.box 49 #[.pointer (some ⟨g, 0, none⟩), .pointer (some ⟨h, 0, none⟩)]).box 53 #[.int .i64 kd, .int .i64 tm, .int .i64 q0, .int .i64 q1, .int .i64 q2, .int .i64 q3]
  clear hd
  have hsz : (w.alloc (.cells #[.pointer (some ⟨g, 0, none⟩), .pointer (some ⟨h, 0, none⟩)] 49)).heap.size = w.heap.size + 1 := by simp
  rw [hsz] at hd2
  clear hsz
  have HD := hide hd2
  clear hd2
  go_enter Try.func23, Try.ntmps23
  go_wp2_with (with_reducible refine Halt.load (t := 3) ?_)
  refine Halt.on ?_
  change wpList _ _ _ _ _ ((w.alloc (.cells #[.pointer (some ⟨g, 0, none⟩), .pointer (some ⟨h, 0, none⟩)] 49)).alloc (.cells #[.int .i64 kd, .int .i64 tm, .int .i64 q0, .int .i64 q1, .int .i64 q2, .int .i64 q3] 53))
  generalize (w.alloc (.cells #[.pointer (some ⟨g, 0, none⟩), .pointer (some ⟨h, 0, none⟩)] 49)).alloc (.cells #[.int .i64 kd, .int .i64 tm, .int .i64 q0, .int .i64 q1, .int .i64 q2, .int .i64 q3] 53) = w1 at HD ⊢
  have hba : w.heap.size ≠ w.heap.size + 1 := by omega
  generalize w.heap.size + 1 = ba at HD hba ⊢
  generalize w.heap.size = bd at HD hba ⊢
  obtain ⟨mk, hmk⟩ : ∃ m, kd % 7 = m := ⟨_, rfl⟩
  obtain ⟨mt, hmt⟩ : ∃ m, tm % 4 = m := ⟨_, rfl⟩
  obtain ⟨ms, hms⟩ : ∃ m, tm % 9 = m := ⟨_, rfl⟩
  have hm0 : 0 ≤ mk ∧ 0 ≤ mt ∧ mt < 4 ∧ 0 ≤ ms ∧ ms < 9 := by omega
  have HM := hide (And.intro hmk (And.intro hmt hms))
  clear hmk hmt hms
  have HA := hide (show Bk w1 ba 53 #[.int .i64 kd, .int .i64 tm, .int .i64 q0, .int .i64 q1, .int .i64 q2, .int .i64 q3] from HD.out.bk (b := (ba, 53, #[.int .i64 kd, .int .i64 tm, .int .i64 q0, .int .i64 q1, .int .i64 q2, .int .i64 q3])) (by simp))
  have c0 : w1.cell? ⟨ba, 0, none⟩ = some (.int .i64 kd) := HA.out.cell 0
  have c1 : w1.cell? ⟨ba, 1, none⟩ = some (.int .i64 tm) := HA.out.cell 1
  go_wp2_with fail
  refine (mod_any kd 7 _ HQ.out.1.1 HQ.out.1.2 (by omega) (by omega)).mono ?_
  rintro r w' ⟨rfl, rfl⟩
  rw [HM.out.1]
  have HMS := hide hm0
  clear hm0
  by_cases hlt : mk < 6
  · have hdl : decide (mk < 6) = true := by simp [hlt]
    go_wp2_with (with_reducible refine Halt.load (t := 51) ?_)
    refine Halt.on ?_
    refine wpList_load_q rfl _ rfl ba 2 q0 q1 q2 q3 rfl ⟨HA.out.cell 2, HA.out.cell 3, HA.out.cell 4, HA.out.cell 5⟩ ?_
    clear c0 c1 hdl hlt
    go_wp2_with fail
    refine (made_any q0 q1 q2 q3 w1 HQ.out.2.2.1 HQ.out.2.2.2.1 HQ.out.2.2.2.2.1 HQ.out.2.2.2.2.2).mono ?_
    rintro r w2 ⟨x, rfl, ht0, ht5, kx⟩
    have HD3 := hide (HD.out.keep kx)
    clear HD HA kx
    go_wp2_with (with_reducible refine Halt.store (t := 27) ?_)
    refine Halt.on ?_
    change wpList _ _ _ _ _ (w2.alloc (.cells (ec z0).toArray 27))
    refine wpList_store_ev rfl _ _ rfl w2.heap.size x rfl rfl 27 _ (Bk.new w2 27 _) rfl ?_
    simp only [Act.put]
    have hne : ∀ b : Bx, b ∈ ((ba, 53, #[.int .i64 kd, .int .i64 tm, .int .i64 q0, .int .i64 q1, .int .i64 q2, .int .i64 q3]) :: (bd, 49, #[.pointer (some ⟨g, 0, none⟩), .pointer (some ⟨h, 0, none⟩)]) :: B : List Bx) → b.1 ≠ w2.heap.size := fun b hb => by
      have := (HD3.out.bk hb).lt
      omega
    have HD4 := hide ((HD3.out.box 27 (ec z0).toArray).put hne ((Keeps.refl [w2.heap.size] _).setRow (g := w2.heap.size) (.inl (by simp)) (ec x).toArray) (row_bk (Bk.new w2 27 (ec z0).toArray) (ec x).toArray))
    clear HD3
    generalize (w2.alloc (.cells (ec z0).toArray 27)).setRow w2.heap.size (ec x).toArray = w3 at HD4 ⊢
    generalize w2.heap.size = bx at HD4 hne ⊢
    have HNE := hide hne
    clear hne
    obtain ⟨x2, hx2⟩ : ∃ x2 : Ev, x2 = { x with t := x.t + mt - 1 } := ⟨_, rfl⟩
    have ht2 : x2.t = x.t + mt - 1 := by rw [hx2]
    have hb2 : -1 ≤ x2.t ∧ x2.t ≤ 7 := by have := HMS.out; omega
    have HX2 := hide hx2
    have HB2 := hide hb2
    have v1 : IntKind.i64.wrap (x.t + mt) = x.t + mt := IntWalk.i64_in _ (by have := HMS.out; omega)
    have v2 : IntKind.i64.wrap (x.t + mt - 1) = x.t + mt - 1 := IntWalk.i64_in _ (by have := HMS.out; omega)
    clear hx2 ht2 hb2 ht0 ht5
    go_wp2_with fail
    go_cut [] (fun wx => Hid (Duo w0 wx g h S S ((bx, 27, (ec x2).toArray) :: (bd, 49, #[.pointer (some ⟨g, 0, none⟩), .pointer (some ⟨h, 0, none⟩)]) :: B)))
    case first =>
      refine wp_region_any (by kernel_rfl) ?_
      change wpAny _ _ _ _ _ _ _ (World.drew _)
      have HD5 := hide (HD4.out.keep (Keeps.refl [] w3).drew)
      clear HD4
      generalize w3.drew = w4 at HD5 ⊢
      have HA := hide (show Bk w4 ba 53 #[.int .i64 kd, .int .i64 tm, .int .i64 q0, .int .i64 q1, .int .i64 q2, .int .i64 q3] from HD5.out.bk (b := (ba, 53, #[.int .i64 kd, .int .i64 tm, .int .i64 q0, .int .i64 q1, .int .i64 q2, .int .i64 q3])) (by simp))
      have HX := hide (show Bk w4 bx 27 (ec x).toArray from HD5.out.bk (b := (bx, 27, (ec x).toArray)) (by simp))
      refine wpAny_take (i := 0) (oi := { dst := some 14, op := _, type := _, pos := _, after := _, guard := _ }) (v := ?_) rfl (by kernel_rfl) (by kernel_rfl) (by kernel_rfl) (fun _ _ _ h => h) (Or.inl ⟨by rfl, ?_⟩) ?_
      rotate_left
      · (intro w'; go_simp; try with_reducible rfl)
      simp only [Act.put, List.setIfInBounds_toArray, List.set_cons_zero, List.set_cons_succ]
      refine wpAny_take (i := 1) (oi := { dst := some 15, op := _, type := _, pos := _, after := _, guard := _ }) (v := ?_) rfl (by kernel_rfl) (by kernel_rfl) (by kernel_rfl) (fun _ _ _ h => h) (Or.inl ⟨by rfl, ?_⟩) ?_
      rotate_left
      · (intro w'; go_simp; try with_reducible rfl)
      simp only [Act.put, List.setIfInBounds_toArray, List.set_cons_zero, List.set_cons_succ]
      refine wpAny_take (i := 3) (oi := { dst := some 17, op := _, type := _, pos := _, after := _, guard := _ }) (v := ?_) rfl (by kernel_rfl) (by kernel_rfl) (by kernel_rfl) (fun _ _ _ h => h) (Or.inl ⟨by rfl, ?_⟩) ?_
      rotate_left
      · (intro w'; go_simp; try with_reducible rfl)
      simp only [Act.put, List.setIfInBounds_toArray, List.set_cons_zero, List.set_cons_succ]
      refine wpAny_ready (rs := [2, 4]) (by kernel_rfl) (by simp) ?_
      refine AllReady.cons (o := { dst := some 16, op := _, type := _, pos := _, after := _, guard := _ }) rfl (fun K hK => ?_) (AllReady.cons (o := { dst := some 18, op := _, type := _, pos := _, after := _, guard := _ }) rfl (fun K hK => ?_) AllReady.nil)
      · refine step_load_cell (v := .int .i64 x.t) 3 _ bx 0 rfl Try.isAgg3 (by rfl) (by rfl) (HX.out.cell 0) ?_
        refine hK _ _ ?_
        clear hK K
        try simp only [Act.put, List.setIfInBounds_toArray, List.set_cons_zero, List.set_cons_succ]
        refine wpAny_ready (rs := [4]) (by kernel_rfl) (by simp) ?_
        refine AllReady.cons (o := { dst := some 18, op := _, type := _, pos := _, after := _, guard := _ }) rfl (fun K hK => ?_) AllReady.nil
        refine step_load_cell (v := .int .i64 tm) 3 _ ba 1 rfl Try.isAgg3 (by rfl) (by rfl) (HA.out.cell 1) ?_
        refine hK _ _ ?_
        clear hK K
        try simp only [Act.put, List.setIfInBounds_toArray, List.set_cons_zero, List.set_cons_succ]
        refine wpAny_ready (rs := [5]) (by kernel_rfl) (by simp) ?_
        refine AllReady.cons (o := { dst := some 19, op := _, type := _, pos := _, after := _, guard := _ }) rfl (fun K hK => ?_) AllReady.nil
        go_simp
        refine (mod_any tm 4 _ HQ.out.2.1.1 HQ.out.2.1.2 (by omega) (by omega)).mono ?_
        rintro r5 w5 ⟨rfl, rfl⟩
        rw [HM.out.2.1]
        refine hK _ _ ?_
        clear hK K
        try simp only [Act.put, List.setIfInBounds_toArray, List.set_cons_zero, List.set_cons_succ]
        have cx : w4.cell? ⟨bx, 0, none⟩ = some (.int .i64 x.t) := HX.out.cell 0
        have fx : w4.frozen? ⟨bx, 0, none⟩ = false := HX.out.free 0
        refine wpAny_take (i := 6) (oi := { dst := some 20, op := _, type := _, pos := _, after := _, guard := _ }) (v := ?_) rfl (by kernel_rfl) (by kernel_rfl) (by kernel_rfl) (fun _ _ _ h => h) (Or.inl ⟨by rfl, ?_⟩) ?_
        rotate_left
        · (intro w'; go_simp; try with_reducible rfl)
        simp only [Act.put, List.setIfInBounds_toArray, List.set_cons_zero, List.set_cons_succ]
        refine wpAny_take (i := 7) (oi := { dst := some 21, op := _, type := _, pos := _, after := _, guard := _ }) (v := ?_) rfl (by kernel_rfl) (by kernel_rfl) (by kernel_rfl) (fun _ _ _ h => h) (Or.inl ⟨by rfl, ?_⟩) ?_
        rotate_left
        · (intro w'; go_simp; try with_reducible rfl)
        simp only [Act.put, List.setIfInBounds_toArray, List.set_cons_zero, List.set_cons_succ]
        refine wpAny_take (i := 8) (oi := { dst := some 22, op := _, type := _, pos := _, after := _, guard := _ }) (v := ?_) rfl (by kernel_rfl) (by kernel_rfl) (by kernel_rfl) (fun _ _ _ h => h) (Or.inl ⟨by rfl, ?_⟩) ?_
        rotate_left
        · (intro w'; go_simp; try with_reducible rfl)
        simp only [Act.put, List.setIfInBounds_toArray, List.set_cons_zero, List.set_cons_succ]
        refine wpAny_take (i := 9) (oi := { dst := some 23, op := _, type := _, pos := _, after := _, guard := _ }) (v := ?_) rfl (by kernel_rfl) (by kernel_rfl) (by kernel_rfl) (fun _ _ _ h => h) (Or.inl ⟨by rfl, ?_⟩) ?_
        rotate_left
        · (intro w'; go_simp; try with_reducible rfl)
        simp only [Act.put, List.setIfInBounds_toArray, List.set_cons_zero, List.set_cons_succ]
        refine wpAny_ready (rs := [10]) (by kernel_rfl) (by simp) ?_
        refine AllReady.cons (o := { dst := none, op := _, type := _, pos := _, after := _, guard := _ }) rfl (fun K hK => ?_) AllReady.nil
        go_simp
        refine hK _ _ ?_
        clear hK K
        refine wpAny_done (by kernel_rfl) ?_ _
        have HD6 := hide (HD5.out.put HNE.out (cs' := (ec x2).toArray) ((Keeps.refl [bx] w4).setCell (p := ⟨bx, 0, none⟩) (.inl (by simp)) (.int .i64 (x.t + mt - 1))) (by rw [HX2.out]; exact HX.out.set 0 _))
        go_wp2_with fail
        go_meet
        exact hide (HD6.out.less sub3)
      · refine step_load_cell (v := .int .i64 tm) 3 _ ba 1 rfl Try.isAgg3 (by rfl) (by rfl) (HA.out.cell 1) ?_
        refine hK _ _ ?_
        clear hK K
        try simp only [Act.put, List.setIfInBounds_toArray, List.set_cons_zero, List.set_cons_succ]
        refine wpAny_ready (rs := [2, 5]) (by kernel_rfl) (by simp) ?_
        refine AllReady.cons (o := { dst := some 16, op := _, type := _, pos := _, after := _, guard := _ }) rfl (fun K hK => ?_) (AllReady.cons (o := { dst := some 19, op := _, type := _, pos := _, after := _, guard := _ }) rfl (fun K hK => ?_) AllReady.nil)
        · refine step_load_cell (v := .int .i64 x.t) 3 _ bx 0 rfl Try.isAgg3 (by rfl) (by rfl) (HX.out.cell 0) ?_
          refine hK _ _ ?_
          clear hK K
          try simp only [Act.put, List.setIfInBounds_toArray, List.set_cons_zero, List.set_cons_succ]
          refine wpAny_ready (rs := [5]) (by kernel_rfl) (by simp) ?_
          refine AllReady.cons (o := { dst := some 19, op := _, type := _, pos := _, after := _, guard := _ }) rfl (fun K hK => ?_) AllReady.nil
          go_simp
          refine (mod_any tm 4 _ HQ.out.2.1.1 HQ.out.2.1.2 (by omega) (by omega)).mono ?_
          rintro r5 w5 ⟨rfl, rfl⟩
          rw [HM.out.2.1]
          refine hK _ _ ?_
          clear hK K
          try simp only [Act.put, List.setIfInBounds_toArray, List.set_cons_zero, List.set_cons_succ]
          have cx : w4.cell? ⟨bx, 0, none⟩ = some (.int .i64 x.t) := HX.out.cell 0
          have fx : w4.frozen? ⟨bx, 0, none⟩ = false := HX.out.free 0
          refine wpAny_take (i := 6) (oi := { dst := some 20, op := _, type := _, pos := _, after := _, guard := _ }) (v := ?_) rfl (by kernel_rfl) (by kernel_rfl) (by kernel_rfl) (fun _ _ _ h => h) (Or.inl ⟨by rfl, ?_⟩) ?_
          rotate_left
          · (intro w'; go_simp; try with_reducible rfl)
          simp only [Act.put, List.setIfInBounds_toArray, List.set_cons_zero, List.set_cons_succ]
          refine wpAny_take (i := 7) (oi := { dst := some 21, op := _, type := _, pos := _, after := _, guard := _ }) (v := ?_) rfl (by kernel_rfl) (by kernel_rfl) (by kernel_rfl) (fun _ _ _ h => h) (Or.inl ⟨by rfl, ?_⟩) ?_
          rotate_left
          · (intro w'; go_simp; try with_reducible rfl)
          simp only [Act.put, List.setIfInBounds_toArray, List.set_cons_zero, List.set_cons_succ]
          refine wpAny_take (i := 8) (oi := { dst := some 22, op := _, type := _, pos := _, after := _, guard := _ }) (v := ?_) rfl (by kernel_rfl) (by kernel_rfl) (by kernel_rfl) (fun _ _ _ h => h) (Or.inl ⟨by rfl, ?_⟩) ?_
          rotate_left
          · (intro w'; go_simp; try with_reducible rfl)
          simp only [Act.put, List.setIfInBounds_toArray, List.set_cons_zero, List.set_cons_succ]
          refine wpAny_take (i := 9) (oi := { dst := some 23, op := _, type := _, pos := _, after := _, guard := _ }) (v := ?_) rfl (by kernel_rfl) (by kernel_rfl) (by kernel_rfl) (fun _ _ _ h => h) (Or.inl ⟨by rfl, ?_⟩) ?_
          rotate_left
          · (intro w'; go_simp; try with_reducible rfl)
          simp only [Act.put, List.setIfInBounds_toArray, List.set_cons_zero, List.set_cons_succ]
          refine wpAny_ready (rs := [10]) (by kernel_rfl) (by simp) ?_
          refine AllReady.cons (o := { dst := none, op := _, type := _, pos := _, after := _, guard := _ }) rfl (fun K hK => ?_) AllReady.nil
          go_simp
          refine hK _ _ ?_
          clear hK K
          refine wpAny_done (by kernel_rfl) ?_ _
          have HD6 := hide (HD5.out.put HNE.out (cs' := (ec x2).toArray) ((Keeps.refl [bx] w4).setCell (p := ⟨bx, 0, none⟩) (.inl (by simp)) (.int .i64 (x.t + mt - 1))) (by rw [HX2.out]; exact HX.out.set 0 _))
          go_wp2_with fail
          go_meet
          exact hide (HD6.out.less sub3)
        · go_simp
          refine (mod_any tm 4 _ HQ.out.2.1.1 HQ.out.2.1.2 (by omega) (by omega)).mono ?_
          rintro r5 w5 ⟨rfl, rfl⟩
          rw [HM.out.2.1]
          refine hK _ _ ?_
          clear hK K
          try simp only [Act.put, List.setIfInBounds_toArray, List.set_cons_zero, List.set_cons_succ]
          refine wpAny_ready (rs := [2]) (by kernel_rfl) (by simp) ?_
          refine AllReady.cons (o := { dst := some 16, op := _, type := _, pos := _, after := _, guard := _ }) rfl (fun K hK => ?_) AllReady.nil
          refine step_load_cell (v := .int .i64 x.t) 3 _ bx 0 rfl Try.isAgg3 (by rfl) (by rfl) (HX.out.cell 0) ?_
          refine hK _ _ ?_
          clear hK K
          try simp only [Act.put, List.setIfInBounds_toArray, List.set_cons_zero, List.set_cons_succ]
          have cx : w4.cell? ⟨bx, 0, none⟩ = some (.int .i64 x.t) := HX.out.cell 0
          have fx : w4.frozen? ⟨bx, 0, none⟩ = false := HX.out.free 0
          refine wpAny_take (i := 6) (oi := { dst := some 20, op := _, type := _, pos := _, after := _, guard := _ }) (v := ?_) rfl (by kernel_rfl) (by kernel_rfl) (by kernel_rfl) (fun _ _ _ h => h) (Or.inl ⟨by rfl, ?_⟩) ?_
          rotate_left
          · (intro w'; go_simp; try with_reducible rfl)
          simp only [Act.put, List.setIfInBounds_toArray, List.set_cons_zero, List.set_cons_succ]
          refine wpAny_take (i := 7) (oi := { dst := some 21, op := _, type := _, pos := _, after := _, guard := _ }) (v := ?_) rfl (by kernel_rfl) (by kernel_rfl) (by kernel_rfl) (fun _ _ _ h => h) (Or.inl ⟨by rfl, ?_⟩) ?_
          rotate_left
          · (intro w'; go_simp; try with_reducible rfl)
          simp only [Act.put, List.setIfInBounds_toArray, List.set_cons_zero, List.set_cons_succ]
          refine wpAny_take (i := 8) (oi := { dst := some 22, op := _, type := _, pos := _, after := _, guard := _ }) (v := ?_) rfl (by kernel_rfl) (by kernel_rfl) (by kernel_rfl) (fun _ _ _ h => h) (Or.inl ⟨by rfl, ?_⟩) ?_
          rotate_left
          · (intro w'; go_simp; try with_reducible rfl)
          simp only [Act.put, List.setIfInBounds_toArray, List.set_cons_zero, List.set_cons_succ]
          refine wpAny_take (i := 9) (oi := { dst := some 23, op := _, type := _, pos := _, after := _, guard := _ }) (v := ?_) rfl (by kernel_rfl) (by kernel_rfl) (by kernel_rfl) (fun _ _ _ h => h) (Or.inl ⟨by rfl, ?_⟩) ?_
          rotate_left
          · (intro w'; go_simp; try with_reducible rfl)
          simp only [Act.put, List.setIfInBounds_toArray, List.set_cons_zero, List.set_cons_succ]
          refine wpAny_ready (rs := [10]) (by kernel_rfl) (by simp) ?_
          refine AllReady.cons (o := { dst := none, op := _, type := _, pos := _, after := _, guard := _ }) rfl (fun K hK => ?_) AllReady.nil
          go_simp
          refine hK _ _ ?_
          clear hK K
          refine wpAny_done (by kernel_rfl) ?_ _
          have HD6 := hide (HD5.out.put HNE.out (cs' := (ec x2).toArray) ((Keeps.refl [bx] w4).setCell (p := ⟨bx, 0, none⟩) (.inl (by simp)) (.int .i64 (x.t + mt - 1))) (by rw [HX2.out]; exact HX.out.set 0 _))
          go_wp2_with fail
          go_meet
          exact hide (HD6.out.less sub3)
    case rest =>
      obtain ⟨w5, rfl⟩ : ∃ w5 : World, w5 = wc := ⟨_, rfl⟩
      have HC := hide (hcut.out.keep (Keeps.refl [] w5).drew)
      clear hcut HD4 HNE HX2 v1 v2
      obtain ⟨n, hn⟩ : ∃ n, takeE S x2 = n := ⟨_, rfl⟩
      have HN := hide hn
      clear hn
      have HS := hide (show Dux w0 w5.drew g h ((bx, 27, (ec x2).toArray) :: (bd, 49, #[.pointer (some ⟨g, 0, none⟩), .pointer (some ⟨h, 0, none⟩)]) :: B) from ⟨_, _, HC.out⟩)
      go_wp2_with fail
      refine wp_region_held_drew (S := (fun w' => Hid (Dux w0 w' g h ((bx, 27, (ec x2).toArray) :: (bd, 49, #[.pointer (some ⟨g, 0, none⟩), .pointer (some ⟨h, 0, none⟩)]) :: B)))) (by kernel_rfl) HS (fun hS => ?_)
      refine wpAnyH_take (i := 0) (oi := { dst := some 24, op := _, type := _, pos := _, after := _, guard := _ }) (v := ?_) rfl (by kernel_rfl) (by kernel_rfl) (by kernel_rfl) (fun _ _ _ h => h) (Or.inl ⟨by rfl, ?_⟩) hS ?_
      rotate_left
      · (intro w' hSw; go_simp; try with_reducible rfl)
      simp only [Act.put, List.setIfInBounds_toArray, List.set_cons_zero, List.set_cons_succ]
      refine wpAnyH_take (i := 1) (oi := { dst := some 25, op := _, type := _, pos := _, after := _, guard := _ }) rfl (by kernel_rfl) (by kernel_rfl) (by kernel_rfl) (fun _ _ _ h => h) (yl_cell 44 _ bd 0 rfl agg44 (by rfl) (by rfl) (fun w hw => (show Bk w bd 49 #[.pointer (some ⟨g, 0, none⟩), .pointer (some ⟨h, 0, none⟩)] from hw.out.bk (b := (bd, 49, #[.pointer (some ⟨g, 0, none⟩), .pointer (some ⟨h, 0, none⟩)])) (by simp)).cell 0)) hS ?_
      simp only [Act.put, List.setIfInBounds_toArray, List.set_cons_zero, List.set_cons_succ]
      refine wpAnyH_take (i := 2) (oi := { dst := some 26, op := _, type := _, pos := _, after := _, guard := _ }) rfl (by kernel_rfl) (by kernel_rfl) (by kernel_rfl) (fun _ _ _ h => h) (yl_ev _ bx 0 x2 rfl (by rfl) (by rfl) (fun w hw => EvAt.box (show Bk w bx 27 (ec x2).toArray from hw.out.bk (b := (bx, 27, (ec x2).toArray)) (by simp)))) hS ?_
      simp only [Act.put, List.setIfInBounds_toArray, List.set_cons_zero, List.set_cons_succ]
      refine wpAnyH_take (i := 4) (oi := { dst := some 28, op := _, type := _, pos := _, after := _, guard := _ }) (v := ?_) rfl (by kernel_rfl) (by kernel_rfl) (by kernel_rfl) (fun _ _ _ h => h) (Or.inl ⟨by rfl, ?_⟩) hS ?_
      rotate_left
      · (intro w' hSw; go_simp; try with_reducible rfl)
      simp only [Act.put, List.setIfInBounds_toArray, List.set_cons_zero, List.set_cons_succ]
      refine wpAnyH_take (i := 5) (oi := { dst := some 29, op := _, type := _, pos := _, after := _, guard := _ }) rfl (by kernel_rfl) (by kernel_rfl) (by kernel_rfl) (fun _ _ _ h => h) (yl_cell 46 _ bd 1 rfl agg46 (by rfl) (by rfl) (fun w hw => (show Bk w bd 49 #[.pointer (some ⟨g, 0, none⟩), .pointer (some ⟨h, 0, none⟩)] from hw.out.bk (b := (bd, 49, #[.pointer (some ⟨g, 0, none⟩), .pointer (some ⟨h, 0, none⟩)])) (by simp)).cell 1)) hS ?_
      simp only [Act.put, List.setIfInBounds_toArray, List.set_cons_zero, List.set_cons_succ]
      refine wpAnyH_take (i := 6) (oi := { dst := some 30, op := _, type := _, pos := _, after := _, guard := _ }) rfl (by kernel_rfl) (by kernel_rfl) (by kernel_rfl) (fun _ _ _ h => h) (yl_ev _ bx 0 x2 rfl (by rfl) (by rfl) (fun w hw => EvAt.box (show Bk w bx 27 (ec x2).toArray from hw.out.bk (b := (bx, 27, (ec x2).toArray)) (by simp)))) hS ?_
      simp only [Act.put, List.setIfInBounds_toArray, List.set_cons_zero, List.set_cons_succ]
      refine wpAnyH_ready (rs := [3]) (by kernel_rfl) (by simp) ?_
      refine AllReadyH.cons (o := { dst := some 27, op := _, type := _, pos := _, after := _, guard := _ }) rfl (fun K hK => ?_) AllReadyH.nil
      go_simp
      refine (HC.out.take x2 (by have := HB2.out; omega) (by have := HB2.out; omega)).mono ?_
      rintro r6 w6 ⟨rfl, h6⟩
      have H6 := hide h6
      clear h6
      rw [HN.out]
      refine hK.out _ _ (hide ⟨_, _, H6.out⟩) (fun hS => ?_)
      clear hK K
      refine wpAnyH_ready (rs := [7]) (by kernel_rfl) (by simp) ?_
      refine AllReadyH.cons (o := { dst := some 31, op := _, type := _, pos := _, after := _, guard := _ }) rfl (fun K hK => ?_) AllReadyH.nil
      go_simp
      refine (H6.out.rtake x2 (by have := HB2.out; omega) (by have := HB2.out; omega)).mono ?_
      rintro r7 w7 ⟨rfl, h7⟩
      have H7 := hide h7
      clear h7
      rw [HN.out]
      refine hK.out _ _ (hide ⟨_, _, H7.out⟩) (fun hS => ?_)
      clear hK K
      refine wpAnyH_take (i := 8) (oi := { dst := some 32, op := _, type := _, pos := _, after := _, guard := _ }) (v := ?_) rfl (by kernel_rfl) (by kernel_rfl) (by kernel_rfl) (fun _ _ _ h => h) (Or.inl ⟨by rfl, ?_⟩) hS ?_
      rotate_left
      · (intro w' hSw; go_simp; try with_reducible rfl)
      simp only [Act.put, List.setIfInBounds_toArray, List.set_cons_zero, List.set_cons_succ]
      refine wpAnyH_take (i := 9) (oi := { dst := some 4, op := _, type := _, pos := _, after := _, guard := _ }) (v := ?_) rfl (by kernel_rfl) (by kernel_rfl) (by kernel_rfl) (fun _ _ _ h => h) (Or.inl ⟨by rfl, ?_⟩) hS ?_
      rotate_left
      · (intro w' hSw; go_simp; try with_reducible rfl)
      simp only [Act.put, List.setIfInBounds_toArray, List.set_cons_zero, List.set_cons_succ]
      refine wpAnyH_done (by kernel_rfl) ?_ _
      go_wp2
      go_ret
      exact ⟨rfl, _, H7.out.less sub2⟩
  · have hdl : decide (mk < 6) = false := by simp [hlt]
    clear hlt
    have v1 : IntKind.i64.wrap (ms - 2) = ms - 2 := IntWalk.i64_in _ (by have := HMS.out; omega)
    go_wp2_with fail
    refine (mod_any tm 9 _ HQ.out.2.1.1 HQ.out.2.1.2 (by omega) (by omega)).mono ?_
    rintro r w' ⟨rfl, rfl⟩
    rw [HM.out.2.2]
    clear c0 c1
    go_wp2_with fail
    have HC := hide ((HD.out.less (C := ((bd, 49, #[.pointer (some ⟨g, 0, none⟩), .pointer (some ⟨h, 0, none⟩)]) :: B)) sub1).keep (Keeps.refl [] w1).drew)
    have HS := hide (show Dux w0 w1.drew g h ((bd, 49, #[.pointer (some ⟨g, 0, none⟩), .pointer (some ⟨h, 0, none⟩)]) :: B) from ⟨_, _, HC.out⟩)
    clear HD HA v1
    have hz1 : -9223372036854775808 ≤ ms - 2 := by have := HMS.out; omega
    have hz2 : ms - 2 ≤ 9223372036854775807 := by have := HMS.out; omega
    have HZ := hide (And.intro hz1 hz2)
    clear hz1 hz2
    generalize ms - 2 = z at HZ ⊢
    have hlR := settleR_len S HC.out.ok z
    have HLR := hide hlR
    clear hlR
    obtain ⟨o9, ho9⟩ : ∃ o, ((settleS S z).op : Int) - 1 = o := ⟨_, rfl⟩
    have HO := hide ho9
    clear ho9
    refine wp_region_held_drew (S := (fun w' => Hid (Dux w0 w' g h ((bd, 49, #[.pointer (some ⟨g, 0, none⟩), .pointer (some ⟨h, 0, none⟩)]) :: B)))) (by kernel_rfl) HS (fun hS => ?_)
    refine wpAnyH_take (i := 0) (oi := { dst := some 37, op := _, type := _, pos := _, after := _, guard := _ }) (v := ?_) rfl (by kernel_rfl) (by kernel_rfl) (by kernel_rfl) (fun _ _ _ h => h) (Or.inl ⟨by rfl, ?_⟩) hS ?_
    rotate_left
    · (intro w' hSw; go_simp; try with_reducible rfl)
    simp only [Act.put, List.setIfInBounds_toArray, List.set_cons_zero, List.set_cons_succ]
    refine wpAnyH_take (i := 1) (oi := { dst := some 38, op := _, type := _, pos := _, after := _, guard := _ }) rfl (by kernel_rfl) (by kernel_rfl) (by kernel_rfl) (fun _ _ _ h => h) (yl_cell 44 _ bd 0 rfl agg44 (by rfl) (by rfl) (fun w hw => (show Bk w bd 49 #[.pointer (some ⟨g, 0, none⟩), .pointer (some ⟨h, 0, none⟩)] from hw.out.bk (b := (bd, 49, #[.pointer (some ⟨g, 0, none⟩), .pointer (some ⟨h, 0, none⟩)])) (by simp)).cell 0)) hS ?_
    simp only [Act.put, List.setIfInBounds_toArray, List.set_cons_zero, List.set_cons_succ]
    refine wpAnyH_take (i := 2) (oi := { dst := some 39, op := _, type := _, pos := _, after := _, guard := _ }) (v := ?_) rfl (by kernel_rfl) (by kernel_rfl) (by kernel_rfl) (fun _ _ _ h => h) (Or.inl ⟨by rfl, ?_⟩) hS ?_
    rotate_left
    · (intro w' hSw; go_simp; try with_reducible rfl)
    simp only [Act.put, List.setIfInBounds_toArray, List.set_cons_zero, List.set_cons_succ]
    refine wpAnyH_take (i := 4) (oi := { dst := some 41, op := _, type := _, pos := _, after := _, guard := _ }) (v := ?_) rfl (by kernel_rfl) (by kernel_rfl) (by kernel_rfl) (fun _ _ _ h => h) (Or.inl ⟨by rfl, ?_⟩) hS ?_
    rotate_left
    · (intro w' hSw; go_simp; try with_reducible rfl)
    simp only [Act.put, List.setIfInBounds_toArray, List.set_cons_zero, List.set_cons_succ]
    refine wpAnyH_take (i := 5) (oi := { dst := some 42, op := _, type := _, pos := _, after := _, guard := _ }) rfl (by kernel_rfl) (by kernel_rfl) (by kernel_rfl) (fun _ _ _ h => h) (yl_cell 46 _ bd 1 rfl agg46 (by rfl) (by rfl) (fun w hw => (show Bk w bd 49 #[.pointer (some ⟨g, 0, none⟩), .pointer (some ⟨h, 0, none⟩)] from hw.out.bk (b := (bd, 49, #[.pointer (some ⟨g, 0, none⟩), .pointer (some ⟨h, 0, none⟩)])) (by simp)).cell 1)) hS ?_
    simp only [Act.put, List.setIfInBounds_toArray, List.set_cons_zero, List.set_cons_succ]
    refine wpAnyH_take (i := 6) (oi := { dst := some 43, op := _, type := _, pos := _, after := _, guard := _ }) (v := ?_) rfl (by kernel_rfl) (by kernel_rfl) (by kernel_rfl) (fun _ _ _ h => h) (Or.inl ⟨by rfl, ?_⟩) hS ?_
    rotate_left
    · (intro w' hSw; go_simp; try with_reducible rfl)
    simp only [Act.put, List.setIfInBounds_toArray, List.set_cons_zero, List.set_cons_succ]
    refine wpAnyH_ready (rs := [3]) (by kernel_rfl) (by simp) ?_
    refine AllReadyH.cons (o := { dst := some 40, op := _, type := _, pos := _, after := _, guard := _ }) rfl (fun K hK => ?_) AllReadyH.nil
    go_simp
    refine (HC.out.settle z HZ.out.1 HZ.out.2).mono ?_
    rintro r6 w6 ⟨v6, rfl, h6⟩
    obtain ⟨A6, c6, rfl⟩ : ∃ A c, v6 = .slice A (settleR S z).length c := by
      obtain ⟨_, _, _, _, _, _, _, _, _, e, _⟩ := h6
      exact Own.slice e
    have H6 := hide h6
    clear h6
    refine hK.out _ _ (hide H6.out.dux) (fun hS => ?_)
    clear hK K
    refine wpAnyH_ready (rs := [7]) (by kernel_rfl) (by simp) ?_
    refine AllReadyH.cons (o := { dst := some 44, op := _, type := _, pos := _, after := _, guard := _ }) rfl (fun K hK => ?_) AllReadyH.nil
    go_simp
    refine (H6.out.rsettle z HZ.out.1 HZ.out.2).mono ?_
    rintro r7 w7 ⟨v7, rfl, h7, e7, f7⟩
    obtain ⟨A7, c7, rfl⟩ := Own.slice f7
    have H7 := hide h7
    have HEF := hide (And.intro e7 f7)
    clear h7 e7 f7
    refine hK.out _ _ (hide ⟨_, _, H7.out⟩) (fun hS => ?_)
    clear hK K
    refine wpAnyH_ready (rs := [8]) (by kernel_rfl) (by simp) ?_
    refine AllReadyH.cons (o := { dst := some 45, op := _, type := _, pos := _, after := _, guard := _ }) rfl (fun K hK => ?_) AllReadyH.nil
    go_simp
    refine (same_any A6 A7 c6 c7 (settleR S z) (settleR S z) _ HLR.out HLR.out (Own.src HEF.out.1) (Own.src HEF.out.2)).mono ?_
    rintro r8 w8 ⟨hr, k8⟩
    rw [decide_eq_true rfl] at hr
    subst hr
    have H8 := hide (H7.out.keep k8)
    clear k8
    refine hK.out _ _ (hide ⟨_, _, H8.out⟩) (fun hS => ?_)
    clear hK K
    refine wpAnyH_take (i := 9) (oi := { dst := some 46, op := _, type := _, pos := _, after := _, guard := _ }) (v := ?_) rfl (by kernel_rfl) (by kernel_rfl) (by kernel_rfl) (fun _ _ _ h => h) (Or.inl ⟨by rfl, ?_⟩) hS ?_
    rotate_left
    · (intro w' hSw; go_simp; try with_reducible rfl)
    simp only [Act.put, List.setIfInBounds_toArray, List.set_cons_zero, List.set_cons_succ]
    refine wpAnyH_take (i := 10) (oi := { dst := some 47, op := _, type := _, pos := _, after := _, guard := _ }) (v := ?_) rfl (by kernel_rfl) (by kernel_rfl) (by kernel_rfl) (fun _ _ _ h => h) (Or.inl ⟨by rfl, ?_⟩) hS ?_
    rotate_left
    · (intro w' hSw; go_simp; try with_reducible rfl)
    simp only [Act.put, List.setIfInBounds_toArray, List.set_cons_zero, List.set_cons_succ]
    refine wpAnyH_take (i := 11) (oi := { dst := some 48, op := _, type := _, pos := _, after := _, guard := _ }) rfl (by kernel_rfl) (by kernel_rfl) (by kernel_rfl) (fun _ _ _ h => h) (yl_cell 44 _ bd 0 rfl agg44 (by rfl) (by rfl) (fun w hw => (show Bk w bd 49 #[.pointer (some ⟨g, 0, none⟩), .pointer (some ⟨h, 0, none⟩)] from hw.out.bk (b := (bd, 49, #[.pointer (some ⟨g, 0, none⟩), .pointer (some ⟨h, 0, none⟩)])) (by simp)).cell 0)) hS ?_
    simp only [Act.put, List.setIfInBounds_toArray, List.set_cons_zero, List.set_cons_succ]
    refine wpAnyH_take (i := 13) (oi := { dst := some 50, op := _, type := _, pos := _, after := _, guard := _ }) (v := ?_) rfl (by kernel_rfl) (by kernel_rfl) (by kernel_rfl) (fun _ _ _ h => h) (Or.inl ⟨by rfl, ?_⟩) hS ?_
    rotate_left
    · (intro w' hSw; go_simp; try with_reducible rfl)
    simp only [Act.put, List.setIfInBounds_toArray, List.set_cons_zero, List.set_cons_succ]
    refine wpAnyH_take (i := 14) (oi := { dst := some 51, op := _, type := _, pos := _, after := _, guard := _ }) rfl (by kernel_rfl) (by kernel_rfl) (by kernel_rfl) (fun _ _ _ h => h) (yl_cell 46 _ bd 1 rfl agg46 (by rfl) (by rfl) (fun w hw => (show Bk w bd 49 #[.pointer (some ⟨g, 0, none⟩), .pointer (some ⟨h, 0, none⟩)] from hw.out.bk (b := (bd, 49, #[.pointer (some ⟨g, 0, none⟩), .pointer (some ⟨h, 0, none⟩)])) (by simp)).cell 1)) hS ?_
    simp only [Act.put, List.setIfInBounds_toArray, List.set_cons_zero, List.set_cons_succ]
    refine wpAnyH_ready (rs := [12]) (by kernel_rfl) (by simp) ?_
    refine AllReadyH.cons (o := { dst := some 49, op := _, type := _, pos := _, after := _, guard := _ }) rfl (fun K hK => ?_) AllReadyH.nil
    go_simp
    refine H8.out.settled.mono ?_
    rintro r9 w9 ⟨rfl, rfl⟩
    rw [HO.out]
    refine hK.out _ _ hS (fun hS => ?_)
    clear hK K
    refine wpAnyH_ready (rs := [15]) (by kernel_rfl) (by simp) ?_
    refine AllReadyH.cons (o := { dst := some 52, op := _, type := _, pos := _, after := _, guard := _ }) rfl (fun K hK => ?_) AllReadyH.nil
    go_simp
    refine H8.out.rsettled.mono ?_
    rintro r9 w9 ⟨rfl, rfl⟩
    rw [HO.out]
    refine hK.out _ _ hS (fun hS => ?_)
    clear hK K
    refine wpAnyH_take (i := 16) (oi := { dst := some 53, op := _, type := _, pos := _, after := _, guard := _ }) (v := ?_) rfl (by kernel_rfl) (by kernel_rfl) (by kernel_rfl) (fun _ _ _ h => h) (Or.inl ⟨by rfl, ?_⟩) hS ?_
    rotate_left
    · (intro w' hSw; go_simp; try with_reducible rfl)
    simp only [Act.put, List.setIfInBounds_toArray, List.set_cons_zero, List.set_cons_succ]
    refine wpAnyH_take (i := 17) (oi := { dst := some 54, op := _, type := _, pos := _, after := _, guard := _ }) (v := ?_) rfl (by kernel_rfl) (by kernel_rfl) (by kernel_rfl) (fun _ _ _ h => h) (Or.inl ⟨by rfl, ?_⟩) hS ?_
    rotate_left
    · (intro w' hSw; go_simp; try with_reducible rfl)
    simp only [Act.put, List.setIfInBounds_toArray, List.set_cons_zero, List.set_cons_succ]
    refine wpAnyH_take (i := 18) (oi := { dst := some 4, op := _, type := _, pos := _, after := _, guard := _ }) (v := ?_) rfl (by kernel_rfl) (by kernel_rfl) (by kernel_rfl) (fun _ _ _ h => h) (Or.inl ⟨by rfl, ?_⟩) hS ?_
    rotate_left
    · (intro w' hSw; go_simp; try with_reducible rfl)
    simp only [Act.put, List.setIfInBounds_toArray, List.set_cons_zero, List.set_cons_succ]
    refine wpAnyH_done (by kernel_rfl) ?_ _
    go_wp2
    go_ret
    exact ⟨rfl, _, H8.out.less sub1⟩
end Go.Proofs.Ytcfglfnncpcfoaa

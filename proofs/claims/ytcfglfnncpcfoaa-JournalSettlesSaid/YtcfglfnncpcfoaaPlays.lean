/- The walk of JournalPlays. -/
import Derived.Test.YtcfglfnncpcfoaaDo
namespace Go.Proofs.Ytcfglfnncpcfoaa
open Go.RowKit
theorem acs_at : ∀ (l : List ActD) (k : Nat) (hk : k < l.length) (i : Nat) (v : Value), (l[k].cells)[i]? = some v → (acs l)[k * 6 + i]? = some v
  | [], k, hk, _, _, _ => absurd hk (Nat.not_lt_zero k)
  | a :: l, 0, _, i, v, h => by
    have hi : i < 6 := (List.getElem?_eq_some_iff.1 h).1
    show (a.cells ++ acs l)[0 * 6 + i]? = _
    rw [Nat.zero_mul, Nat.zero_add, List.getElem?_append_left (by exact hi)]
    exact h
  | a :: l, k + 1, hk, i, v, h => by
    show (a.cells ++ acs l)[(k + 1) * 6 + i]? = _
    have e : (k + 1) * 6 + i = a.cells.length + (k * 6 + i) := by show _ = 6 + _; omega
    rw [e, List.getElem?_append_right (Nat.le_add_right _ _), Nat.add_sub_cancel_left]
    exact acs_at l k (Nat.lt_of_succ_lt_succ hk) i v h
/-- An act in memory. -/
def ActAt (w : World) (b o : Nat) (a : ActD) : Prop := ∀ i v, a.cells[i]? = some v → w.cell? ⟨b, o + i, none⟩ = some v
theorem ActAt.keep {w w' : World} {b o : Nat} {a : ActD} (h : ActAt w b o a) (k : Keeps [] w w') : ActAt w' b o a := fun i v hi => k.cell (h i v hi)
theorem actAt_of {w : World} {b o : Nat} {l : List ActD} (hcell : ∀ j u, (acs l)[j]? = some u → w.cell? ⟨b, o + j, none⟩ = some u) (k : Nat) (hk : k < l.length) : ActAt w b (o + k * 6) l[k] := fun i v hi => by
  have := hcell _ _ (acs_at l k hk i v hi)
  rw [← Nat.add_assoc] at this
  exact this
theorem run_load_list {w : World} {t : TypeId} {b o : Nat} {cs : List Value} (hagg : (isAgg t).run Try.prog w = .ok true w) (hi : (Try.prog.info? t).map (·.size) = some cs.length) (h : ∀ i v, cs[i]? = some v → w.cell? ⟨b, o + i, none⟩ = some v) :
    (loadVar t ⟨b, o, none⟩).run Try.prog w = .ok (.agg cs.toArray) w := by
  have hl : (loadCells ⟨b, o, none⟩ cs.length).run Try.prog w = .ok cs.toArray w :=
    run_loadCells_list (P := Try.prog) w ⟨b, o, none⟩ cs (fun j v hv => by
      rw [Addr.add_lit]
      exact h j v hv)
  cases hq : Try.prog.info? t with
  | none => simp [hq] at hi
  | some i =>
    have hs : i.size = cs.length := by simpa [hq] using hi
    simp [loadVar, Sem.run_bind, hagg, sizeOf, typeInfo, hq, hs, hl]
theorem yl_list {ops : Array Oper} {S : World → Prop} {o : Oper} {a : Act} (t : TypeId) (p : Operand) (b f : Nat) (cs : List Value) (ho : o.op = .load t p) (hagg : ∀ w, (isAgg t).run Try.prog w = .ok true w) (hi : (Try.prog.info? t).map (·.size) = some cs.length) (hw : Region.wanted o (yielded ops a.tmps) = true) (hx : a.eval p = .pointer (some ⟨b, f, none⟩))
    (h : ∀ w, S w → ∀ i v, cs[i]? = some v → w.cell? ⟨b, f + i, none⟩ = some v) : YieldsIf Try.prog ops S o (.agg cs.toArray) a :=
  .inl ⟨hw, fun w hS => by
    unfold execOp
    simp only [ho, hx, Instr.loadAt, Instr.sureAddr, Sem.run_bind, Sem.run_pure, Result.andThen_ok, run_load_list (hagg w) hi (h w hS)]⟩
theorem agg49 (w : World) : (isAgg 49).run Try.prog w = .ok true w := by kernel_rfl
theorem agg53 (w : World) : (isAgg 53).run Try.prog w = .ok true w := by kernel_rfl
theorem size49 : (Try.prog.info? 49).map (·.size) = some 2 := by kernel_rfl
theorem sizeOf49 (w : World) : (sizeOf 49).run Try.prog w = .ok 2 w := by kernel_rfl
theorem size53 : (Try.prog.info? 53).map (·.size) = some 6 := by kernel_rfl
theorem yl_desk {ops : Array Oper} {S : World → Prop} {o : Oper} {a : Act} (p : Operand) (b g h : Nat) (ho : o.op = .load 49 p) (hw : Region.wanted o (yielded ops a.tmps) = true) (hx : a.eval p = .pointer (some ⟨b, 0, none⟩))
    (hb : ∀ w, S w → Bk w b 49 #[.pointer (some ⟨g, 0, none⟩), .pointer (some ⟨h, 0, none⟩)]) : YieldsIf Try.prog ops S o (.agg #[.pointer (some ⟨g, 0, none⟩), .pointer (some ⟨h, 0, none⟩)]) a :=
  yl_list 49 p b 0 [.pointer (some ⟨g, 0, none⟩), .pointer (some ⟨h, 0, none⟩)] ho agg49 size49 hw hx fun w hS i v hi => by
    rw [Nat.zero_add, (hb w hS).cell i]
    simpa using hi
theorem yl_act {ops : Array Oper} {S : World → Prop} {o : Oper} {a : Act} (p : Operand) (b f : Nat) (x : ActD) (ho : o.op = .load 53 p) (hw : Region.wanted o (yielded ops a.tmps) = true) (hx : a.eval p = .pointer (some ⟨b, f, none⟩)) (hb : ∀ w, S w → ActAt w b f x) :
    YieldsIf Try.prog ops S o (.agg #[.int .i64 x.kind, .int .i64 x.time, .int .i64 x.q0, .int .i64 x.q1, .int .i64 x.q2, .int .i64 x.q3]) a :=
  yl_list 53 p b f x.cells ho agg53 size53 hw hx fun w hS => hb w hS
theorem wpList_store_list {w : World} {ops : Array Oper} {rest : List Oper} {o : Oper} {a : Act} {Q : Exit → Act → World → Prop} (hgd : o.guard = none) (tt : TypeId) (p y : Operand) (ho : o.op = .store tt p y) (g : Nat) (vs : List Value) (ho1 : ∀ v ∈ vs, v.oneCell' = true) (hp : a.eval p = .pointer (some ⟨g, 0, none⟩)) (hy : a.eval y = .agg vs.toArray) (t : TypeId) (cur : Array Value) (hg : Bk w g t cur) (hs : cur.size = vs.length) (hz : ∀ w, (sizeOf tt).run Try.prog w = .ok vs.length w)
    (h : wpList Try.prog ops Q rest (a.put o.dst undef) (w.setRow g vs.toArray)) : wpList Try.prog ops Q (o :: rest) a w := by
  have hst := run_storeCells_at Try.prog g 0 t vs 0 cur w hg (by rw [hs]; omega) ho1
  rw [Nat.add_zero, List.take_zero, List.nil_append, Nat.zero_add, List.drop_eq_nil_of_le (by rw [Array.length_toList, hs]; exact Nat.le_refl _), List.append_nil] at hst
  refine wpList_plain hgd fun _ hK => ?_
  unfold Oper.wp execOp
  have hc : (Value.agg vs.toArray).cells = vs.toArray := rfl
  simp [ho, hp, hy, Instr.storeAt, Instr.sureAddr, storeVar, hc, hz, hst]
  exact hK _ _ h
theorem Dux.keeps {w0 w : World} {g h : Nat} {B : List Bx} (d : Dux w0 w g h B) : Keeps [] w0 w := by
  obtain ⟨S, M, d⟩ := d
  exact d.keeps
theorem Dux.keep {w0 w w' : World} {g h : Nat} {B : List Bx} (d : Dux w0 w g h B) (k : Keeps [] w w') : Dux w0 w' g h B := by
  obtain ⟨S, M, d⟩ := d
  exact ⟨S, M, d.keep k⟩
theorem Duo.news {w w1 w2 : World} {g h : Nat} (h1 : IsLg 66 w1 g [g] Lg.new) (k1 : Keeps [] w w1) (hg : w.heap.size ≤ g) (h2 : IsLg 84 w2 h [h] Lg.new) (k2 : Keeps [] w1 w2) (hh : w1.heap.size ≤ h) : Duo w w2 g h Lg.new Lg.new [] := by
  refine ⟨[g], [h], h1.keep0 k2, h2, fun i hi hm => ?_, fun i hi => .inr (by simp at hi; omega), fun i hi => .inr (by simp at hi; have := k1.size; omega), k1.trans' k2, fun b hb => by cases hb⟩
  simp at hi hm
  have := h1.all g (by simp)
  omega
theorem Duo.events {w0 w : World} {g h : Nat} {S M : Lg} {B : List Bx} (d : Duo w0 w g h S M B) : Calls Try.prog 25 #[.pointer (some ⟨g, 0, none⟩)] w fun r w' => ∃ v, r = .returned v ∧ EO w' v S.L ∧ Keeps [] w w' := by
  obtain ⟨F, G, h1, _⟩ := d
  exact (events_any g F S w h1).mono fun r w' ⟨v, a, b, c, d⟩ => ⟨v, a, b, d⟩
theorem Duo.revents {w0 w : World} {g h : Nat} {S M : Lg} {B : List Bx} (d : Duo w0 w g h S M B) : Calls Try.prog 26 #[.pointer (some ⟨h, 0, none⟩)] w fun r w' => ∃ v, r = .returned v ∧ EO w' v M.L ∧ Keeps [] w w' := by
  obtain ⟨F, G, _, h2, _⟩ := d
  exact (revents_any h G M w h2).mono fun r w' ⟨v, a, b, c, d⟩ => ⟨v, a, b, d⟩
set_option maxHeartbeats 4000000 in
set_option maxRecDepth 100000 in
theorem plays_walk (A : Option Addr) (c : Nat) (l : List ActD) (w : World) (H : CameA w A c l) : Calls Try.prog 5 #[.slice A l.length c] w fun r w' => r = .returned (.bool true) ∧ Keeps [] w w' := by
  have hs := H.s
  have HOK := hide H.ok
  have hlc := H.le
  have hcm := H.cm
  clear H
  have HSZ := hide (And.intro hlc hcm)
  clear hlc hcm
  go_enter Try.func5, Try.ntmps5
  go_wp2_with fail
  refine (sanity_any w).mono ?_
  rintro r w1 ⟨rfl, k1⟩
  have HK := hide k1
  clear k1
  go_wp2_with fail
  refine (new_any w1).mono ?_
  rintro r w2 ⟨rfl, g1, k1⟩
  go_wp2_with fail
  refine (rnew_any w2).mono ?_
  rintro r w3 ⟨rfl, g2, k2⟩
  have HD := hide (Duo.news g1 k1 (Nat.le_refl _) g2 k2 (Nat.le_refl _))
  clear g1 k1 g2 k2
  generalize w1.heap.size = g at HD ⊢
  generalize w2.heap.size = h at HD ⊢
  go_wp2_with (with_reducible refine Halt.store (t := 49) ?_)
  refine Halt.on ?_
  refine wpList_store_list rfl 49 _ _ rfl w3.heap.size [.pointer (some ⟨g, 0, none⟩), .pointer (some ⟨h, 0, none⟩)] (by simp [Value.oneCell']) rfl rfl 49 #[.pointer none, .pointer none] (Bk.new w3 49 _) rfl sizeOf49 ?_
  simp only [Act.put]
  have HD2 := hide ((HD.out.box 49 #[.pointer none, .pointer none]).put (cs' := #[.pointer (some ⟨g, 0, none⟩), .pointer (some ⟨h, 0, none⟩)]) (fun b hb => by cases hb) ((Keeps.refl [w3.heap.size] _).setRow (g := w3.heap.size) (.inl (by simp)) #[.pointer (some ⟨g, 0, none⟩), .pointer (some ⟨h, 0, none⟩)]) (row_bk (Bk.new w3 49 #[.pointer none, .pointer none]) #[.pointer (some ⟨g, 0, none⟩), .pointer (some ⟨h, 0, none⟩)]))
  clear HD
  change wpList _ _ _ _ _ ((w3.alloc (.cells #[.pointer none, .pointer none] 49)).setRow w3.heap.size #[.pointer (some ⟨g, 0, none⟩), .pointer (some ⟨h, 0, none⟩)])
  generalize (w3.alloc (.cells #[.pointer none, .pointer none] 49)).setRow w3.heap.size #[.pointer (some ⟨g, 0, none⟩), .pointer (some ⟨h, 0, none⟩)] = w4 at HD2 ⊢
  generalize w3.heap.size = bd at HD2 ⊢
  have c0 : w4.cell? ⟨bd, 0, none⟩ = some (.pointer (some ⟨g, 0, none⟩)) := (show Bk w4 bd 49 #[.pointer (some ⟨g, 0, none⟩), .pointer (some ⟨h, 0, none⟩)] from HD2.out.bk (b := (bd, 49, #[.pointer (some ⟨g, 0, none⟩), .pointer (some ⟨h, 0, none⟩)])) (by simp)).cell 0
  go_wp2
  clear c0
  go_loopw [5] (fun s5 wr => ∃ k : Nat, k ≤ 80 ∧ s5 = .int .i64 k ∧ Hid (∃ S, Duo w1 wr g h S S [(bd, 49, #[.pointer (some ⟨g, 0, none⟩), .pointer (some ⟨h, 0, none⟩)])])) (fun s5 _ => 80 - (intOf s5).toNat)
  case atStart => exact ⟨0, by omega, rfl, hide ⟨_, HD2.out⟩⟩
  case round =>
    obtain ⟨k, hk, rfl, HS⟩ := hrel
    have hk0 : (0 : Int) ≤ (k : Int) := by omega
    obtain ⟨S, hS⟩ := HS.out
    have HD := hide hS
    clear hS HS HD2
    by_cases hlt : k < l.length
    · have hltz : (k : Int) < (l.length : Int) := by omega
      by_cases h80 : k < 80
      · have h80z : (k : Int) < 80 := by omega
        have hcn := HSZ.out
        obtain ⟨b, o, rfl, hcell⟩ := (Src.keep hs HK.out (by simp)).headN (by omega) (by omega)
        have HX := hide (actAt_of hcell k hlt)
        have hxo := HOK.out (l[k]) (List.getElem_mem hlt)
        generalize l[k] = x at HX hxo
        have HXO := hide hxo
        clear hxo hcell hcn
        go_wp2_with fail
        have HC := hide (HD.out.keep (Keeps.refl [] wr).drew)
        have HS := hide (show Dux w1 wr.drew g h [(bd, 49, #[.pointer (some ⟨g, 0, none⟩), .pointer (some ⟨h, 0, none⟩)])] from ⟨_, _, HC.out⟩)
        clear HD
        refine wp_region_held_drew (S := (fun w' => Hid (Dux w1 w' g h [(bd, 49, #[.pointer (some ⟨g, 0, none⟩), .pointer (some ⟨h, 0, none⟩)])]))) (by kernel_rfl) HS (fun hS => ?_)
        refine wpAnyH_take (i := 0) (oi := { dst := some 24, op := _, type := _, pos := _, after := _, guard := _ }) rfl (by kernel_rfl) (by kernel_rfl) (by kernel_rfl) (fun _ _ _ h => h) (yl_desk _ bd g h rfl (by rfl) (by rfl) (fun w hw => (show Bk w bd 49 #[.pointer (some ⟨g, 0, none⟩), .pointer (some ⟨h, 0, none⟩)] from hw.out.bk (b := (bd, 49, #[.pointer (some ⟨g, 0, none⟩), .pointer (some ⟨h, 0, none⟩)])) (by simp)))) hS ?_
        simp only [Act.put, List.setIfInBounds_toArray, List.set_cons_zero, List.set_cons_succ]
        refine wpAnyH_take (i := 1) (oi := { dst := some 25, op := _, type := _, pos := _, after := _, guard := _ }) (v := ?_) rfl (by kernel_rfl) (by kernel_rfl) (by kernel_rfl) (fun _ _ _ h => h) (Or.inl ⟨by rfl, ?_⟩) hS ?_
        rotate_left
        · (intro w' hSw; go_simp; try with_reducible rfl)
        simp only [Act.put, List.setIfInBounds_toArray, List.set_cons_zero, List.set_cons_succ]
        refine wpAnyH_take (i := 2) (oi := { dst := some 26, op := _, type := _, pos := _, after := _, guard := _ }) (v := ?_) rfl (by kernel_rfl) (by kernel_rfl) (by kernel_rfl) (fun _ _ _ h => h) (Or.inl ⟨by rfl, ?_⟩) hS ?_
        rotate_left
        · (intro w' hSw; go_simp; try with_reducible rfl)
        simp only [Act.put, List.setIfInBounds_toArray, List.set_cons_zero, List.set_cons_succ]
        refine wpAnyH_take (i := 3) (oi := { dst := some 27, op := _, type := _, pos := _, after := _, guard := _ }) (v := ?_) rfl (by kernel_rfl) (by kernel_rfl) (by kernel_rfl) (fun _ _ _ h => h) (Or.inl ⟨by rfl, ?_⟩) hS ?_
        rotate_left
        · (intro w' hSw; go_simp; try with_reducible rfl)
        simp only [Act.put, List.setIfInBounds_toArray, List.set_cons_zero, List.set_cons_succ]
        refine wpAnyH_take (i := 4) (oi := { dst := some 28, op := _, type := _, pos := _, after := _, guard := _ }) rfl (by kernel_rfl) (by kernel_rfl) (by kernel_rfl) (fun _ _ _ h => h) (yl_act _ b (o + k * 6) x rfl (by rfl) (by rfl) (fun w hw => HX.out.keep hw.out.keeps)) hS ?_
        simp only [Act.put, List.setIfInBounds_toArray, List.set_cons_zero, List.set_cons_succ]
        refine wpAnyH_ready (rs := [5]) (by kernel_rfl) (by simp) ?_
        refine AllReadyH.cons (o := { dst := some 29, op := _, type := _, pos := _, after := _, guard := _ }) rfl (fun K hK => ?_) AllReadyH.nil
        go_simp
        refine (do_any w1 _ g h S _ HC.out x.kind x.time x.q0 x.q1 x.q2 x.q3 HXO.out.k HXO.out.t HXO.out.q0 HXO.out.q1 HXO.out.q2 HXO.out.q3).mono ?_
        rintro r6 w6 ⟨rfl, S', h6⟩
        have H6 := hide h6
        clear h6
        refine hK.out _ _ (hide ⟨_, _, H6.out⟩) (fun hS => ?_)
        clear hK K
        refine wpAnyH_take (i := 6) (oi := { dst := some 6, op := _, type := _, pos := _, after := _, guard := _ }) (v := ?_) rfl (by kernel_rfl) (by kernel_rfl) (by kernel_rfl) (fun _ _ _ h => h) (Or.inl ⟨by rfl, ?_⟩) hS ?_
        rotate_left
        · (intro w' hSw; go_simp; try with_reducible rfl)
        simp only [Act.put, List.setIfInBounds_toArray, List.set_cons_zero, List.set_cons_succ]
        refine wpAnyH_done (by kernel_rfl) ?_ _
        clear HS hS HX HXO HC
        go_wp2_with fail
        have H7 := hide (H6.out.keep (Keeps.refl [] w6).drew)
        have HS := hide (show Dux w1 w6.drew g h [(bd, 49, #[.pointer (some ⟨g, 0, none⟩), .pointer (some ⟨h, 0, none⟩)])] from ⟨_, _, H7.out⟩)
        have hlS := H7.out.ok.len
        have HLS := hide (show S'.L.length ≤ 100000 by omega)
        clear hlS H6
        refine wp_region_held_drew (S := (fun w' => Hid (Dux w1 w' g h [(bd, 49, #[.pointer (some ⟨g, 0, none⟩), .pointer (some ⟨h, 0, none⟩)])]))) (by kernel_rfl) HS (fun hS => ?_)
        refine wpAnyH_take (i := 0) (oi := { dst := some 30, op := _, type := _, pos := _, after := _, guard := _ }) (v := ?_) rfl (by kernel_rfl) (by kernel_rfl) (by kernel_rfl) (fun _ _ _ h => h) (Or.inl ⟨by rfl, ?_⟩) hS ?_
        rotate_left
        · (intro w' hSw; go_simp; try with_reducible rfl)
        simp only [Act.put, List.setIfInBounds_toArray, List.set_cons_zero, List.set_cons_succ]
        refine wpAnyH_take (i := 1) (oi := { dst := some 31, op := _, type := _, pos := _, after := _, guard := _ }) (v := ?_) rfl (by kernel_rfl) (by kernel_rfl) (by kernel_rfl) (fun _ _ _ h => h) (Or.inl ⟨by rfl, ?_⟩) hS ?_
        rotate_left
        · (intro w' hSw; go_simp; try with_reducible rfl)
        simp only [Act.put, List.setIfInBounds_toArray, List.set_cons_zero, List.set_cons_succ]
        refine wpAnyH_take (i := 2) (oi := { dst := some 32, op := _, type := _, pos := _, after := _, guard := _ }) (v := ?_) rfl (by kernel_rfl) (by kernel_rfl) (by kernel_rfl) (fun _ _ _ h => h) (Or.inl ⟨by rfl, ?_⟩) hS ?_
        rotate_left
        · (intro w' hSw; go_simp; try with_reducible rfl)
        simp only [Act.put, List.setIfInBounds_toArray, List.set_cons_zero, List.set_cons_succ]
        refine wpAnyH_take (i := 3) (oi := { dst := some 33, op := _, type := _, pos := _, after := _, guard := _ }) (v := ?_) rfl (by kernel_rfl) (by kernel_rfl) (by kernel_rfl) (fun _ _ _ h => h) (Or.inl ⟨by rfl, ?_⟩) hS ?_
        rotate_left
        · (intro w' hSw; go_simp; try with_reducible rfl)
        simp only [Act.put, List.setIfInBounds_toArray, List.set_cons_zero, List.set_cons_succ]
        refine wpAnyH_take (i := 4) (oi := { dst := some 34, op := _, type := _, pos := _, after := _, guard := _ }) rfl (by kernel_rfl) (by kernel_rfl) (by kernel_rfl) (fun _ _ _ h => h) (yl_cell 44 _ bd 0 rfl agg44 (by rfl) (by rfl) (fun w hw => (show Bk w bd 49 #[.pointer (some ⟨g, 0, none⟩), .pointer (some ⟨h, 0, none⟩)] from hw.out.bk (b := (bd, 49, #[.pointer (some ⟨g, 0, none⟩), .pointer (some ⟨h, 0, none⟩)])) (by simp)).cell 0)) hS ?_
        simp only [Act.put, List.setIfInBounds_toArray, List.set_cons_zero, List.set_cons_succ]
        refine wpAnyH_take (i := 6) (oi := { dst := some 36, op := _, type := _, pos := _, after := _, guard := _ }) (v := ?_) rfl (by kernel_rfl) (by kernel_rfl) (by kernel_rfl) (fun _ _ _ h => h) (Or.inl ⟨by rfl, ?_⟩) hS ?_
        rotate_left
        · (intro w' hSw; go_simp; try with_reducible rfl)
        simp only [Act.put, List.setIfInBounds_toArray, List.set_cons_zero, List.set_cons_succ]
        refine wpAnyH_take (i := 7) (oi := { dst := some 37, op := _, type := _, pos := _, after := _, guard := _ }) rfl (by kernel_rfl) (by kernel_rfl) (by kernel_rfl) (fun _ _ _ h => h) (yl_cell 46 _ bd 1 rfl agg46 (by rfl) (by rfl) (fun w hw => (show Bk w bd 49 #[.pointer (some ⟨g, 0, none⟩), .pointer (some ⟨h, 0, none⟩)] from hw.out.bk (b := (bd, 49, #[.pointer (some ⟨g, 0, none⟩), .pointer (some ⟨h, 0, none⟩)])) (by simp)).cell 1)) hS ?_
        simp only [Act.put, List.setIfInBounds_toArray, List.set_cons_zero, List.set_cons_succ]
        refine wpAnyH_ready (rs := [5]) (by kernel_rfl) (by simp) ?_
        refine AllReadyH.cons (o := { dst := some 35, op := _, type := _, pos := _, after := _, guard := _ }) rfl (fun K hK => ?_) AllReadyH.nil
        go_simp
        refine H7.out.events.mono ?_
        rintro r7 w7 ⟨v7, rfl, e7, k7⟩
        obtain ⟨A7, c7, rfl⟩ := Own.slice e7
        have E7 := hide e7
        have H8 := hide (H7.out.keep k7)
        clear e7 k7
        refine hK.out _ _ (hide ⟨_, _, H8.out⟩) (fun hS => ?_)
        clear hK K
        refine wpAnyH_ready (rs := [8]) (by kernel_rfl) (by simp) ?_
        refine AllReadyH.cons (o := { dst := some 38, op := _, type := _, pos := _, after := _, guard := _ }) rfl (fun K hK => ?_) AllReadyH.nil
        go_simp
        refine H8.out.revents.mono ?_
        rintro r8 w8 ⟨v8, rfl, e8, k8⟩
        obtain ⟨A8, c8, rfl⟩ := Own.slice e8
        have HEF := hide (And.intro (Own.keep E7.out k8 (by simp)) e8)
        have H9 := hide (H8.out.keep k8)
        clear e8 k8
        refine hK.out _ _ (hide ⟨_, _, H9.out⟩) (fun hS => ?_)
        clear hK K
        refine wpAnyH_ready (rs := [9]) (by kernel_rfl) (by simp) ?_
        refine AllReadyH.cons (o := { dst := some 39, op := _, type := _, pos := _, after := _, guard := _ }) rfl (fun K hK => ?_) AllReadyH.nil
        go_simp
        refine (same_any A7 A8 c7 c8 S'.L S'.L _ HLS.out HLS.out (Own.src HEF.out.1) (Own.src HEF.out.2)).mono ?_
        rintro r9 w9 ⟨hr, k9⟩
        rw [decide_eq_true rfl] at hr
        subst hr
        have HA := hide (H9.out.keep k9)
        clear k9
        refine hK.out _ _ (hide ⟨_, _, HA.out⟩) (fun hS => ?_)
        clear hK K
        refine wpAnyH_take (i := 10) (oi := { dst := some 40, op := _, type := _, pos := _, after := _, guard := _ }) (v := ?_) rfl (by kernel_rfl) (by kernel_rfl) (by kernel_rfl) (fun _ _ _ h => h) (Or.inl ⟨by rfl, ?_⟩) hS ?_
        rotate_left
        · (intro w' hSw; go_simp; try with_reducible rfl)
        simp only [Act.put, List.setIfInBounds_toArray, List.set_cons_zero, List.set_cons_succ]
        refine wpAnyH_take (i := 11) (oi := { dst := some 41, op := _, type := _, pos := _, after := _, guard := _ }) (v := ?_) rfl (by kernel_rfl) (by kernel_rfl) (by kernel_rfl) (fun _ _ _ h => h) (Or.inl ⟨by rfl, ?_⟩) hS ?_
        rotate_left
        · (intro w' hSw; go_simp; try with_reducible rfl)
        simp only [Act.put, List.setIfInBounds_toArray, List.set_cons_zero, List.set_cons_succ]
        refine wpAnyH_done (by kernel_rfl) ?_ _
        clear hS HS H7 H8 H9 HEF E7 HLS
        go_wp2
        go_roundw
        case measure => simp [intOf]; omega
        case rel => exact ⟨k + 1, by omega, by go_num, hide ⟨_, HA.out⟩⟩
      · have h80z : ¬ (k : Int) < 80 := by omega
        have HF := hide (HK.out.trans' HD.out.keeps)
        clear HD
        go_wp2
        go_ret
        exact ⟨rfl, HF.out⟩
    · have hltz : ¬ (k : Int) < (l.length : Int) := by omega
      have HF := hide (HK.out.trans' HD.out.keeps)
      clear HD
      go_wp2
      go_ret
      exact ⟨rfl, HF.out⟩
end Go.Proofs.Ytcfglfnncpcfoaa

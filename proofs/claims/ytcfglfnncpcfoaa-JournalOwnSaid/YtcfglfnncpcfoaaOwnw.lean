/- The walk of JournalOwn. -/
import Derived.Test.YtcfglfnncpcfoaaRw
namespace Go.Proofs.Ytcfglfnncpcfoaa
open Go.RowKit
theorem Dvw.dux {w0 w : World} {g h : Nat} {S M : Lg} {B : List Bx} {v : Value} {L : List Ev} (d : Dvw w0 w g h S M B v L) : Dux w0 w g h B := by
  obtain ⟨F, G, h1, h2, h3, h4, h5, h6, hB, _⟩ := d
  exact ⟨S, M, F, G, h1, h2, h3, h4, h5, h6, hB⟩
theorem Dvw.eo {w0 w : World} {g h : Nat} {S M : Lg} {B : List Bx} {v : Value} {L : List Ev} (d : Dvw w0 w g h S M B v L) : EO w v L := by
  obtain ⟨F, G, h1, h2, h3, h4, h5, h6, hB, e, _⟩ := d
  exact e
theorem Dvw.keep {w0 w w' : World} {g h : Nat} {S M : Lg} {B : List Bx} {v : Value} {L : List Ev} (d : Dvw w0 w g h S M B v L) (k : Keeps [] w w') : Dvw w0 w' g h S M B v L := by
  obtain ⟨F, G, h1, h2, h3, h4, h5, h6, hB, e, ho⟩ := d
  exact ⟨F, G, h1.keep0 k, h2.keep0 k, h3, h4, h5, h6.trans' k, fun b hb => ⟨(hB b hb).1, (hB b hb).2.1.keep k (by simp), (hB b hb).2.2⟩, Own.keep e k (by simp), ho⟩
def changed : List Value := [.int .i64 0, .int .i64 0, .int .i64 0, .int .i64 0, .int .i64 0, .int .i64 0, .int .i64 0, .int .i64 0, .int .i64 0, .int .i64 0, .int .i64 0, .int .i64 0, .int .i64 0, .int .i64 0, .int .i64 0, .int .i64 0, .int .i64 0, .string { data := #[99, 104, 97, 110, 103, 101, 100] }]
set_option maxHeartbeats 8000000 in
set_option maxRecDepth 100000 in
theorem own_walk (A : Option Addr) (c : Nat) (l : List ActD) (w : World) (H : CameA w A c l) : Calls Try.prog 10 #[.slice A l.length c] w fun r w' => r = .returned (.bool true) ∧ Keeps [] w w' := by
  have hs := H.s
  have HOK := hide H.ok
  have hlc := H.le
  have hcm := H.cm
  clear H
  have HSZ := hide (And.intro hlc hcm)
  clear hlc hcm
  go_enter Try.func10, Try.ntmps10
  go_wp2_with fail
  refine (sanity_any w).mono ?_
  rintro r w1 ⟨rfl, k1⟩
  have HK := hide k1
  clear k1
  go_wp2_with fail
  refine (new_any w1).mono ?_
  rintro r w2 ⟨rfl, g1, k1⟩
  go_wp2_with fail
  refine (rnew_any w2).mono ?_
  rintro r w3 ⟨rfl, g2, k2⟩
  have HD := hide (Duo.news g1 k1 (Nat.le_refl _) g2 k2 (Nat.le_refl _))
  clear g1 k1 g2 k2
  generalize w1.heap.size = g at HD ⊢
  generalize w2.heap.size = h at HD ⊢
  go_wp2_with (with_reducible refine Halt.store (t := 49) ?_)
  refine Halt.on ?_
  refine wpList_store_list rfl 49 _ _ rfl w3.heap.size [.pointer (some ⟨g, 0, none⟩), .pointer (some ⟨h, 0, none⟩)] (by simp [Value.oneCell']) rfl rfl 49 #[.pointer none, .pointer none] (Bk.new w3 49 _) rfl sizeOf49 ?_
  simp only [Act.put]
  have HD2 := hide ((HD.out.box 49 #[.pointer none, .pointer none]).put (cs' := #[.pointer (some ⟨g, 0, none⟩), .pointer (some ⟨h, 0, none⟩)]) (fun b hb => by cases hb) ((Keeps.refl [w3.heap.size] _).setRow (g := w3.heap.size) (.inl (by simp)) #[.pointer (some ⟨g, 0, none⟩), .pointer (some ⟨h, 0, none⟩)]) (row_bk (Bk.new w3 49 #[.pointer none, .pointer none]) #[.pointer (some ⟨g, 0, none⟩), .pointer (some ⟨h, 0, none⟩)]))
  clear HD
  change wpList _ _ _ _ _ ((w3.alloc (.cells #[.pointer none, .pointer none] 49)).setRow w3.heap.size #[.pointer (some ⟨g, 0, none⟩), .pointer (some ⟨h, 0, none⟩)])
  generalize (w3.alloc (.cells #[.pointer none, .pointer none] 49)).setRow w3.heap.size #[.pointer (some ⟨g, 0, none⟩), .pointer (some ⟨h, 0, none⟩)] = w4 at HD2 ⊢
  generalize w3.heap.size = bd at HD2 ⊢
  have c0 : w4.cell? ⟨bd, 0, none⟩ = some (.pointer (some ⟨g, 0, none⟩)) := (show Bk w4 bd 49 #[.pointer (some ⟨g, 0, none⟩), .pointer (some ⟨h, 0, none⟩)] from HD2.out.bk (b := (bd, 49, #[.pointer (some ⟨g, 0, none⟩), .pointer (some ⟨h, 0, none⟩)])) (by simp)).cell 0
  go_wp2
  clear c0
  go_loopw [5] (fun s5 wr => ∃ k : Nat, k ≤ 60 ∧ s5 = .int .i64 k ∧ Hid (∃ S, Duo w1 wr g h S S [(bd, 49, #[.pointer (some ⟨g, 0, none⟩), .pointer (some ⟨h, 0, none⟩)])])) (fun s5 _ => 60 - (intOf s5).toNat)
  case atStart => exact ⟨0, by omega, rfl, hide ⟨_, HD2.out⟩⟩
  case round =>
    obtain ⟨k, hk, rfl, HS⟩ := hrel
    have hk0 : (0 : Int) ≤ (k : Int) := by omega
    obtain ⟨S, hS⟩ := HS.out
    have HD := hide hS
    clear hS HS HD2
    by_cases hlt : k < l.length
    · have hltz : (k : Int) < (l.length : Int) := by omega
      by_cases h60 : k < 60
      · have h60z : (k : Int) < 60 := by omega
        have hcn := HSZ.out
        obtain ⟨b, o, rfl, hcell⟩ := (Src.keep hs HK.out (by simp)).headN (by omega) (by omega)
        have HX := hide (actAt_of hcell k hlt)
        have hxo := HOK.out (l[k]) (List.getElem_mem hlt)
        generalize l[k] = x at HX hxo
        have HXO := hide hxo
        clear hxo hcell hcn
        go_wp2_with fail
        have HC := hide (HD.out.keep (Keeps.refl [] wr).drew)
        have HS := hide (show Dux w1 wr.drew g h [(bd, 49, #[.pointer (some ⟨g, 0, none⟩), .pointer (some ⟨h, 0, none⟩)])] from ⟨_, _, HC.out⟩)
        clear HD
        refine wp_region_held_drew (S := (fun w' => Hid (Dux w1 w' g h [(bd, 49, #[.pointer (some ⟨g, 0, none⟩), .pointer (some ⟨h, 0, none⟩)])]))) (by kernel_rfl) HS (fun hS => ?_)
        refine wpAnyH_take (i := 0) (oi := { dst := some 29, op := _, type := _, pos := _, after := _, guard := _ }) rfl (by kernel_rfl) (by kernel_rfl) (by kernel_rfl) (fun _ _ _ h => h) (yl_desk _ bd g h rfl (by rfl) (by rfl) (fun w hw => (show Bk w bd 49 #[.pointer (some ⟨g, 0, none⟩), .pointer (some ⟨h, 0, none⟩)] from hw.out.bk (b := (bd, 49, #[.pointer (some ⟨g, 0, none⟩), .pointer (some ⟨h, 0, none⟩)])) (by simp)))) hS ?_
        simp only [Act.put, List.setIfInBounds_toArray, List.set_cons_zero, List.set_cons_succ]
        refine wpAnyH_take (i := 1) (oi := { dst := some 30, op := _, type := _, pos := _, after := _, guard := _ }) (v := ?_) rfl (by kernel_rfl) (by kernel_rfl) (by kernel_rfl) (fun _ _ _ h => h) (Or.inl ⟨by rfl, ?_⟩) hS ?_
        rotate_left
        · (intro w' hSw; go_simp; try with_reducible rfl)
        simp only [Act.put, List.setIfInBounds_toArray, List.set_cons_zero, List.set_cons_succ]
        refine wpAnyH_take (i := 2) (oi := { dst := some 31, op := _, type := _, pos := _, after := _, guard := _ }) (v := ?_) rfl (by kernel_rfl) (by kernel_rfl) (by kernel_rfl) (fun _ _ _ h => h) (Or.inl ⟨by rfl, ?_⟩) hS ?_
        rotate_left
        · (intro w' hSw; go_simp; try with_reducible rfl)
        simp only [Act.put, List.setIfInBounds_toArray, List.set_cons_zero, List.set_cons_succ]
        refine wpAnyH_take (i := 3) (oi := { dst := some 32, op := _, type := _, pos := _, after := _, guard := _ }) (v := ?_) rfl (by kernel_rfl) (by kernel_rfl) (by kernel_rfl) (fun _ _ _ h => h) (Or.inl ⟨by rfl, ?_⟩) hS ?_
        rotate_left
        · (intro w' hSw; go_simp; try with_reducible rfl)
        simp only [Act.put, List.setIfInBounds_toArray, List.set_cons_zero, List.set_cons_succ]
        refine wpAnyH_take (i := 4) (oi := { dst := some 33, op := _, type := _, pos := _, after := _, guard := _ }) rfl (by kernel_rfl) (by kernel_rfl) (by kernel_rfl) (fun _ _ _ h => h) (yl_act _ b (o + k * 6) x rfl (by rfl) (by rfl) (fun w hw => HX.out.keep hw.out.keeps)) hS ?_
        simp only [Act.put, List.setIfInBounds_toArray, List.set_cons_zero, List.set_cons_succ]
        refine wpAnyH_ready (rs := [5]) (by kernel_rfl) (by simp) ?_
        refine AllReadyH.cons (o := { dst := some 34, op := _, type := _, pos := _, after := _, guard := _ }) rfl (fun K hK => ?_) AllReadyH.nil
        go_simp
        refine (do_any w1 _ g h S _ HC.out x.kind x.time x.q0 x.q1 x.q2 x.q3 HXO.out.k HXO.out.t HXO.out.q0 HXO.out.q1 HXO.out.q2 HXO.out.q3).mono ?_
        rintro r6 w6 ⟨rfl, S6, h6⟩
        have H6 := hide h6
        clear h6
        refine hK.out _ _ (hide ⟨_, _, H6.out⟩) (fun hS => ?_)
        clear hK K
        refine wpAnyH_take (i := 6) (oi := { dst := some 6, op := _, type := _, pos := _, after := _, guard := _ }) (v := ?_) rfl (by kernel_rfl) (by kernel_rfl) (by kernel_rfl) (fun _ _ _ h => h) (Or.inl ⟨by rfl, ?_⟩) hS ?_
        rotate_left
        · (intro w' hSw; go_simp; try with_reducible rfl)
        simp only [Act.put, List.setIfInBounds_toArray, List.set_cons_zero, List.set_cons_succ]
        refine wpAnyH_done (by kernel_rfl) ?_ _
        clear HS hS HC
        have c0 : w6.cell? ⟨bd, 0, none⟩ = some (.pointer (some ⟨g, 0, none⟩)) := (show Bk w6 bd 49 #[.pointer (some ⟨g, 0, none⟩), .pointer (some ⟨h, 0, none⟩)] from H6.out.bk (b := (bd, 49, #[.pointer (some ⟨g, 0, none⟩), .pointer (some ⟨h, 0, none⟩)])) (by simp)).cell 0
        go_wp2_with fail
        refine H6.out.eventsW.mono ?_
        rintro r7 w7 ⟨A7, c7, rfl, h7⟩
        have hl7 := H6.out.ok.len
        have HL7 := hide hl7
        have H7 := hide h7
        clear h7 H6 c0 hl7
        obtain ⟨n7, hn7⟩ : ∃ n, S6.L.length = n := ⟨_, rfl⟩
        rw [hn7] at H7 ⊢
        have hn7b : n7 ≤ 100000 := by have := HL7.out; omega
        clear HL7 hn7
        go_wp2
        go_loopw [8] (fun sj wq => ∃ j : Nat, j ≤ n7 ∧ sj = .int .i64 j ∧ Hid (Rw w1 wq g h S6 S6 [(bd, 49, #[.pointer (some ⟨g, 0, none⟩), .pointer (some ⟨h, 0, none⟩)])] A7 n7)) (fun sj _ => n7 - (intOf sj).toNat)
        case atStart => exact ⟨0, by omega, rfl, H7⟩
        case round =>
          obtain ⟨j, hj, rfl, HJ⟩ := hrel
          have hj0 : (0 : Int) ≤ (j : Int) := by omega
          by_cases hjl : j < n7
          · have hjz : (j : Int) < ((n7 : Nat) : Int) := by omega
            obtain ⟨bq, cur, hA, hbq, hsq, hrw⟩ := HJ.out.row hjl
            subst hA
            have HRW := hide hrw
            clear hrw HJ H7
            go_wp2_with (with_reducible refine Halt.store (t := 27) ?_)
            refine Halt.on ?_
            refine wpList_store_at rfl 27 _ _ rfl bq (j * 18) changed (by simp [changed, Value.oneCell']) (by go_simp; try rfl) rfl 27 cur hbq hsq sizeOf27 (fun new hnew => ?_)
            have HN := hide (HRW.out new hnew)
            clear HRW hbq hsq
            generalize wr.setRow bq new = wz at HN ⊢
            simp only [Act.put]
            go_wp2
            go_roundw
            case measure => simp [intOf]; omega
            case rel => exact ⟨j + 1, by omega, by go_num, HN⟩
          · have hjz : ¬ (j : Int) < ((n7 : Nat) : Int) := by omega
            clear hjl hj
            have HC := hide (HJ.out.duo.keep (Keeps.refl [] wr).drew)
            have HS := hide (show Dux w1 wr.drew g h [(bd, 49, #[.pointer (some ⟨g, 0, none⟩), .pointer (some ⟨h, 0, none⟩)])] from ⟨_, _, HC.out⟩)
            clear HJ H7
            obtain ⟨m, hm⟩ : ∃ m, x.time % 3 = m := ⟨_, rfl⟩
            have hm0 : 0 ≤ m ∧ m < 3 := by omega
            have v1 : IntKind.i64.wrap (m - 1) = m - 1 := IntWalk.i64_in _ (by omega)
            have HM := hide hm
            have HZ := hide (show -9223372036854775808 ≤ m - 1 ∧ m - 1 ≤ 9223372036854775807 by omega)
            clear hm hm0
            go_wp2_with fail
            refine wp_region_held_drew (S := (fun w' => Hid (Dux w1 w' g h [(bd, 49, #[.pointer (some ⟨g, 0, none⟩), .pointer (some ⟨h, 0, none⟩)])]))) (by kernel_rfl) HS (fun hS => ?_)
            refine wpAnyH_take (i := 0) (oi := { dst := some 48, op := _, type := _, pos := _, after := _, guard := _ }) (v := ?_) rfl (by kernel_rfl) (by kernel_rfl) (by kernel_rfl) (fun _ _ _ h => h) (Or.inl ⟨by rfl, ?_⟩) hS ?_
            rotate_left
            · (intro w' hSw; go_simp; try with_reducible rfl)
            simp only [Act.put, List.setIfInBounds_toArray, List.set_cons_zero, List.set_cons_succ]
            refine wpAnyH_take (i := 1) (oi := { dst := some 49, op := _, type := _, pos := _, after := _, guard := _ }) rfl (by kernel_rfl) (by kernel_rfl) (by kernel_rfl) (fun _ _ _ h => h) (yl_cell 44 _ bd 0 rfl agg44 (by rfl) (by rfl) (fun w hw => (show Bk w bd 49 #[.pointer (some ⟨g, 0, none⟩), .pointer (some ⟨h, 0, none⟩)] from hw.out.bk (b := (bd, 49, #[.pointer (some ⟨g, 0, none⟩), .pointer (some ⟨h, 0, none⟩)])) (by simp)).cell 0)) hS ?_
            simp only [Act.put, List.setIfInBounds_toArray, List.set_cons_zero, List.set_cons_succ]
            refine wpAnyH_take (i := 2) (oi := { dst := some 50, op := _, type := _, pos := _, after := _, guard := _ }) (v := ?_) rfl (by kernel_rfl) (by kernel_rfl) (by kernel_rfl) (fun _ _ _ h => h) (Or.inl ⟨by rfl, ?_⟩) hS ?_
            rotate_left
            · (intro w' hSw; go_simp; try with_reducible rfl)
            simp only [Act.put, List.setIfInBounds_toArray, List.set_cons_zero, List.set_cons_succ]
            refine wpAnyH_take (i := 3) (oi := { dst := some 51, op := _, type := _, pos := _, after := _, guard := _ }) (v := ?_) rfl (by kernel_rfl) (by kernel_rfl) (by kernel_rfl) (fun _ _ _ h => h) (Or.inl ⟨by rfl, ?_⟩) hS ?_
            rotate_left
            · (intro w' hSw; go_simp; try with_reducible rfl)
            simp only [Act.put, List.setIfInBounds_toArray, List.set_cons_zero, List.set_cons_succ]
            refine wpAnyH_take (i := 4) (oi := { dst := some 52, op := _, type := _, pos := _, after := _, guard := _ }) (v := ?_) rfl (by kernel_rfl) (by kernel_rfl) (by kernel_rfl) (fun _ _ _ h => h) (Or.inl ⟨by rfl, ?_⟩) hS ?_
            rotate_left
            · (intro w' hSw; go_simp; try with_reducible rfl)
            simp only [Act.put, List.setIfInBounds_toArray, List.set_cons_zero, List.set_cons_succ]
            refine wpAnyH_take (i := 5) (oi := { dst := some 53, op := _, type := _, pos := _, after := _, guard := _ }) (v := ?_) rfl (by kernel_rfl) (by kernel_rfl) (by kernel_rfl) (fun _ _ _ h => h) (Or.inl ⟨by rfl, ?_⟩) hS ?_
            rotate_left
            · (intro w' hSw; go_simp; try with_reducible rfl)
            simp only [Act.put, List.setIfInBounds_toArray, List.set_cons_zero, List.set_cons_succ]
            refine wpAnyH_take (i := 6) (oi := { dst := some 54, op := _, type := _, pos := _, after := _, guard := _ }) rfl (by kernel_rfl) (by kernel_rfl) (by kernel_rfl) (fun _ _ _ h => h) (yl_cell 3 _ b (o + k * 6 + 1) rfl Try.isAgg3 (by rfl) (by rfl) (fun w hw => (HX.out.keep hw.out.keeps) 1 _ rfl)) hS ?_
            simp only [Act.put, List.setIfInBounds_toArray, List.set_cons_zero, List.set_cons_succ]
            refine wpAnyH_ready (rs := [7]) (by kernel_rfl) (by simp) ?_
            refine AllReadyH.cons (o := { dst := some 55, op := _, type := _, pos := _, after := _, guard := _ }) rfl (fun K hK => ?_) AllReadyH.nil
            go_simp
            refine (mod_any x.time 3 _ HXO.out.t.1 HXO.out.t.2 (by omega) (by omega)).mono ?_
            rintro r7 wm ⟨rfl, rfl⟩
            rw [HM.out]
            refine hK.out _ _ hS (fun hS => ?_)
            clear hK K
            refine wpAnyH_take (i := 8) (oi := { dst := some 56, op := _, type := _, pos := _, after := _, guard := _ }) (v := ?_) rfl (by kernel_rfl) (by kernel_rfl) (by kernel_rfl) (fun _ _ _ h => h) (Or.inl ⟨by rfl, ?_⟩) hS ?_
            rotate_left
            · (intro w' hSw; go_simp; try with_reducible rfl)
            simp only [Act.put, List.setIfInBounds_toArray, List.set_cons_zero, List.set_cons_succ]
            refine wpAnyH_ready (rs := [9]) (by kernel_rfl) (by simp) ?_
            refine AllReadyH.cons (o := { dst := some 57, op := _, type := _, pos := _, after := _, guard := _ }) rfl (fun K hK => ?_) AllReadyH.nil
            go_simp
            refine (HC.out.settleW (m - 1) HZ.out.1 HZ.out.2).mono ?_
            rintro r8 w8 ⟨v8, rfl, h8⟩
            obtain ⟨A8, c8, rfl⟩ := Own.slice h8.eo
            have H8 := hide h8
            clear h8
            refine hK.out _ _ (hide H8.out.dux) (fun hS => ?_)
            clear hK K
            refine wpAnyH_take (i := 10) (oi := { dst := some 9, op := _, type := _, pos := _, after := _, guard := _ }) (v := ?_) rfl (by kernel_rfl) (by kernel_rfl) (by kernel_rfl) (fun _ _ _ h => h) (Or.inl ⟨by rfl, ?_⟩) hS ?_
            rotate_left
            · (intro w' hSw; go_simp; try with_reducible rfl)
            simp only [Act.put, List.setIfInBounds_toArray, List.set_cons_zero, List.set_cons_succ]
            refine wpAnyH_done (by kernel_rfl) ?_ _
            have hlR := settleR_len S6 HC.out.ok (m - 1)
            have HLR := hide hlR
            clear hlR HS hS HC
            have HC := hide (H8.out.keep (Keeps.refl [] w8).drew)
            have HS := hide HC.out.dux
            clear H8
            go_wp2_with fail
            refine wp_region_held_drew (S := (fun w' => Hid (Dux w1 w' g h [(bd, 49, #[.pointer (some ⟨g, 0, none⟩), .pointer (some ⟨h, 0, none⟩)])]))) (by kernel_rfl) HS (fun hS => ?_)
            refine wpAnyH_take (i := 0) (oi := { dst := some 58, op := _, type := _, pos := _, after := _, guard := _ }) (v := ?_) rfl (by kernel_rfl) (by kernel_rfl) (by kernel_rfl) (fun _ _ _ h => h) (Or.inl ⟨by rfl, ?_⟩) hS ?_
            rotate_left
            · (intro w' hSw; go_simp; try with_reducible rfl)
            simp only [Act.put, List.setIfInBounds_toArray, List.set_cons_zero, List.set_cons_succ]
            refine wpAnyH_take (i := 1) (oi := { dst := some 59, op := _, type := _, pos := _, after := _, guard := _ }) rfl (by kernel_rfl) (by kernel_rfl) (by kernel_rfl) (fun _ _ _ h => h) (yl_cell 46 _ bd 1 rfl agg46 (by rfl) (by rfl) (fun w hw => (show Bk w bd 49 #[.pointer (some ⟨g, 0, none⟩), .pointer (some ⟨h, 0, none⟩)] from hw.out.bk (b := (bd, 49, #[.pointer (some ⟨g, 0, none⟩), .pointer (some ⟨h, 0, none⟩)])) (by simp)).cell 1)) hS ?_
            simp only [Act.put, List.setIfInBounds_toArray, List.set_cons_zero, List.set_cons_succ]
            refine wpAnyH_take (i := 2) (oi := { dst := some 60, op := _, type := _, pos := _, after := _, guard := _ }) (v := ?_) rfl (by kernel_rfl) (by kernel_rfl) (by kernel_rfl) (fun _ _ _ h => h) (Or.inl ⟨by rfl, ?_⟩) hS ?_
            rotate_left
            · (intro w' hSw; go_simp; try with_reducible rfl)
            simp only [Act.put, List.setIfInBounds_toArray, List.set_cons_zero, List.set_cons_succ]
            refine wpAnyH_take (i := 3) (oi := { dst := some 61, op := _, type := _, pos := _, after := _, guard := _ }) (v := ?_) rfl (by kernel_rfl) (by kernel_rfl) (by kernel_rfl) (fun _ _ _ h => h) (Or.inl ⟨by rfl, ?_⟩) hS ?_
            rotate_left
            · (intro w' hSw; go_simp; try with_reducible rfl)
            simp only [Act.put, List.setIfInBounds_toArray, List.set_cons_zero, List.set_cons_succ]
            refine wpAnyH_take (i := 4) (oi := { dst := some 62, op := _, type := _, pos := _, after := _, guard := _ }) (v := ?_) rfl (by kernel_rfl) (by kernel_rfl) (by kernel_rfl) (fun _ _ _ h => h) (Or.inl ⟨by rfl, ?_⟩) hS ?_
            rotate_left
            · (intro w' hSw; go_simp; try with_reducible rfl)
            simp only [Act.put, List.setIfInBounds_toArray, List.set_cons_zero, List.set_cons_succ]
            refine wpAnyH_take (i := 5) (oi := { dst := some 63, op := _, type := _, pos := _, after := _, guard := _ }) (v := ?_) rfl (by kernel_rfl) (by kernel_rfl) (by kernel_rfl) (fun _ _ _ h => h) (Or.inl ⟨by rfl, ?_⟩) hS ?_
            rotate_left
            · (intro w' hSw; go_simp; try with_reducible rfl)
            simp only [Act.put, List.setIfInBounds_toArray, List.set_cons_zero, List.set_cons_succ]
            refine wpAnyH_take (i := 6) (oi := { dst := some 64, op := _, type := _, pos := _, after := _, guard := _ }) rfl (by kernel_rfl) (by kernel_rfl) (by kernel_rfl) (fun _ _ _ h => h) (yl_cell 3 _ b (o + k * 6 + 1) rfl Try.isAgg3 (by rfl) (by rfl) (fun w hw => (HX.out.keep hw.out.keeps) 1 _ rfl)) hS ?_
            simp only [Act.put, List.setIfInBounds_toArray, List.set_cons_zero, List.set_cons_succ]
            refine wpAnyH_ready (rs := [7]) (by kernel_rfl) (by simp) ?_
            refine AllReadyH.cons (o := { dst := some 65, op := _, type := _, pos := _, after := _, guard := _ }) rfl (fun K hK => ?_) AllReadyH.nil
            go_simp
            refine (mod_any x.time 3 _ HXO.out.t.1 HXO.out.t.2 (by omega) (by omega)).mono ?_
            rintro r7 wm ⟨rfl, rfl⟩
            rw [HM.out]
            refine hK.out _ _ hS (fun hS => ?_)
            clear hK K
            refine wpAnyH_take (i := 8) (oi := { dst := some 66, op := _, type := _, pos := _, after := _, guard := _ }) (v := ?_) rfl (by kernel_rfl) (by kernel_rfl) (by kernel_rfl) (fun _ _ _ h => h) (Or.inl ⟨by rfl, ?_⟩) hS ?_
            rotate_left
            · (intro w' hSw; go_simp; try with_reducible rfl)
            simp only [Act.put, List.setIfInBounds_toArray, List.set_cons_zero, List.set_cons_succ]
            refine wpAnyH_ready (rs := [9]) (by kernel_rfl) (by simp) ?_
            refine AllReadyH.cons (o := { dst := some 67, op := _, type := _, pos := _, after := _, guard := _ }) rfl (fun K hK => ?_) AllReadyH.nil
            go_simp
            refine (HC.out.rsettle (m - 1) HZ.out.1 HZ.out.2).mono ?_
            rintro r9 w9 ⟨v9, rfl, h9, e9⟩
            obtain ⟨A9, c9, rfl⟩ := Own.slice e9
            have H9 := hide h9
            have E9 := hide e9
            clear h9 e9
            refine hK.out _ _ (hide H9.out.dux) (fun hS => ?_)
            clear hK K
            refine wpAnyH_take (i := 10) (oi := { dst := some 10, op := _, type := _, pos := _, after := _, guard := _ }) (v := ?_) rfl (by kernel_rfl) (by kernel_rfl) (by kernel_rfl) (fun _ _ _ h => h) (Or.inl ⟨by rfl, ?_⟩) hS ?_
            rotate_left
            · (intro w' hSw; go_simp; try with_reducible rfl)
            simp only [Act.put, List.setIfInBounds_toArray, List.set_cons_zero, List.set_cons_succ]
            refine wpAnyH_done (by kernel_rfl) ?_ _
            clear HS hS HC v1
            have HC := H9
            clear H9
            go_wp2_with fail
            refine (same_any A8 A9 c8 c9 (settleR S6 (m - 1)) (settleR S6 (m - 1)) _ HLR.out HLR.out (Own.src HC.out.eo) (Own.src E9.out)).mono ?_
            rintro r10 w10 ⟨hr, k10⟩
            rw [decide_eq_true rfl] at hr
            subst hr
            have HA := hide (HC.out.keep k10)
            clear k10
            clear HC E9
            have HR := hide HA.out.rw_
            clear HA
            obtain ⟨S9, hS9⟩ : ∃ S, settleS S6 (m - 1) = S := ⟨_, rfl⟩
            rw [hS9] at HR
            clear hS9
            obtain ⟨n9, hn9⟩ : ∃ n, (settleR S6 (m - 1)).length = n := ⟨_, rfl⟩
            rw [hn9] at HR ⊢
            have hn9b : n9 ≤ 100000 := by have := HLR.out; omega
            clear HLR HZ HM hn9
            go_wp2
            go_loopw [11] (fun sj wq => ∃ j : Nat, j ≤ n9 ∧ sj = .int .i64 j ∧ Hid (Rw w1 wq g h S9 S9 [(bd, 49, #[.pointer (some ⟨g, 0, none⟩), .pointer (some ⟨h, 0, none⟩)])] A8 n9)) (fun sj _ => n9 - (intOf sj).toNat)
            case atStart => exact ⟨0, by omega, rfl, HR⟩
            case round =>
              obtain ⟨j, hj, rfl, HJ⟩ := hrel
              have hj0 : (0 : Int) ≤ (j : Int) := by omega
              by_cases hjl : j < n9
              · have hjz : (j : Int) < ((n9 : Nat) : Int) := by omega
                obtain ⟨bq, cur, hA, hbq, hsq, hrw⟩ := HJ.out.row hjl
                subst hA
                have HRW := hide hrw
                clear hrw HJ HR
                go_wp2_with (with_reducible refine Halt.store (t := 27) ?_)
                refine Halt.on ?_
                refine wpList_store_at rfl 27 _ _ rfl bq (j * 18) changed (by simp [changed, Value.oneCell']) (by go_simp; try rfl) rfl 27 cur hbq hsq sizeOf27 (fun new hnew => ?_)
                have HN := hide (HRW.out new hnew)
                clear HRW hbq hsq
                generalize wr.setRow bq new = wz at HN ⊢
                simp only [Act.put]
                go_wp2
                go_roundw
                case measure => simp [intOf]; omega
                case rel => exact ⟨j + 1, by omega, by go_num, HN⟩
              · have hjz : ¬ (j : Int) < ((n9 : Nat) : Int) := by omega
                clear hjl hj
                clear HX HXO
                go_wp2
                go_roundw
                case measure => simp [intOf]; omega
                case rel => exact ⟨k + 1, by omega, by go_num, hide ⟨_, HJ.out.duo⟩⟩
      · have h60z : ¬ (k : Int) < 60 := by omega
        clear hlt h60
        go_wp2_with fail
        have HC := hide (HD.out.keep (Keeps.refl [] wr).drew)
        have HS := hide (show Dux w1 wr.drew g h [(bd, 49, #[.pointer (some ⟨g, 0, none⟩), .pointer (some ⟨h, 0, none⟩)])] from ⟨_, _, HC.out⟩)
        have hlS := HC.out.ok.len
        have HLS := hide (show S.L.length ≤ 100000 by omega)
        clear hlS HD
        refine wp_region_held_drew (S := (fun w' => Hid (Dux w1 w' g h [(bd, 49, #[.pointer (some ⟨g, 0, none⟩), .pointer (some ⟨h, 0, none⟩)])]))) (by kernel_rfl) HS (fun hS => ?_)
        refine wpAnyH_take (i := 0) (oi := { dst := some 86, op := _, type := _, pos := _, after := _, guard := _ }) (v := ?_) rfl (by kernel_rfl) (by kernel_rfl) (by kernel_rfl) (fun _ _ _ h => h) (Or.inl ⟨by rfl, ?_⟩) hS ?_
        rotate_left
        · (intro w' hSw; go_simp; try with_reducible rfl)
        simp only [Act.put, List.setIfInBounds_toArray, List.set_cons_zero, List.set_cons_succ]
        refine wpAnyH_take (i := 1) (oi := { dst := some 87, op := _, type := _, pos := _, after := _, guard := _ }) (v := ?_) rfl (by kernel_rfl) (by kernel_rfl) (by kernel_rfl) (fun _ _ _ h => h) (Or.inl ⟨by rfl, ?_⟩) hS ?_
        rotate_left
        · (intro w' hSw; go_simp; try with_reducible rfl)
        simp only [Act.put, List.setIfInBounds_toArray, List.set_cons_zero, List.set_cons_succ]
        refine wpAnyH_take (i := 2) (oi := { dst := some 88, op := _, type := _, pos := _, after := _, guard := _ }) (v := ?_) rfl (by kernel_rfl) (by kernel_rfl) (by kernel_rfl) (fun _ _ _ h => h) (Or.inl ⟨by rfl, ?_⟩) hS ?_
        rotate_left
        · (intro w' hSw; go_simp; try with_reducible rfl)
        simp only [Act.put, List.setIfInBounds_toArray, List.set_cons_zero, List.set_cons_succ]
        refine wpAnyH_take (i := 3) (oi := { dst := some 89, op := _, type := _, pos := _, after := _, guard := _ }) rfl (by kernel_rfl) (by kernel_rfl) (by kernel_rfl) (fun _ _ _ h => h) (yl_cell 44 _ bd 0 rfl agg44 (by rfl) (by rfl) (fun w hw => (show Bk w bd 49 #[.pointer (some ⟨g, 0, none⟩), .pointer (some ⟨h, 0, none⟩)] from hw.out.bk (b := (bd, 49, #[.pointer (some ⟨g, 0, none⟩), .pointer (some ⟨h, 0, none⟩)])) (by simp)).cell 0)) hS ?_
        simp only [Act.put, List.setIfInBounds_toArray, List.set_cons_zero, List.set_cons_succ]
        refine wpAnyH_take (i := 5) (oi := { dst := some 91, op := _, type := _, pos := _, after := _, guard := _ }) (v := ?_) rfl (by kernel_rfl) (by kernel_rfl) (by kernel_rfl) (fun _ _ _ h => h) (Or.inl ⟨by rfl, ?_⟩) hS ?_
        rotate_left
        · (intro w' hSw; go_simp; try with_reducible rfl)
        simp only [Act.put, List.setIfInBounds_toArray, List.set_cons_zero, List.set_cons_succ]
        refine wpAnyH_take (i := 6) (oi := { dst := some 92, op := _, type := _, pos := _, after := _, guard := _ }) rfl (by kernel_rfl) (by kernel_rfl) (by kernel_rfl) (fun _ _ _ h => h) (yl_cell 46 _ bd 1 rfl agg46 (by rfl) (by rfl) (fun w hw => (show Bk w bd 49 #[.pointer (some ⟨g, 0, none⟩), .pointer (some ⟨h, 0, none⟩)] from hw.out.bk (b := (bd, 49, #[.pointer (some ⟨g, 0, none⟩), .pointer (some ⟨h, 0, none⟩)])) (by simp)).cell 1)) hS ?_
        simp only [Act.put, List.setIfInBounds_toArray, List.set_cons_zero, List.set_cons_succ]
        refine wpAnyH_ready (rs := [4]) (by kernel_rfl) (by simp) ?_
        refine AllReadyH.cons (o := { dst := some 90, op := _, type := _, pos := _, after := _, guard := _ }) rfl (fun K hK => ?_) AllReadyH.nil
        go_simp
        refine HC.out.events.mono ?_
        rintro r7 w7 ⟨v7, rfl, e7, k7⟩
        obtain ⟨A7, c7, rfl⟩ := Own.slice e7
        have E7 := hide e7
        have H8 := hide (HC.out.keep k7)
        clear e7 k7
        refine hK.out _ _ (hide ⟨_, _, H8.out⟩) (fun hS => ?_)
        clear hK K
        refine wpAnyH_ready (rs := [7]) (by kernel_rfl) (by simp) ?_
        refine AllReadyH.cons (o := { dst := some 93, op := _, type := _, pos := _, after := _, guard := _ }) rfl (fun K hK => ?_) AllReadyH.nil
        go_simp
        refine H8.out.revents.mono ?_
        rintro r8 w8 ⟨v8, rfl, e8, k8⟩
        obtain ⟨A8, c8, rfl⟩ := Own.slice e8
        have HEF := hide (And.intro (Own.keep E7.out k8 (by simp)) e8)
        have H9 := hide (H8.out.keep k8)
        clear e8 k8
        refine hK.out _ _ (hide ⟨_, _, H9.out⟩) (fun hS => ?_)
        clear hK K
        refine wpAnyH_ready (rs := [8]) (by kernel_rfl) (by simp) ?_
        refine AllReadyH.cons (o := { dst := some 94, op := _, type := _, pos := _, after := _, guard := _ }) rfl (fun K hK => ?_) AllReadyH.nil
        go_simp
        refine (same_any A7 A8 c7 c8 S.L S.L _ HLS.out HLS.out (Own.src HEF.out.1) (Own.src HEF.out.2)).mono ?_
        rintro r9 w9 ⟨hr, k9⟩
        rw [decide_eq_true rfl] at hr
        subst hr
        have HA := hide (H9.out.keep k9)
        clear k9
        refine hK.out _ _ (hide ⟨_, _, HA.out⟩) (fun hS => ?_)
        clear hK K
        refine wpAnyH_take (i := 9) (oi := { dst := some 95, op := _, type := _, pos := _, after := _, guard := _ }) (v := ?_) rfl (by kernel_rfl) (by kernel_rfl) (by kernel_rfl) (fun _ _ _ h => h) (Or.inl ⟨by rfl, ?_⟩) hS ?_
        rotate_left
        · (intro w' hSw; go_simp; try with_reducible rfl)
        simp only [Act.put, List.setIfInBounds_toArray, List.set_cons_zero, List.set_cons_succ]
        refine wpAnyH_take (i := 10) (oi := { dst := some 2, op := _, type := _, pos := _, after := _, guard := _ }) (v := ?_) rfl (by kernel_rfl) (by kernel_rfl) (by kernel_rfl) (fun _ _ _ h => h) (Or.inl ⟨by rfl, ?_⟩) hS ?_
        rotate_left
        · (intro w' hSw; go_simp; try with_reducible rfl)
        simp only [Act.put, List.setIfInBounds_toArray, List.set_cons_zero, List.set_cons_succ]
        refine wpAnyH_done (by kernel_rfl) ?_ _
        have HF := hide (HK.out.trans' HA.out.keeps)
        clear hS HS H8 H9 HEF E7 HLS HC HA
        go_wp2
        go_ret
        exact ⟨rfl, HF.out⟩
    · have hltz : ¬ (k : Int) < (l.length : Int) := by omega
      clear hlt
      go_wp2_with fail
      have HC := hide (HD.out.keep (Keeps.refl [] wr).drew)
      have HS := hide (show Dux w1 wr.drew g h [(bd, 49, #[.pointer (some ⟨g, 0, none⟩), .pointer (some ⟨h, 0, none⟩)])] from ⟨_, _, HC.out⟩)
      have hlS := HC.out.ok.len
      have HLS := hide (show S.L.length ≤ 100000 by omega)
      clear hlS HD
      refine wp_region_held_drew (S := (fun w' => Hid (Dux w1 w' g h [(bd, 49, #[.pointer (some ⟨g, 0, none⟩), .pointer (some ⟨h, 0, none⟩)])]))) (by kernel_rfl) HS (fun hS => ?_)
      refine wpAnyH_take (i := 0) (oi := { dst := some 86, op := _, type := _, pos := _, after := _, guard := _ }) (v := ?_) rfl (by kernel_rfl) (by kernel_rfl) (by kernel_rfl) (fun _ _ _ h => h) (Or.inl ⟨by rfl, ?_⟩) hS ?_
      rotate_left
      · (intro w' hSw; go_simp; try with_reducible rfl)
      simp only [Act.put, List.setIfInBounds_toArray, List.set_cons_zero, List.set_cons_succ]
      refine wpAnyH_take (i := 1) (oi := { dst := some 87, op := _, type := _, pos := _, after := _, guard := _ }) (v := ?_) rfl (by kernel_rfl) (by kernel_rfl) (by kernel_rfl) (fun _ _ _ h => h) (Or.inl ⟨by rfl, ?_⟩) hS ?_
      rotate_left
      · (intro w' hSw; go_simp; try with_reducible rfl)
      simp only [Act.put, List.setIfInBounds_toArray, List.set_cons_zero, List.set_cons_succ]
      refine wpAnyH_take (i := 2) (oi := { dst := some 88, op := _, type := _, pos := _, after := _, guard := _ }) (v := ?_) rfl (by kernel_rfl) (by kernel_rfl) (by kernel_rfl) (fun _ _ _ h => h) (Or.inl ⟨by rfl, ?_⟩) hS ?_
      rotate_left
      · (intro w' hSw; go_simp; try with_reducible rfl)
      simp only [Act.put, List.setIfInBounds_toArray, List.set_cons_zero, List.set_cons_succ]
      refine wpAnyH_take (i := 3) (oi := { dst := some 89, op := _, type := _, pos := _, after := _, guard := _ }) rfl (by kernel_rfl) (by kernel_rfl) (by kernel_rfl) (fun _ _ _ h => h) (yl_cell 44 _ bd 0 rfl agg44 (by rfl) (by rfl) (fun w hw => (show Bk w bd 49 #[.pointer (some ⟨g, 0, none⟩), .pointer (some ⟨h, 0, none⟩)] from hw.out.bk (b := (bd, 49, #[.pointer (some ⟨g, 0, none⟩), .pointer (some ⟨h, 0, none⟩)])) (by simp)).cell 0)) hS ?_
      simp only [Act.put, List.setIfInBounds_toArray, List.set_cons_zero, List.set_cons_succ]
      refine wpAnyH_take (i := 5) (oi := { dst := some 91, op := _, type := _, pos := _, after := _, guard := _ }) (v := ?_) rfl (by kernel_rfl) (by kernel_rfl) (by kernel_rfl) (fun _ _ _ h => h) (Or.inl ⟨by rfl, ?_⟩) hS ?_
      rotate_left
      · (intro w' hSw; go_simp; try with_reducible rfl)
      simp only [Act.put, List.setIfInBounds_toArray, List.set_cons_zero, List.set_cons_succ]
      refine wpAnyH_take (i := 6) (oi := { dst := some 92, op := _, type := _, pos := _, after := _, guard := _ }) rfl (by kernel_rfl) (by kernel_rfl) (by kernel_rfl) (fun _ _ _ h => h) (yl_cell 46 _ bd 1 rfl agg46 (by rfl) (by rfl) (fun w hw => (show Bk w bd 49 #[.pointer (some ⟨g, 0, none⟩), .pointer (some ⟨h, 0, none⟩)] from hw.out.bk (b := (bd, 49, #[.pointer (some ⟨g, 0, none⟩), .pointer (some ⟨h, 0, none⟩)])) (by simp)).cell 1)) hS ?_
      simp only [Act.put, List.setIfInBounds_toArray, List.set_cons_zero, List.set_cons_succ]
      refine wpAnyH_ready (rs := [4]) (by kernel_rfl) (by simp) ?_
      refine AllReadyH.cons (o := { dst := some 90, op := _, type := _, pos := _, after := _, guard := _ }) rfl (fun K hK => ?_) AllReadyH.nil
      go_simp
      refine HC.out.events.mono ?_
      rintro r7 w7 ⟨v7, rfl, e7, k7⟩
      obtain ⟨A7, c7, rfl⟩ := Own.slice e7
      have E7 := hide e7
      have H8 := hide (HC.out.keep k7)
      clear e7 k7
      refine hK.out _ _ (hide ⟨_, _, H8.out⟩) (fun hS => ?_)
      clear hK K
      refine wpAnyH_ready (rs := [7]) (by kernel_rfl) (by simp) ?_
      refine AllReadyH.cons (o := { dst := some 93, op := _, type := _, pos := _, after := _, guard := _ }) rfl (fun K hK => ?_) AllReadyH.nil
      go_simp
      refine H8.out.revents.mono ?_
      rintro r8 w8 ⟨v8, rfl, e8, k8⟩
      obtain ⟨A8, c8, rfl⟩ := Own.slice e8
      have HEF := hide (And.intro (Own.keep E7.out k8 (by simp)) e8)
      have H9 := hide (H8.out.keep k8)
      clear e8 k8
      refine hK.out _ _ (hide ⟨_, _, H9.out⟩) (fun hS => ?_)
      clear hK K
      refine wpAnyH_ready (rs := [8]) (by kernel_rfl) (by simp) ?_
      refine AllReadyH.cons (o := { dst := some 94, op := _, type := _, pos := _, after := _, guard := _ }) rfl (fun K hK => ?_) AllReadyH.nil
      go_simp
      refine (same_any A7 A8 c7 c8 S.L S.L _ HLS.out HLS.out (Own.src HEF.out.1) (Own.src HEF.out.2)).mono ?_
      rintro r9 w9 ⟨hr, k9⟩
      rw [decide_eq_true rfl] at hr
      subst hr
      have HA := hide (H9.out.keep k9)
      clear k9
      refine hK.out _ _ (hide ⟨_, _, HA.out⟩) (fun hS => ?_)
      clear hK K
      refine wpAnyH_take (i := 9) (oi := { dst := some 95, op := _, type := _, pos := _, after := _, guard := _ }) (v := ?_) rfl (by kernel_rfl) (by kernel_rfl) (by kernel_rfl) (fun _ _ _ h => h) (Or.inl ⟨by rfl, ?_⟩) hS ?_
      rotate_left
      · (intro w' hSw; go_simp; try with_reducible rfl)
      simp only [Act.put, List.setIfInBounds_toArray, List.set_cons_zero, List.set_cons_succ]
      refine wpAnyH_take (i := 10) (oi := { dst := some 2, op := _, type := _, pos := _, after := _, guard := _ }) (v := ?_) rfl (by kernel_rfl) (by kernel_rfl) (by kernel_rfl) (fun _ _ _ h => h) (Or.inl ⟨by rfl, ?_⟩) hS ?_
      rotate_left
      · (intro w' hSw; go_simp; try with_reducible rfl)
      simp only [Act.put, List.setIfInBounds_toArray, List.set_cons_zero, List.set_cons_succ]
      refine wpAnyH_done (by kernel_rfl) ?_ _
      have HF := hide (HK.out.trans' HA.out.keeps)
      clear hS HS H8 H9 HEF E7 HLS HC HA
      go_wp2
      go_ret
      exact ⟨rfl, HF.out⟩
end Go.Proofs.Ytcfglfnncpcfoaa

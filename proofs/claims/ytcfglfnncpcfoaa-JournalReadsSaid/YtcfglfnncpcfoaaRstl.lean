/- The reference's Settle. -/
import Derived.Test.YtcfglfnncpcfoaaStl
namespace Go.Proofs.Ytcfglfnncpcfoaa
open Go.RowKit
/-- append([]Event{}, ..): a new row. -/
theorem fresh_row (w : World) : Own (w.alloc (.cells #[] 27)) 27 18 (.slice (some ⟨w.heap.size, 0, none⟩) 0 0) 0 [] ∧ New w (.slice (some ⟨w.heap.size, 0, none⟩) 0 0) ∧ Keeps [] w (w.alloc (.cells #[] 27)) :=
  ⟨own_of (Bk.new w 27 #[]) rfl (Nat.le_refl _) (by unfold maxLen; omega) rfl rfl, fun g hg => by
    have : w.heap.size = g := by simpa [Value.ownBlock] using hg
    omega, (Keeps.refl [] w).alloc _⟩
theorem ev_time {w : World} {b c n : Nat} {L : List Ev} (h : Own w 27 18 (.slice (some ⟨b, 0, none⟩) n c) n (ecs L)) {k : Nat} (hk : k < L.length) : w.cell? ⟨b, k * 18, none⟩ = some (.int .i64 L[k].t) := by
  have h1 := World.ownsRow.cells h (g := b) rfl _ _ (ecs_at L k hk 0 _ rfl)
  rw [Addr.add_lit, Nat.zero_add] at h1
  exact h1
set_option maxHeartbeats 2000000 in
set_option maxRecDepth 100000 in
theorem rsettle_any (g : Nat) (F : List Nat) (S : Lg) (x : Int) (w : World) (h : IsLg 84 w g F S) (hx1 : -9223372036854775808 ≤ x) (hx2 : x ≤ 9223372036854775807) :
    Calls Try.prog 30 #[.pointer (some ⟨g, 0, none⟩), .int .i64 x] w fun r w' => ∃ v, r = .returned v ∧ Settled 84 w g F S x v w' := by
  have HL := hide h
  obtain ⟨v0, h⟩ := h
  obtain ⟨A, c, rfl⟩ := Own.slice h.own
  have c1 := h.blk.cell 1
  simp at c1
  by_cases hlt : x < S.op
  · have HN := hide (settle_none HL.out hlt)
    by_cases h0 : x < 0
    · have hd : decide (x < 0) = true := by simp [h0]
      clear h hlt
      go_enter Try.func30, Try.ntmps30
      go_wp2
      go_ret
      exact ⟨_, rfl, HN.out⟩
    · have hd : decide (x < 0) = false := by simp; omega
      have hw : IntKind.u64.wrap x = x := by rw [IntKind.wrap_u64]; omega
      have hd2 : decide (x < (S.op : Int)) = true := by simp [hlt]
      clear h
      go_enter Try.func30, Try.ntmps30
      go_wp2
      go_ret
      exact ⟨_, rfl, HN.out⟩
  · have h0 : ¬ x < 0 := by omega
    have hd : decide (x < 0) = false := by simp; omega
    have hw : IntKind.u64.wrap x = x := by rw [IntKind.wrap_u64]; omega
    have hw2 : IntKind.u64.wrap (x + 1) = x + 1 := by rw [IntKind.wrap_u64]; omega
    have hd2 : decide (x < (S.op : Int)) = false := by simp; omega
    have f1 := h.blk.free 1
    have HA := hide h
    have hxn : (((x + 1).toNat : Nat) : Int) = x + 1 := by omega
    have HB := hide (show Bk (w.setCell ⟨g, 1, none⟩ (.int .u64 (x + 1))) g 84 #[.slice A S.L.length c, .int .u64 (((x + 1).toNat : Nat) : Int)] by rw [hxn]; exact h.blk.set 1 _)
    have HK := hide (show Keeps [g] w (w.setCell ⟨g, 1, none⟩ (.int .u64 (x + 1))) from (Keeps.refl _ _).setCell (.inl (by simp)) _)
    have HO := hide (show EO (w.setCell ⟨g, 1, none⟩ (.int .u64 (x + 1))) (.slice A S.L.length c) S.L from Own.keep h.own HK.out (fun b hb hm => h.ne (by simp at hm; subst hm; exact hb)))
    have hlen := h.ok.len
    have hcap := (Own.cap h.own).1
    have hcap2 := (Own.cap h.own).2
    have HM := hide (h.ok.srt.mono_t x)
    obtain ⟨i0, hi, hz0, hz1, hz2⟩ := info_parts Try.info27b
    have HI := hide (And.intro hi (And.intro hz0 (And.intro hz1 hz2)))
    clear h hxn hi hz0 hz1 hz2
    go_enter Try.func30, Try.ntmps30
    go_wp2
    clear c1 f1 hw hw2 hd hd2
    generalize w.setCell ⟨g, 1, none⟩ (.int .u64 (x + 1)) = w1 at HB HK HO ⊢
    have d0 : w1.cell? ⟨g, 0, none⟩ = some (.slice A S.L.length c) := HB.out.cell 0
    go_loop [5] (fun s5 => ∃ k : Nat, k ≤ S.L.length ∧ s5 = .int .i64 k ∧ Hid (∀ m, m < k → (h : m < S.L.length) → decide (S.L[m].t ≤ x) = true)) (fun s5 => S.L.length - (intOf s5).toNat)
    case atStart => exact ⟨0, Nat.zero_le _, rfl, hide (fun m h => by omega)⟩
    case round =>
      obtain ⟨k, hk, rfl, HP⟩ := hrel
      have hk0 : (0 : Int) ≤ (k : Int) := by omega
      by_cases hin : ∃ hkl : k < S.L.length, S.L[k].t ≤ x
      · obtain ⟨hkl, hle⟩ := hin
        have hkz : (k : Int) < (S.L.length : Int) := by omega
        rcases Own.addr HO.out with ⟨_, h2, _⟩ | ⟨b, rfl⟩
        · omega
        have HNX := hide (fun (m : Nat) (hm : m < k + 1) (hml : m < S.L.length) => show decide (S.L[m].t ≤ x) = true from by
          by_cases he : m = k
          · subst he; exact decide_eq_true hle
          · exact HP.out m (by omega) hml)
        have e0 := ev_time HO.out hkl
        have hdd : decide (k < S.L.length) = true := by simp [hkl]
        have hde : decide (S.L[k].t ≤ x) = true := by simp [hle]
        generalize S.L[k].t = t at e0 hle hde
        go_wp2
        go_round
        case measure => simp [intOf]; omega
        case rel => exact ⟨k + 1, by omega, by go_num, HNX⟩
      · have hku : upto S.L x = k := cutN_of _ S.L k (parts_of _ S.L k hk HP.out (fun m hm hml => by
          have hkl : k < S.L.length := by omega
          have hn : ¬ S.L[k].t ≤ x := fun hh => hin ⟨hkl, hh⟩
          by_cases he : m = k
          · subst he; exact decide_eq_false hn
          · cases hq : decide (S.L[m].t ≤ x) with
            | false => rfl
            | true =>
              have := HM.out k m (by omega) hml hkl hq
              exact absurd (of_decide_eq_true this) hn))
        have HKK := hide hku
        have hsplit : (∃ hkl : k < S.L.length, ¬ S.L[k].t ≤ x) ∨ ¬ k < S.L.length := by
          by_cases hkl : k < S.L.length
          · exact .inl ⟨hkl, fun hh => hin ⟨hkl, hh⟩⟩
          · exact .inr hkl
        clear hku hin HP
        have z1 : (k : Int) ≤ (c : Int) := by omega
        have z2 : (k : Int) ≤ (S.L.length : Int) := by omega
        obtain ⟨g1, g2, g3⟩ := fresh_row w1
        have HF := hide (And.intro g1 (And.intro g2 g3))
        have HB1 := hide (HB.out.keep g3 (by simp))
        have HS1 := hide (Src.keep (ES.front (Own.src HO.out) k hk) g3 (by simp))
        have d1 : (w1.alloc (.cells #[] 27)).cell? ⟨g, 0, none⟩ = some (.slice A S.L.length c) := HB1.out.cell 0
        clear g1 g2 g3
        have hlk : (S.L.take k).length = k := by rw [List.length_take]; omega
        have hlk2 : (S.L.drop k).length = S.L.length - k := by rw [List.length_drop]
        have HLK := hide (And.intro hlk hlk2)
        clear hlk hlk2
        rcases hsplit with ⟨hkl, hnt⟩ | hkl
        · rcases Own.addr HO.out with ⟨_, h2, _⟩ | ⟨b, rfl⟩
          · omega
          have e0 := ev_time HO.out hkl
          have e1 := HF.out.2.2.cell e0
          have hdd : decide (k < S.L.length) = true := by simp [hkl]
          have hde : decide (S.L[k].t ≤ x) = false := by simp; omega
          generalize S.L[k].t = t at e0 e1 hnt hde
          have hck : ¬ c = k := by omega
          go_wp2_with (with_reducible refine Halt.append ?_)
          refine Halt.on ?_
          refine wpList_append_src _ rfl _ _ _ rfl 27 i0 _ 18 152 Try.underlying55 HI.out.1 HI.out.2.1 HI.out.2.2.1 HI.out.2.2.2 rfl (by omega) (.slice (some ⟨w1.heap.size, 0, none⟩) 0 0) 0 [] rfl HF.out.1 (.slice (some ⟨b, 0, none⟩) k c) (k) (ecs (S.L.take k)) rfl HS1.out (ecs_one _) (by unfold maxLen; omega) (by omega) ?_
          intro v3 w3 hown hgrow hblk
          obtain ⟨k3, n3⟩ := step_new HF.out.2.2 HF.out.2.1 hgrow hblk
          rw [Nat.zero_add, List.nil_append] at hown
          obtain ⟨A3, c3, rfl⟩ := Own.slice hown
          have HE3 := hide (And.intro hown (And.intro n3 k3))
          have HO3 := hide (Own.keep HO.out k3 (by simp))
          obtain ⟨g1, g2, g3⟩ := fresh_row w3
          have HF3 := hide (And.intro g1 (And.intro g2 g3))
          have HB3 := hide ((HB.out.keep k3 (by simp)).keep g3 (by simp))
          have d3 : (w3.alloc (.cells #[] 27)).cell? ⟨g, 0, none⟩ = some (.slice (some ⟨b, 0, none⟩) S.L.length c) := HB3.out.cell 0
          have d3' : w3.cell? ⟨g, 0, none⟩ = some (.slice (some ⟨b, 0, none⟩) S.L.length c) := (HB.out.keep k3 (by simp)).cell 0
          clear g1 g2 g3 hown hgrow hblk n3 k3 HS1 HF d1 d0
          have HS3 := hide (show Src (w3.alloc (.cells #[] 27)) 18 (.slice (some ⟨b, k * 18, none⟩) (S.L.length - k) (c - k)) (S.L.length - k) (ecs (S.L.drop k)) from by
            have h1 := ES.back (Own.src HO3.out) k
            rw [Addr.add_lit, Nat.zero_add] at h1
            exact Src.keep h1 HF3.out.2.2 (by simp))
          go_wp2_with (with_reducible refine Halt.append ?_)
          refine Halt.on ?_
          refine wpList_append_src _ rfl _ _ _ rfl 27 i0 _ 18 152 Try.underlying55 HI.out.1 HI.out.2.1 HI.out.2.2.1 HI.out.2.2.2 rfl (by omega) (.slice (some ⟨w3.heap.size, 0, none⟩) 0 0) 0 [] rfl HF3.out.1 (.slice (some ⟨b, k * 18, none⟩) (S.L.length - k) (c - k)) (S.L.length - k) (ecs (S.L.drop k)) rfl HS3.out (ecs_one _) (by unfold maxLen; omega) (by omega) ?_
          intro v4 w4 hown hgrow hblk
          obtain ⟨k4, n4⟩ := step_new HF3.out.2.2 HF3.out.2.1 hgrow hblk
          rw [Nat.zero_add, List.nil_append] at hown
          obtain ⟨A4, c4, rfl⟩ := Own.slice hown
          have HR := hide (settled_mk (by decide) HA.out (by omega) hx2 HB.out HK.out (by unfold EO; rw [HKK.out, HLK.out.1]; exact HE3.out.1) HE3.out.2.1 HE3.out.2.2 (by unfold EO; rw [HKK.out, HLK.out.2]; exact hown) n4 k4)
          have d4 : w4.cell? ⟨g, 0, none⟩ = some (.slice (some ⟨b, 0, none⟩) S.L.length c) := ((HB.out.keep HE3.out.2.2 (by simp)).keep k4 (by simp)).cell 0
          have f4 : w4.frozen? ⟨g, 0, none⟩ = false := ((HB.out.keep HE3.out.2.2 (by simp)).keep k4 (by simp)).free 0
          clear hown hgrow hblk k4 n4 HF3 HS3 HB3 d3 d3'
          go_wp2
          go_ret
          exact ⟨_, rfl, HR.out⟩
        · have hdd : decide (k < S.L.length) = false := by simp [hkl]
          by_cases hck : c = k
          · subst hck
            go_wp2_with (with_reducible refine Halt.append ?_)
            refine Halt.on ?_
            refine wpList_append_src _ rfl _ _ _ rfl 27 i0 _ 18 152 Try.underlying55 HI.out.1 HI.out.2.1 HI.out.2.2.1 HI.out.2.2.2 rfl (by omega) (.slice (some ⟨w1.heap.size, 0, none⟩) 0 0) 0 [] rfl HF.out.1 (.slice A c c) (c) (ecs (S.L.take c)) rfl HS1.out (ecs_one _) (by unfold maxLen; omega) (by omega) ?_
            intro v3 w3 hown hgrow hblk
            obtain ⟨k3, n3⟩ := step_new HF.out.2.2 HF.out.2.1 hgrow hblk
            rw [Nat.zero_add, List.nil_append] at hown
            obtain ⟨A3, c3, rfl⟩ := Own.slice hown
            have HE3 := hide (And.intro hown (And.intro n3 k3))
            have HO3 := hide (Own.keep HO.out k3 (by simp))
            obtain ⟨g1, g2, g3⟩ := fresh_row w3
            have HF3 := hide (And.intro g1 (And.intro g2 g3))
            have HB3 := hide ((HB.out.keep k3 (by simp)).keep g3 (by simp))
            have d3 : (w3.alloc (.cells #[] 27)).cell? ⟨g, 0, none⟩ = some (.slice A S.L.length c) := HB3.out.cell 0
            have d3' : w3.cell? ⟨g, 0, none⟩ = some (.slice A S.L.length c) := (HB.out.keep k3 (by simp)).cell 0
            clear g1 g2 g3 hown hgrow hblk n3 k3 HS1 HF d1 d0
            have HS3 := hide (show Src (w3.alloc (.cells #[] 27)) 18 (.slice A 0 0) 0 (ecs (S.L.drop c)) from by rw [show S.L.drop c = [] from List.drop_eq_nil_of_le (by omega)]; exact src_zero _ _ _ _)
            go_wp2_with (with_reducible refine Halt.append ?_)
            refine Halt.on ?_
            refine wpList_append_src _ rfl _ _ _ rfl 27 i0 _ 18 152 Try.underlying55 HI.out.1 HI.out.2.1 HI.out.2.2.1 HI.out.2.2.2 rfl (by omega) (.slice (some ⟨w3.heap.size, 0, none⟩) 0 0) 0 [] rfl HF3.out.1 (.slice A 0 0) (0) (ecs (S.L.drop c)) rfl HS3.out (ecs_one _) (by unfold maxLen; omega) (by omega) ?_
            intro v4 w4 hown hgrow hblk
            obtain ⟨k4, n4⟩ := step_new HF3.out.2.2 HF3.out.2.1 hgrow hblk
            rw [Nat.zero_add, List.nil_append] at hown
            obtain ⟨A4, c4, rfl⟩ := Own.slice hown
            have HR := hide (settled_mk (by decide) HA.out (by omega) hx2 HB.out HK.out (by unfold EO; rw [HKK.out, HLK.out.1]; exact HE3.out.1) HE3.out.2.1 HE3.out.2.2 (by unfold EO; rw [HKK.out, show (S.L.drop c).length = 0 by rw [HLK.out.2]; omega]; exact hown) n4 k4)
            have d4 : w4.cell? ⟨g, 0, none⟩ = some (.slice A S.L.length c) := ((HB.out.keep HE3.out.2.2 (by simp)).keep k4 (by simp)).cell 0
            have f4 : w4.frozen? ⟨g, 0, none⟩ = false := ((HB.out.keep HE3.out.2.2 (by simp)).keep k4 (by simp)).free 0
            clear hown hgrow hblk k4 n4 HF3 HS3 HB3 d3 d3'
            go_wp2
            go_ret
            exact ⟨_, rfl, HR.out⟩
          · rcases Own.addr HO.out with ⟨_, _, h3⟩ | ⟨b, rfl⟩
            · omega
            go_wp2_with (with_reducible refine Halt.append ?_)
            refine Halt.on ?_
            refine wpList_append_src _ rfl _ _ _ rfl 27 i0 _ 18 152 Try.underlying55 HI.out.1 HI.out.2.1 HI.out.2.2.1 HI.out.2.2.2 rfl (by omega) (.slice (some ⟨w1.heap.size, 0, none⟩) 0 0) 0 [] rfl HF.out.1 (.slice (some ⟨b, 0, none⟩) k c) (k) (ecs (S.L.take k)) rfl HS1.out (ecs_one _) (by unfold maxLen; omega) (by omega) ?_
            intro v3 w3 hown hgrow hblk
            obtain ⟨k3, n3⟩ := step_new HF.out.2.2 HF.out.2.1 hgrow hblk
            rw [Nat.zero_add, List.nil_append] at hown
            obtain ⟨A3, c3, rfl⟩ := Own.slice hown
            have HE3 := hide (And.intro hown (And.intro n3 k3))
            have HO3 := hide (Own.keep HO.out k3 (by simp))
            obtain ⟨g1, g2, g3⟩ := fresh_row w3
            have HF3 := hide (And.intro g1 (And.intro g2 g3))
            have HB3 := hide ((HB.out.keep k3 (by simp)).keep g3 (by simp))
            have d3 : (w3.alloc (.cells #[] 27)).cell? ⟨g, 0, none⟩ = some (.slice (some ⟨b, 0, none⟩) S.L.length c) := HB3.out.cell 0
            have d3' : w3.cell? ⟨g, 0, none⟩ = some (.slice (some ⟨b, 0, none⟩) S.L.length c) := (HB.out.keep k3 (by simp)).cell 0
            clear g1 g2 g3 hown hgrow hblk n3 k3 HS1 HF d1 d0
            have HS3 := hide (show Src (w3.alloc (.cells #[] 27)) 18 (.slice (some ⟨b, k * 18, none⟩) (S.L.length - k) (c - k)) (S.L.length - k) (ecs (S.L.drop k)) from by
              have h1 := ES.back (Own.src HO3.out) k
              rw [Addr.add_lit, Nat.zero_add] at h1
              exact Src.keep h1 HF3.out.2.2 (by simp))
            go_wp2_with (with_reducible refine Halt.append ?_)
            refine Halt.on ?_
            refine wpList_append_src _ rfl _ _ _ rfl 27 i0 _ 18 152 Try.underlying55 HI.out.1 HI.out.2.1 HI.out.2.2.1 HI.out.2.2.2 rfl (by omega) (.slice (some ⟨w3.heap.size, 0, none⟩) 0 0) 0 [] rfl HF3.out.1 (.slice (some ⟨b, k * 18, none⟩) (S.L.length - k) (c - k)) (S.L.length - k) (ecs (S.L.drop k)) rfl HS3.out (ecs_one _) (by unfold maxLen; omega) (by omega) ?_
            intro v4 w4 hown hgrow hblk
            obtain ⟨k4, n4⟩ := step_new HF3.out.2.2 HF3.out.2.1 hgrow hblk
            rw [Nat.zero_add, List.nil_append] at hown
            obtain ⟨A4, c4, rfl⟩ := Own.slice hown
            have HR := hide (settled_mk (by decide) HA.out (by omega) hx2 HB.out HK.out (by unfold EO; rw [HKK.out, HLK.out.1]; exact HE3.out.1) HE3.out.2.1 HE3.out.2.2 (by unfold EO; rw [HKK.out, HLK.out.2]; exact hown) n4 k4)
            have d4 : w4.cell? ⟨g, 0, none⟩ = some (.slice (some ⟨b, 0, none⟩) S.L.length c) := ((HB.out.keep HE3.out.2.2 (by simp)).keep k4 (by simp)).cell 0
            have f4 : w4.frozen? ⟨g, 0, none⟩ = false := ((HB.out.keep HE3.out.2.2 (by simp)).keep k4 (by simp)).free 0
            clear hown hgrow hblk k4 n4 HF3 HS3 HB3 d3 d3'
            go_wp2
            go_ret
            exact ⟨_, rfl, HR.out⟩
end Go.Proofs.Ytcfglfnncpcfoaa

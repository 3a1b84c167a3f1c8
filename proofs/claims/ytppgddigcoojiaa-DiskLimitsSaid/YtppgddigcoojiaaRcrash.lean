/- The contract of the reference model's Crash. -/
import Derived.Test.YtppgddigcoojiaaRwrite
namespace Go.Proofs.Ytppgddigcoojiaa
open Go.RowKit

theorem Keeps.cell {w w' : World} (k : Keeps [] w w') {a : Addr} {v : Value} (h : w.cell? a = some v) : w'.cell? a = some v :=
  (World.cell?_of_block (k.block _ (World.block_lt_of_cell? w _ h) (by simp))).trans h
theorem Keeps.cellF {w w' : World} {F : List Nat} (k : Keeps F w w') {a : Addr} {v : Value} (h : w.cell? a = some v) (hn : a.block ∉ F) : w'.cell? a = some v :=
  (World.cell?_of_block (k.block _ (World.block_lt_of_cell? w _ h) hn)).trans h

theorem crash_none : ∀ (k : Nat) (c : List UInt8) (ps : List (Nat × List UInt8)), crashFrom [] k c ps = c
  | _, _, [] => rfl
  | k, c, _ :: ps => crash_none (k + 1) c ps
theorem rcrash_end (w wr : World) (S : DS) (q : List Int) (c : ByteArray) (hcl : c.size ≤ 16777216) (hf : crashL S q = c.data.toList) (_k : Keeps [] w wr) :
    IsRef (wr.alloc (.cells #[.string c, .string c, .slice none 0 0, .int .i64 0, .int .i64 0, .bool false] 66)) wr.heap.size [wr.heap.size] (crashS S q) := by
  refine ⟨c, c, .slice none 0 0, Bk.new _ _ _, by simp, hf.symm, hf.symm, World.ownsRow_nil _ _ _ _, by simp [Value.ownBlock], by simp [In], ?_⟩
  have hl : (crashL S q).length ≤ 16777216 := by rw [hf, sLen]; exact hcl
  exact ⟨hl, hl, by simp [crashS], by simp [crashS], by simp [crashS], by simp [crashS], by simp [crashS]⟩

set_option maxHeartbeats 800000 in
theorem rcrash_any (g : Nat) (F : List Nat) (S : DS) (Aq : Option Addr) (cq : Nat) (q : List Int) (w : World) (hd : IsRef w g F S) (hq : Src w 1 (.slice Aq q.length cq) q.length (iv q)) (hql : q.length ≤ 9223372036854775807) (hqr : ∀ x, x ∈ q → -9223372036854775808 ≤ x ∧ x ≤ 9223372036854775807) :
    Calls Try.prog 24 #[.pointer (some ⟨g, 0, none⟩), .slice Aq q.length cq] w fun e w' => ∃ g' F', e = .returned (.pointer (some ⟨g', 0, none⟩)) ∧ IsRef w' g' F' (crashS S q) ∧ Adds w [] F' ∧ Keeps [] w w' := by
  obtain ⟨bn, by_, vp, hd⟩ := hd
  obtain ⟨Ap, cp, rfl⟩ := hd.pcs.slice
  have c1 := hd.blk.cell 1
  simp at c1
  have hpl := hd.ok.many
  have HD := hide hd
  have HQ := hide hq
  clear hd hq
  go_enter Try.func24, Try.ntmps24
  go_wp2_with fail
  go_loopw [5, 6] (fun v i wr => ∃ (k : Nat) (c : ByteArray), v = .string c ∧ i = .int .i64 k ∧ k ≤ S.pieces.length ∧ c.size ≤ 16777216 ∧
      Hid (crashFrom q k c.data.toList (S.pieces.drop k) = crashL S q ∧ Keeps [] w wr)) (fun _ i _ => S.pieces.length - (intOf i).toNat)
  case atStart =>
    exact ⟨0, by_, rfl, rfl, Nat.zero_le _, by rw [← sLen, HD.out.syn]; exact HD.out.ok.synced, hide ⟨by simp [crashL, HD.out.syn], Keeps.refl _ _⟩⟩
  case round =>
    obtain ⟨k, c, rfl, rfl, hk, hcl, HR⟩ := hrel
    have hd3 := HD.out.keep HR.out.2 (apart_nil F)
    have c2 := hd3.blk.cell 2
    simp at c2
    by_cases hlt : k < S.pieces.length ∧ q ≠ []
    · obtain ⟨hlt, hq0⟩ := hlt
      have hqp : 0 < q.length := List.length_pos_iff.2 hq0
      obtain ⟨bp, cp', hbp, _⟩ := own_form hd3.pcs (by omega)
      injection hbp with hbp _ hcp
      subst hbp hcp
      obtain ⟨hx1, hx2⟩ := rcs_get S.pieces k S.pieces[k] (List.getElem?_eq_getElem hlt)
      have q1 := World.ownsRow.cellAt hd3.pcs (k * 2) (by omega)
      have q2 := World.ownsRow.cellAt hd3.pcs (k * 2 + 1) (by omega)
      rw [hx1] at q1
      rw [hx2] at q2
      have hpo := hd3.ok.pieces S.pieces[k] (List.getElem_mem hlt)
      clear hx1 hx2 hd3
      obtain ⟨qb, qo, hAq, hqc⟩ := (HQ.out.keep HR.out.2 (by simp)).head hqp
      subst hAq
      have hml : k % q.length < q.length := Nat.mod_lt _ hqp
      have hx := hqc (k % q.length) (.int .i64 (q.getD (k % q.length) 0)) (by simp [iv, List.getD, hml])
      have hxr := hqr (q.getD (k % q.length) 0) (by simp [List.getD, hml])
      have hsv : surv q k = ((q.getD (k % q.length) 0).tmod 2 != 0) := by simp [surv, hqp]
      have HSV := hide hsv
      clear hqc hsv hqr hq0
      generalize q.getD (k % q.length) 0 = x at hx hxr HSV
      by_cases hxo : x.tmod 2 = 0
      · go_wp2_with fail
        go_roundw
        case rel => exact ⟨k + 1, c, rfl, by go_num, by omega, hcl, hide ⟨by rw [← HR.out.1, crash_step q k c.data.toList S.pieces hlt, HSV.out, hxo]; rfl, HR.out.2⟩⟩
        case measure => simp [intOf]; omega
      · have hxo' : (x.tmod 2 != 0) = true := by simpa using hxo
        generalize hpk : S.pieces[k] = pk at q1 q2 hpo
        have HPK := hide hpk
        clear hpk
        go_wp2_with fail
        go_region_held3 (fun w' => w'.cell? ⟨g, 2, none⟩ = some (.slice (some ⟨bp, 0, none⟩) S.pieces.length cp) ∧ w'.cell? ⟨bp, k * 2, none⟩ = some (.int .i64 pk.1) ∧ w'.cell? ⟨bp, k * 2 + 1, none⟩ = some (.string (bs pk.2)))
          (first | go_keep | exact ⟨hk5.cell c2, hk5.cell q1, hk5.cell q2⟩)
          (first | (go_at_call 38; refine (rput_any c pk.1 (bs pk.2) _ hcl (by rw [bs_size]; exact hpo)).mono ?_; rintro e w5 ⟨rfl, hk5⟩))
        have HK5 := hide hk5
        clear hk5
        have hpl5 := putL_length c.data.toList pk.1 (bs pk.2).data.toList
        rw [sLen, sLen, bs_size] at hpl5
        have HPL := hide hpl5
        clear hpl5
        go_wp2_with fail
        go_roundw
        case rel => exact ⟨k + 1, bs (putL c.data.toList pk.1 (bs pk.2).data.toList), rfl, by go_num, by omega, by rw [bs_size, HPL.out]; omega, hide ⟨by rw [← HR.out.1, crash_step q k c.data.toList S.pieces hlt, HSV.out, hxo', HPK.out]; rfl, HR.out.2.drew.trans' HK5.out⟩⟩
        case measure => simp [intOf]; omega
    · have hfin : crashL S q = c.data.toList := by
        rw [← HR.out.1]
        by_cases hk' : k < S.pieces.length
        · obtain rfl : q = [] := by
            cases q with
            | nil => rfl
            | cons x q => exact absurd ⟨hk', by simp⟩ hlt
          exact crash_none k c.data.toList (S.pieces.drop k)
        · rw [List.drop_of_length_le (by omega)]; rfl
      have HF := hide hfin
      clear hd3 hfin
      by_cases hk' : k < S.pieces.length
      · obtain rfl : q = [] := by
          cases q with
          | nil => rfl
          | cons x q => exact absurd ⟨hk', by simp⟩ hlt
        clear hlt
        go_wp2_with fail
        go_ret
        exact ⟨wr.heap.size, [wr.heap.size], rfl, rcrash_end w wr S [] c hcl HF.out HR.out.2, fun i hi => .inr (by simp at hi; subst hi; exact HR.out.2.size), HR.out.2.alloc _⟩
      · clear hlt
        go_wp2_with fail
        go_ret
        exact ⟨wr.heap.size, [wr.heap.size], rfl, rcrash_end w wr S q c hcl HF.out HR.out.2, fun i hi => .inr (by simp at hi; subst hi; exact HR.out.2.size), HR.out.2.alloc _⟩
end Go.Proofs.Ytppgddigcoojiaa

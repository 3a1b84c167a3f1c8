/- The walk of DiskReads. -/
import Derived.Test.YtppgddigcoojiaaCrashes
namespace Go.Proofs.Ytppgddigcoojiaa
open Go.RowKit
attribute [local go_sem ↓] Go.wp_at_zero Go.wp_at_succ

theorem read_bs (g : Nat) (F : List Nat) (S : DS) (off n : Int) (w : World) (hd : IsDisk w g F S) (h1 : -9223372036854775808 ≤ off) (h2 : off ≤ 9223372036854775807) (h3 : n ≤ 9223372036854775807) :
    Calls Try.prog 29 #[.pointer (some ⟨g, 0, none⟩), .int .i64 off, .int .i64 n] w fun e w' => e = .returned (.string (bs (readL S.now off n))) ∧ Keeps [] w w' := by
  have e : (⟨(readL S.now off n).toArray⟩ : ByteArray) = bs (readL S.now off n) := by unfold bs; rfl
  rw [← e]
  exact read_any g F S off n w hd h1 h2 h3

set_option maxRecDepth 100000 in
set_option maxHeartbeats 3200000 in
theorem reads_walk (s : ByteArray) (at_ x y : Int) (w : World) (hs : s.size ≤ 140737488355328) (ha1 : -9223372036854775808 ≤ at_) (ha2 : at_ ≤ 9223372036854775807)
    (hx1 : -9223372036854775808 ≤ x) (hx2 : x ≤ 9223372036854775807) (hy1 : -9223372036854775808 ≤ y) (hy2 : y ≤ 9223372036854775807) :
    Calls Try.prog 10 #[.string s, .int .i64 at_, .agg #[.int .i64 x, .int .i64 y]] w fun e w' => e = .returned (.bool true) ∧ Keeps [] w w' := by
  have m0 : 0 ≤ at_ % 8 := Int.emod_nonneg _ (by omega)
  have m1 : at_ % 8 < 8 := Int.emod_lt_of_pos _ (by omega)
  have p0 : 0 ≤ x % 230 := Int.emod_nonneg _ (by omega)
  have p1 : x % 230 < 230 := Int.emod_lt_of_pos _ (by omega)
  have r0 : 0 ≤ y % 20 := Int.emod_nonneg _ (by omega)
  have r1 : y % 20 < 20 := Int.emod_lt_of_pos _ (by omega)
  go_enter Try.func10, Try.ntmps10
  go_wp2_with fail
  have hb0 := Bk.new w 42 #[.int .i64 x, .int .i64 y]
  have hk0 := (Keeps.refl [] w).alloc (.cells #[.int .i64 x, .int .i64 y] 42)
  generalize w.alloc (.cells #[.int .i64 x, .int .i64 y] 42) = w0 at hb0 hk0 ⊢
  generalize w.heap.size = gt at hb0 ⊢
  refine (sanity_any w0).mono ?_
  rintro e w1 ⟨rfl, hk1⟩
  go_wp2_with fail
  refine (new_any w1).mono ?_
  rintro e w2 ⟨rfl, hd2, hk2⟩
  go_wp2_with fail
  refine (rnew_any w2).mono ?_
  rintro e w3 ⟨rfl, hd3, hk3⟩
  have hst := Going.start hd2 hk2 hd3 hk3
  have HK1 := hide (hk0.trans' hk1)
  have HB1 := hide (hb0.keep hk1 (by simp))
  have c0 : (w3.alloc (.cells #[.pointer (some ⟨w1.heap.size, 0, none⟩), .pointer (some ⟨w2.heap.size, 0, none⟩)] 30)).cell? ⟨w3.heap.size, 0, none⟩ = some (.pointer (some ⟨w1.heap.size, 0, none⟩)) := by simp
  have HST := hide hst
  clear hk1 hd2 hk2 hd3 hk3 hst hb0 hk0
  go_wp2_with fail
  generalize hw4 : w3.alloc (.cells #[.pointer (some ⟨w1.heap.size, 0, none⟩), .pointer (some ⟨w2.heap.size, 0, none⟩)] 30) = w4 at HST c0 ⊢
  generalize w3.heap.size = gx at HST ⊢
  clear hw4 c0
  refine (mod_any at_ 8 _ (by omega) (by omega) ha1 ha2).mono ?_
  rintro e w5 ⟨rfl, rfl⟩
  have hact := HST.out.act (Keeps.refl [] w4) ⟨0, 1 + at_ % 8, 0, s⟩ ⟨by simp only; omega, by simp only; omega, by simp only; omega, by simp only; omega, by simp only; omega, by simp only; omega, hs⟩ (by omega)
  have HA := hide hact
  clear hact
  unfold ActD.val at HA
  go_wp2_with fail
  refine HA.out.mono ?_
  rintro e w5 ⟨rfl, hG5⟩
  obtain ⟨gd, gm, Fd, Fm, S, M, hx, hs, hc, hp, hA, hK⟩ := hG5
  have b5 := HB1.out.keep hK (by simp)
  rw [hs.eq] at hx
  have HK5 := hide (HK1.out.trans' hK)
  have c0 := hx.blk.cell 0
  have c1 := hx.blk.cell 1
  have c2 := b5.cell 0
  have c3 := b5.cell 1
  simp at c0 c1 c2 c3
  have HX := hide hx
  clear hx hs hc hp hA hK HA HST b5
  have hW : Keeps [] w5 w5.drew := (Keeps.refl _ _).drew
  go_wp2_with fail
  refine (mod_any x 230 _ (by omega) (by omega) hx1 hx2).mono ?_
  rintro e w6 ⟨rfl, rfl⟩
  go_wp2_with fail
  simp only [List.append]
  go_region_held3 (fun w' => w'.cell? ⟨gx, 0, none⟩ = some (.pointer (some ⟨gd, 0, none⟩)) ∧ w'.cell? ⟨gx, 1, none⟩ = some (.pointer (some ⟨gm, 0, none⟩)) ∧ w'.cell? ⟨gt, 0, none⟩ = some (.int .i64 x) ∧ w'.cell? ⟨gt, 1, none⟩ = some (.int .i64 y))
    (first
      | go_keep
      | (go_split_ands; exact ⟨hkq.cell (by assumption), hkq.cell (by assumption), hkq.cell (by assumption), hkq.cell (by assumption)⟩))
    (first
      | (go_at_call 22; refine (mod_any _ _ _ (by omega) (by omega) (by omega) (by omega)).mono ?_; rintro e w2 ⟨rfl, rfl⟩)
      | (go_at_call 29; refine (read_bs gd Fd S _ _ _ (by exact HX.out.d.keep hW (apart_nil _)) (by omega) (by omega) (by omega)).mono ?_; rintro e w2 ⟨rfl, hkq⟩; have hW := hW.trans' hkq)
      | (go_at_call 31; refine (rread_any gm Fm _ _ _ _ (by exact HX.out.m.keep hW (apart_nil _)) (by omega)).mono ?_; rintro e w2 ⟨rfl, hkq⟩; have hW := hW.trans' hkq))
  have HW := hide hW
  clear hW hkq
  go_wp2_with fail
  go_ret
  refine ⟨?_, HK5.out.trans' HW.out⟩
  rfl
end Go.Proofs.Ytppgddigcoojiaa

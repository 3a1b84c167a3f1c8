/- The law's 'same' and 'sanity'. -/
import Derived.Test.YtppgddigcoojiaaDo
namespace Go.Proofs.Ytppgddigcoojiaa
open Go.RowKit
attribute [local go_sem ↓] Go.wp_at_zero Go.wp_at_succ

theorem Sim.eq {S M : DS} (h : Sim S M) : M = { S with left := M.left } := by
  obtain ⟨a, b, c, d, e, f⟩ := h
  cases S; cases M
  simp only at a b c d e
  subst a b c d e
  rfl

set_option maxHeartbeats 1600000 in
theorem same_any (gx gd gm : Nat) (Fd Fm : List Nat) (S M : DS) (w : World) (hx : DeskAt w gx gd gm Fd Fm S M) (hs : Sim S M) :
    Calls Try.prog 21 #[.pointer (some ⟨gx, 0, none⟩)] w fun e w' => e = .returned (.bool true) ∧ Keeps [] w w' := by
  have c0 := hx.blk.cell 0
  have c1 := hx.blk.cell 1
  simp at c0 c1
  rw [hs.eq] at hx
  have hW : Keeps [] w w.drew := (Keeps.refl _ _).drew
  have HX := hide hx
  clear hx hs
  go_enter Try.func21, Try.ntmps21
  go_wp2_with fail
  go_region_held3 (fun w' => w'.cell? ⟨gx, 0, none⟩ = some (.pointer (some ⟨gd, 0, none⟩)) ∧ w'.cell? ⟨gx, 1, none⟩ = some (.pointer (some ⟨gm, 0, none⟩)))
    (first
      | go_keep
      | (go_split_ands; exact ⟨hkq.cell (by assumption), hkq.cell (by assumption)⟩))
    (first
      | (go_at_call 17; refine (size_any gd Fd S _ (by exact HX.out.d.keep hW (apart_nil _))).mono ?_; rintro e w2 ⟨rfl, rfl⟩)
      | (go_at_call 18; refine (rsize_any gm Fm _ _ (by exact HX.out.m.keep hW (apart_nil _))).mono ?_; rintro e w2 ⟨rfl, rfl⟩)
      | (go_at_call 19; refine (calls_any gd Fd S _ (by exact HX.out.d.keep hW (apart_nil _))).mono ?_; rintro e w2 ⟨rfl, rfl⟩)
      | (go_at_call 20; refine (rcalls_any gm Fm _ _ (by exact HX.out.m.keep hW (apart_nil _))).mono ?_; rintro e w2 ⟨rfl, rfl⟩)
      | (go_at_call 29; refine (read_any gd Fd S 0 33554432 _ (by exact HX.out.d.keep hW (apart_nil _)) (by omega) (by omega) (by omega)).mono ?_; rintro e w2 ⟨rfl, hkq⟩; have hW := hW.trans' hkq)
      | (go_at_call 31; refine (rread_any gm Fm _ 0 33554432 _ (by exact HX.out.m.keep hW (apart_nil _)) (by omega)).mono ?_; rintro e w2 ⟨rfl, hkq⟩; have hW := hW.trans' hkq))
  have HW := hide hW
  clear hW hkq
  go_wp2_with fail
  go_ret
  refine ⟨?_, HW.out⟩
  show Ending.returned (.bool (readL S.now 0 33554432 == (bs (readL S.now 0 33554432)).toList)) = _
  rw [bs_toList]
  simp
end Go.Proofs.Ytppgddigcoojiaa

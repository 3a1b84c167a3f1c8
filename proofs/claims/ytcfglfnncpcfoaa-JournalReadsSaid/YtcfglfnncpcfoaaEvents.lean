/- The walk of JournalEvents. -/
import Derived.Test.YtcfglfnncpcfoaaRevt
import Derived.Test.YtcfglfnncpcfoaaEqv
import Derived.Test.YtcfglfnncpcfoaaOpen
namespace Go.Proofs.Ytcfglfnncpcfoaa
open Go.RowKit
theorem Halt.eq {P : Program} {ops : Array Oper} {rest : List Oper} {a : Act} {w : World} {Q : Exit → Act → World → Prop} {dst : Option Tmp} {ty : TypeId} {pos : String} {gd : Option (Nat × Bool)} {t tt : TypeId} {x y : Operand} {after : _}
    (h : Halt (wpList P ops Q ({ dst := dst, op := .binOp .eql t x y tt, type := ty, pos := pos, after := after, guard := gd } :: rest) a w)) :
    wpList P ops Q ({ dst := dst, op := .binOp .eql t x y tt, type := ty, pos := pos, after := after, guard := gd } :: rest) a w := h
theorem wpList_eq_evG {ops : Array Oper} {rest : List Oper} {o : Oper} {a : Act} {w : World} {Q : Exit → Act → World → Prop} {tt : TypeId} (hw : Region.wanted o (yielded ops a.tmps) = true) (p q : Operand) (x y : Ev) (ho : o.op = .binOp .eql 27 p q tt) (hp : a.eval p = ev x) (hq : a.eval q = ev y)
    (hk : wpList Try.prog ops Q rest (a.put o.dst (.bool (decide (x = y)))) w) : wpList Try.prog ops Q (o :: rest) a w :=
  wpList_step fun _ hK => by
    rw [if_pos hw]
    unfold Oper.wp
    rw [exec_bin ho hp hq (guard_ev p q x y w _) (run_eq_ev x y w)]
    exact hK _ _ hk
set_option maxHeartbeats 4000000 in
set_option maxRecDepth 100000 in
theorem events_walk (e : Ev) (w : World) (H : e.came) : Calls Try.prog 3 #[ev e] w fun r w' => r = .returned (.bool true) ∧ Keeps [] w w' := by
  have HE := hide H
  have HB := hide (Bk.new w 27 (ec e).toArray)
  have HK := hide ((Keeps.refl [] w).alloc (.cells (ec e).toArray 27))
  clear H
  unfold ev
  go_enter Try.func3, Try.ntmps3
  go_wp2_with fail
  generalize w.alloc (.cells (ec e).toArray 27) = w0 at HB HK ⊢
  generalize w.heap.size = bx at HB ⊢
  refine (sanity_any w0).mono ?_
  rintro r w1 ⟨rfl, k1⟩
  replace HB := hide (HB.out.keep k1 (by simp))
  replace HK := hide (HK.out.trans' k1)
  clear k1
  go_wp2_with (with_reducible refine Halt.load (t := 27) ?_)
  refine Halt.on ?_
  refine wpList_load_ev rfl _ rfl bx 0 e rfl (EvAt.box HB.out) ?_
  go_wp2_with fail
  refine (event_any e w1 HE.out.fits HE.out.x).mono ?_
  rintro r w2 ⟨rfl, k2⟩
  replace HB := hide (HB.out.keep k2 (by simp))
  replace HK := hide (HK.out.trans' k2)
  clear k2
  go_wp2_with fail
  refine (read_event_any (evB e) w2 (fine_event e HE.out.x HE.out.fits)).mono ?_
  rintro r w3 ⟨rfl, k3⟩
  rw [readE_event e HE.out.x HE.out.fits]
  replace HB := hide (HB.out.keep k3 (by simp))
  replace HK := hide (HK.out.trans' k3)
  clear k3
  go_wp2_with (with_reducible refine Halt.store (t := 27) ?_)
  refine Halt.on ?_
  change wpList _ _ _ _ _ (w3.alloc (.cells (ec z0).toArray 27))
  refine wpList_store_ev rfl _ _ rfl w3.heap.size e rfl rfl 27 _ (Bk.new w3 27 _) rfl ?_
  simp only [Act.put]
  have K1 : Keeps [w3.heap.size] w3 ((w3.alloc (.cells (ec z0).toArray 27)).setRow w3.heap.size (ec e).toArray) := ((Keeps.refl [w3.heap.size] w3).alloc _).setRow (g := w3.heap.size) (.inl (by simp)) _
  have HF := hide (row_bk (Bk.new w3 27 (ec z0).toArray) (ec e).toArray)
  have hbn : bx ≠ w3.heap.size := by have := HB.out.lt; omega
  replace HB := hide (HB.out.keep K1 (by simpa using hbn))
  replace HK := hide (HK.out.trans K1 (fun i hi => .inr (by simp at hi; subst hi; exact HK.out.size)))
  clear hbn K1
  generalize (w3.alloc (.cells (ec z0).toArray 27)).setRow w3.heap.size (ec e).toArray = w4 at HB HF HK ⊢
  generalize w3.heap.size = bf at HF ⊢
  go_wp2_with (with_reducible refine Halt.load (t := 27) ?_)
  refine Halt.on ?_
  refine wpList_load_evG (by rfl) _ rfl bx 0 e rfl (EvAt.box HB.out) ?_
  go_wp2_with fail
  refine (revent_any e w4 HE.out.fits HE.out.x).mono ?_
  rintro r w5 ⟨rfl, k5⟩
  replace HB := hide (HB.out.keep k5 (by simp))
  replace HF := hide (HF.out.keep k5 (by simp))
  replace HK := hide (HK.out.trans' k5)
  clear k5
  go_wp2_with (with_reducible refine Halt.load (t := 27) ?_)
  refine Halt.on ?_
  refine wpList_load_evG (by rfl) _ rfl bf 0 e rfl (EvAt.box HF.out) ?_
  go_wp2_with (with_reducible refine Halt.load (t := 27) ?_)
  refine Halt.on ?_
  refine wpList_load_evG (by rfl) _ rfl bx 0 e rfl (EvAt.box HB.out) ?_
  go_wp2_with (with_reducible refine Halt.eq (t := 27) ?_)
  refine Halt.on ?_
  refine wpList_eq_evG (by rfl) _ _ e e rfl rfl rfl ?_
  rw [decide_eq_true rfl]
  go_wp2
  go_ret
  exact ⟨rfl, HK.out⟩
end Go.Proofs.Ytcfglfnncpcfoaa

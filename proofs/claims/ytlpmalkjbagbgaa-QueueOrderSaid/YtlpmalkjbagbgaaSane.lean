/- The examples of the document: sanity returns true. -/
import Derived.Test.YtlpmalkjbagbgaaForw
namespace Go.Proofs.Ytlpmalkjbagbgaa
open Go.RowKit Go.Shelf
def x1 : Hold := ⟨1, 0, 0, 1, 5, 0, 0, 30, 0, 0⟩
def x2 : Hold := ⟨2, 0, 7, 0, 0, 0, 0, 10, 0, 0⟩
def x3 : Hold := ⟨3, 0, 0, 2, 2, 0, 100, 20, 0, 0⟩
def x0 : Hold := ⟨3, 0, 0, 0, 0, 0, 0, 0, 0, 0⟩
def tt : List Sm := [⟨2, 2, 1, 5⟩, ⟨1, 5, 1, 5⟩]
structure San (w W : World) (H tb : Nat) (v : Value) : Prop where
  k : Keeps [] w W
  a : Bk W H 24 #[.int .i64 1, .int .i64 5]
  b : Bk W (H + 1) 24 #[.int .i64 2, .int .i64 2]
  l : HO W v [x2, x3, x1]
  t : TS W (.slice (some ⟨tb, 0, none⟩) 2 2) tt
theorem San.keep {w W W' : World} {H tb : Nat} {v : Value} (h : San w W H tb v) (hk : Keeps [] W W') : San w W' H tb v :=
  ⟨h.k.trans' hk, h.a.keep hk (by simp), h.b.keep hk (by simp), Own.keep h.l hk (by simp), Src.keep h.t hk (by simp)⟩
theorem ids_true (A : Option Addr) (c : Nat) (L : List Hold) (M : List Int) (w : World) (hL : L.length ≤ 64) (hs : HS w (.slice A L.length c) L) (he : L.map (·.id) = M) (n : Nat) (hn : M.length = n) (cs : Array Value) (hcs : cs.toList = M.map (Value.int .i64)) :
    Calls Try.prog 25 #[.slice A L.length c, .slice (some ⟨w.heap.size, 0, none⟩) n n] (w.alloc (.cells cs 3)) fun e w' => e = .returned (.bool true) ∧ Keeps [] w w' := by
  subst hn
  refine (ids_any A c L w.heap.size M _ hL (Src.keep hs ((Keeps.refl [] w).alloc _) (by simp)) (fun j u hu => ?_)).mono ?_
  · rw [Bk.cell (Bk.new w 3 cs), ← Array.getElem?_toList, hcs, List.getElem?_map, hu]; rfl
  · rintro e w' ⟨rfl, hk⟩
    exact ⟨by rw [decide_eq_true he], ((Keeps.refl [] w).alloc _).trans' hk⟩
set_option maxHeartbeats 4000000 in
theorem sanity_any (w : World) : Calls Try.prog 10 #[] w fun e w' => e = .returned (.bool true) ∧ Keeps [] w w' := by
  go_enter Try.func10, Try.ntmps10
  go_wp2_with fail
  let W0 : World := ((w.alloc (.cells #[.int .i64 1, .int .i64 5] 24)).alloc (.cells #[.int .i64 2, .int .i64 2] 24)).alloc (.cells (hcs [x1, x2, x3]).toArray 28)
  have hK : Keeps [] w W0 := (((Keeps.refl [] w).alloc _).alloc _).alloc _
  have hA : Bk W0 w.heap.size 24 #[.int .i64 1, .int .i64 5] := ((Bk.new w 24 _).alloc _).alloc _
  have hB : Bk W0 (w.heap.size + 1) 24 #[.int .i64 2, .int .i64 2] := by
    have := (Bk.new (w.alloc (.cells #[.int .i64 1, .int .i64 5] 24)) 24 #[.int .i64 2, .int .i64 2]).alloc (.cells (hcs [x1, x2, x3]).toArray 28)
    simpa [W0] using this
  have hS : HS W0 (.slice (some ⟨w.heap.size + 1 + 1, 0, none⟩) 3 3) [x1, x2, x3] :=
    Src.built ((w.alloc (.cells #[.int .i64 1, .int .i64 5] 24)).alloc (.cells #[.int .i64 2, .int .i64 2] 24)) 28 (hcs [x1, x2, x3]).toArray 10 3 rfl _ (by simp)
  change Calls _ _ _ W0 _
  generalize W0 = w0 at hK hA hB hS ⊢
  refine (put_list _ 3 [x1, x2, x3] w0 (by simp) (by simp) hS (by simp)).mono ?_
  rintro e w1 ⟨v1, rfl, ho1, hn1, k1⟩
  have hq : que [x1, x2, x3] = [x2, x3, x1] := by decide +kernel
  rw [hq] at ho1
  obtain ⟨A1, c1, hv1, hlc, hc1⟩ := HO.form ho1
  subst hv1
  have hnil := HO.none ho1
  have HA := hide (hA.keep k1 (by simp))
  have HB := hide (hB.keep k1 (by simp))
  have HO1 := hide ho1
  have HK1 := hide (hK.trans' k1)
  have a0 := HA.out.cell 0
  have a1 := HA.out.cell 1
  have b0 := HB.out.cell 0
  have b1 := HB.out.cell 1
  simp at a0 a1 b0 b1
  clear hK hA hB hS ho1 hn1 k1 hq
  have HN := hide hnil
  clear hnil
  go_wp2_with fail
  have HT2 := hide (show San w (w1.alloc (.cells (scs tt).toArray 54)) w.heap.size w1.heap.size (.slice A1 3 c1) from
    ⟨HK1.out.alloc _, HA.out.alloc _, HB.out.alloc _, Own.alloc HO1.out _, Src.built w1 54 (scs tt).toArray 4 2 rfl _ rfl⟩)
  change Calls _ _ _ (w1.alloc (.cells (scs tt).toArray 54)) _
  generalize w1.alloc (.cells (scs tt).toArray 54) = w2 at HT2 ⊢
  generalize w1.heap.size = tb at HT2 ⊢
  clear a0 a1 b0 b1 HO1 HA HB HK1
  refine (put_any A1 c1 [x2, x3, x1] x0 w2 (by simp) (HO.hs HT2.out.l) hlc hc1 HN.out).mono ?_
  rintro e w3 ⟨v3, rfl, ho3, hn3, k3⟩
  rw [show putE [x2, x3, x1] x0 = 22 by decide +kernel]
  have hput := ho3
  obtain ⟨Ap, cp, hvp, _, _⟩ := HO.form hput
  subst hvp
  have S3 := hide (HT2.out.keep k3)
  clear ho3 hn3 k3 hput HT2
  have a0 := S3.out.a.cell 0
  have a1 := S3.out.a.cell 1
  have b0 := S3.out.b.cell 0
  have b1 := S3.out.b.cell 1
  simp at a0 a1 b0 b1
  go_wp2_with fail
  clear a0 a1 b0 b1
  refine (ids_true A1 c1 [x2, x3, x1] [2, 3, 1] w3 (by decide) (HO.hs S3.out.l) (by decide +kernel) _ rfl _ rfl).mono ?_
  rintro e w4 ⟨rfl, k4⟩
  have S4 := hide (S3.out.keep k4)
  clear k4 S3
  have a0 := S4.out.a.cell 0
  have a1 := S4.out.a.cell 1
  have b0 := S4.out.b.cell 0
  have b1 := S4.out.b.cell 1
  simp at a0 a1 b0 b1
  go_wp2_with fail
  clear a0 a1 b0 b1
  refine (active_any A1 c1 [x2, x3, x1] 50 w4 (by decide) (HO.hs S4.out.l)).mono ?_
  rintro e w5 ⟨v5, rfl, ho5, hn5, k5⟩
  have hf5 : [x2, x3, x1].filter (act 50) = [x2, x1] := by decide +kernel
  rw [hf5] at ho5
  obtain ⟨A5, c5, hv5, _, _⟩ := HO.form ho5
  subst hv5
  have S5 := hide (S4.out.keep k5)
  have HO5 := hide ho5
  clear k5 S4 ho5 hn5 hf5
  have a0 := S5.out.a.cell 0
  have a1 := S5.out.a.cell 1
  have b0 := S5.out.b.cell 0
  have b1 := S5.out.b.cell 1
  simp at a0 a1 b0 b1
  go_wp2_with fail
  clear a0 a1 b0 b1
  refine (ids_true A5 c5 [x2, x1] [2, 1] w5 (by decide) (HO.hs HO5.out) (by decide +kernel) _ rfl _ rfl).mono ?_
  rintro e w6 ⟨rfl, k6⟩
  have S6 := hide (S5.out.keep k6)
  clear k6 S5
  have a0 := S6.out.a.cell 0
  have a1 := S6.out.a.cell 1
  have b0 := S6.out.b.cell 0
  have b1 := S6.out.b.cell 1
  simp at a0 a1 b0 b1
  go_wp2_with fail
  clear a0 a1 b0 b1
  refine (active_any A1 c1 [x2, x3, x1] 100 w6 (by decide) (HO.hs S6.out.l)).mono ?_
  rintro e w7 ⟨v7, rfl, ho7, hn7, k7⟩
  have hf7 : [x2, x3, x1].filter (act 100) = [x2, x3, x1] := by decide +kernel
  rw [hf7] at ho7
  obtain ⟨A7, c7, hv7, _, _⟩ := HO.form ho7
  subst hv7
  have S7 := hide (S6.out.keep k7)
  have HO7 := hide ho7
  clear k7 S6 ho7 hn7 hf7
  have a0 := S7.out.a.cell 0
  have a1 := S7.out.a.cell 1
  have b0 := S7.out.b.cell 0
  have b1 := S7.out.b.cell 1
  simp at a0 a1 b0 b1
  go_wp2_with fail
  clear a0 a1 b0 b1
  refine (ids_true A7 c7 [x2, x3, x1] [2, 3, 1] w7 (by decide) (HO.hs HO7.out) (by decide +kernel) _ rfl _ rfl).mono ?_
  rintro e w8 ⟨rfl, k8⟩
  have S8 := hide (S7.out.keep k8)
  clear k8 S7
  have a0 := S8.out.a.cell 0
  have a1 := S8.out.a.cell 1
  have b0 := S8.out.b.cell 0
  have b1 := S8.out.b.cell 1
  simp at a0 a1 b0 b1
  go_wp2_with fail
  clear a0 a1 b0 b1
  refine (for_any A1 c1 [x2, x3, x1] 7 1 5 (some ⟨tb, 0, none⟩) 2 tt 100 w8 (by decide) (by decide) (HO.hs S8.out.l) S8.out.t).mono ?_
  rintro e w9 ⟨v9, rfl, ho9, hn9, k9⟩
  have hf9 : forL [x2, x3, x1] 7 1 5 tt 100 = [x2, x3, x1] := by decide +kernel
  rw [hf9] at ho9
  obtain ⟨A9, c9, hv9, _, _⟩ := HO.form ho9
  subst hv9
  have S9 := hide (S8.out.keep k9)
  have HO9 := hide ho9
  clear k9 S8 ho9 hn9 hf9
  have a0 := S9.out.a.cell 0
  have a1 := S9.out.a.cell 1
  have b0 := S9.out.b.cell 0
  have b1 := S9.out.b.cell 1
  simp at a0 a1 b0 b1
  go_wp2_with fail
  clear a0 a1 b0 b1
  refine (ids_true A9 c9 [x2, x3, x1] [2, 3, 1] w9 (by decide) (HO.hs HO9.out) (by decide +kernel) _ rfl _ rfl).mono ?_
  rintro e w10 ⟨rfl, k10⟩
  have S10 := hide (S9.out.keep k10)
  clear k10 S9
  have a0 := S10.out.a.cell 0
  have a1 := S10.out.a.cell 1
  have b0 := S10.out.b.cell 0
  have b1 := S10.out.b.cell 1
  simp at a0 a1 b0 b1
  go_wp2_with fail
  clear a0 a1 b0 b1
  refine (for_any A1 c1 [x2, x3, x1] 8 2 2 (some ⟨tb, 0, none⟩) 2 tt 50 w10 (by decide) (by decide) (HO.hs S10.out.l) S10.out.t).mono ?_
  rintro e w11 ⟨v11, rfl, ho11, hn11, k11⟩
  have hf11 : forL [x2, x3, x1] 8 2 2 tt 50 = [x1] := by decide +kernel
  rw [hf11] at ho11
  obtain ⟨A11, c11, hv11, _, _⟩ := HO.form ho11
  subst hv11
  have S11 := hide (S10.out.keep k11)
  have HO11 := hide ho11
  clear k11 S10 ho11 hn11 hf11
  have a0 := S11.out.a.cell 0
  have a1 := S11.out.a.cell 1
  have b0 := S11.out.b.cell 0
  have b1 := S11.out.b.cell 1
  simp at a0 a1 b0 b1
  go_wp2_with fail
  clear a0 a1 b0 b1
  refine (ids_true A11 c11 [x1] [1] w11 (by decide) (HO.hs HO11.out) (by decide +kernel) _ rfl _ rfl).mono ?_
  rintro e w12 ⟨rfl, k12⟩
  have S12 := hide (S11.out.keep k12)
  clear k12 S11
  have a0 := S12.out.a.cell 0
  have a1 := S12.out.a.cell 1
  have b0 := S12.out.b.cell 0
  have b1 := S12.out.b.cell 1
  simp at a0 a1 b0 b1
  go_wp2_with fail
  clear a0 a1 b0 b1
  refine (for_any A1 c1 [x2, x3, x1] 8 2 2 none 0 [] 100 w12 (by decide) (by decide) (HO.hs S12.out.l) (src_nil w12 4 0)).mono ?_
  rintro e w13 ⟨v13, rfl, ho13, hn13, k13⟩
  have hf13 : forL [x2, x3, x1] 8 2 2 [] 100 = [x3] := by decide +kernel
  rw [hf13] at ho13
  obtain ⟨A13, c13, hv13, _, _⟩ := HO.form ho13
  subst hv13
  have S13 := hide (S12.out.keep k13)
  have HO13 := hide ho13
  clear k13 S12 ho13 hn13 hf13
  have a0 := S13.out.a.cell 0
  have a1 := S13.out.a.cell 1
  have b0 := S13.out.b.cell 0
  have b1 := S13.out.b.cell 1
  simp at a0 a1 b0 b1
  go_wp2_with fail
  clear a0 a1 b0 b1
  refine (ids_true A13 c13 [x3] [3] w13 (by decide) (HO.hs HO13.out) (by decide +kernel) _ rfl _ rfl).mono ?_
  rintro e w14 ⟨rfl, k14⟩
  have S14 := hide (S13.out.keep k14)
  clear k14 S13
  go_wp2
  go_ret
  exact ⟨rfl, S14.out.k⟩
end Go.Proofs.Ytlpmalkjbagbgaa

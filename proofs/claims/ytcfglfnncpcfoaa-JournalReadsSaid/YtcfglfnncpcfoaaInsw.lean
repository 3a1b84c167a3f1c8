/- slices.Insert of one event: its three roads. -/
import Derived.Test.YtcfglfnncpcfoaaIns
namespace Go.Proofs.Ytcfglfnncpcfoaa
open Go.RowKit
theorem Try.info27b : (Try.prog.info? 27).map (fun i => (i.zero, i.size, i.bytes)) = some (some (evl ⟨0, 0, 0, 0, 0, 0, 0, 0, 0, 0, 0, 0, 0, 0, 0, 0, 0, ⟨#[]⟩⟩), 18, 152) := by kernel_rfl
/-- With the event at place i. -/
def insL (L : List Ev) (i : Nat) (e : Ev) : List Ev := L.take i ++ e :: L.drop i
theorem insL_length (L : List Ev) (i : Nat) (e : Ev) (h : i ≤ L.length) : (insL L i e).length = L.length + 1 := by
  unfold insL
  rw [List.length_append, List.length_cons, List.length_take, List.length_drop]; omega
theorem insL_cells (L : List Ev) (i : Nat) (e : Ev) : ecs (insL L i e) = ecs (L.take i) ++ (ec e ++ ecs (L.drop i)) := by
  unfold insL
  rw [ecs_append]
  rfl
theorem insL_end (L : List Ev) (e : Ev) : insL L L.length e = L ++ [e] := by simp [insL]
theorem box_src {w : World} {bx : Nat} {e : Ev} (hb : Bk w bx 27 (ec e).toArray) : Src w 18 (.slice (some ⟨bx, 0, none⟩) 1 1) 1 (ec e) := by
  refine ⟨rfl, _, _, rfl, fun h => by (cases h), fun ad had j u hu => ?_⟩
  injection had with had
  subst had
  rw [Addr.add_lit, Nat.zero_add, hb.cell j]
  simpa using hu
/-- What an Insert leaves. -/
def Insd (w : World) (A : Option Addr) (c : Nat) (L : List Ev) (i : Nat) (e : Ev) (v : Value) (w' : World) : Prop :=
  Own w' 27 18 v (L.length + 1) (ecs (insL L i e)) ∧ (v.ownBlock = (Value.slice A L.length c).ownBlock ∨ v.ownBlock = some w.heap.size) ∧ Keeps (Value.slice A L.length c).ownBlock.toList w w'
set_option maxHeartbeats 1000000 in
set_option maxRecDepth 100000 in
theorem ins_end (A : Option Addr) (c : Nat) (L : List Ev) (e : Ev) (bx : Nat) (w : World) (hb : Bk w bx 27 (ec e).toArray) (ho : Own w 27 18 (.slice A L.length c) L.length (ecs L)) (hL : L.length ≤ 100000) :
    Calls Try.prog 48 #[.slice A L.length c, .int .i64 (L.length : Int), .slice (some ⟨bx, 0, none⟩) 1 1] w fun r w' => ∃ v, r = .returned v ∧ Insd w A c L L.length e v w' := by
  obtain ⟨i0, hi, hz0, hz1, hz2⟩ := info_parts Try.info27b
  have HI := hide (And.intro hi (And.intro hz0 (And.intro hz1 hz2)))
  have hcap := (Own.cap ho).1
  have hcap2 := (Own.cap ho).2
  have HO := hide ho
  have HB := hide (box_src hb)
  have HE := hide (show Own w 27 18 (.slice A L.length c) L.length (ecs L) ∧ (A = none → c = 0) from ⟨ho, fun h => by
    rcases Own.addr ho with ⟨_, _, h3⟩ | ⟨b, h3⟩
    · exact h3
    · rw [h] at h3; cases h3⟩)
  rcases Own.addr ho with ⟨rfl, hn, rfl⟩ | ⟨b, rfl⟩
  · have hl0 : L = [] := List.eq_nil_of_length_eq_zero hn
    subst hl0
    clear hn hi hz0 hz1 hz2 hb ho HE hcap hcap2
    go_enter Try.func48, Try.ntmps48
    go_wp2_with (with_reducible refine Halt.append ?_)
    refine Halt.on ?_
    refine wpList_append_src _ rfl _ _ _ rfl 27 i0 _ 18 152 Try.underlying55 HI.out.1 HI.out.2.1 HI.out.2.2.1 HI.out.2.2.2 rfl (by omega) (.slice none 0 0) 0 _ rfl HO.out (.slice (some ⟨bx, 0, none⟩) 1 1) 1 (ec e) rfl HB.out (ec_one e) (by unfold maxLen; omega) (by omega) ?_
    intro v w2 hown hgrow hblk
    have HR := hide (show Insd w none 0 [] 0 e v w2 from ⟨hown, hblk, Keeps.of_grown hgrow (fun k hk => by simp [Value.ownBlock] at hk)⟩)
    clear hown hgrow hblk
    go_wp2
    go_ret
    exact ⟨_, rfl, HR.out⟩
  · clear hi hz0 hz1 hz2 hb ho HE
    have z0 : (0 : Int) ≤ (L.length : Int) := by omega
    have z1 : (L.length : Int) ≤ (c : Int) := by omega
    by_cases hc : c = L.length
    · subst hc
      go_enter Try.func48, Try.ntmps48
      go_wp2_with (with_reducible refine Halt.append ?_)
      refine Halt.on ?_
      refine wpList_append_src _ rfl _ _ _ rfl 27 i0 _ 18 152 Try.underlying55 HI.out.1 HI.out.2.1 HI.out.2.2.1 HI.out.2.2.2 rfl (by omega) (.slice (some ⟨b, 0, none⟩) L.length L.length) L.length _ rfl HO.out (.slice (some ⟨bx, 0, none⟩) 1 1) 1 (ec e) rfl HB.out (ec_one e) (by unfold maxLen; omega) (by omega) ?_
      intro v w2 hown hgrow hblk
      have HR := hide (show Insd w (some ⟨b, 0, none⟩) L.length L L.length e v w2 from ⟨by
        rw [insL_end, ecs_append, ecs_single]; exact hown, hblk, Keeps.of_grown hgrow (fun k hk => by rw [hk]; simp)⟩)
      clear hown hgrow hblk
      go_wp2
      go_ret
      exact ⟨_, rfl, HR.out⟩
    · go_enter Try.func48, Try.ntmps48
      go_wp2_with (with_reducible refine Halt.append ?_)
      refine Halt.on ?_
      refine wpList_append_src _ rfl _ _ _ rfl 27 i0 _ 18 152 Try.underlying55 HI.out.1 HI.out.2.1 HI.out.2.2.1 HI.out.2.2.2 rfl (by omega) (.slice (some ⟨b, 0, none⟩) L.length c) L.length _ rfl HO.out (.slice (some ⟨bx, 0, none⟩) 1 1) 1 (ec e) rfl HB.out (ec_one e) (by unfold maxLen; omega) (by omega) ?_
      intro v w2 hown hgrow hblk
      have HR := hide (show Insd w (some ⟨b, 0, none⟩) c L L.length e v w2 from ⟨by
        rw [insL_end, ecs_append, ecs_single]; exact hown, hblk, Keeps.of_grown hgrow (fun k hk => by rw [hk]; simp)⟩)
      clear hown hgrow hblk
      go_wp2
      go_ret
      exact ⟨_, rfl, HR.out⟩
theorem shape_of {w : World} {g : Nat} {t : TypeId} {cs : Array Value} (h : Bk w g t cs) : w.shape? g = some (t, cs.size) := by
  unfold World.shape?
  rw [show w.heap[g]? = _ from h]
theorem row_bk {w : World} {g : Nat} {t : TypeId} {cur : Array Value} (h : Bk w g t cur) (new : Array Value) : Bk (w.setRow g new) g t new := setRow_heap w g cur new t (0, 0) h
theorem row_far {w : World} {g g' : Nat} {t : TypeId} {cs : Array Value} (h : Bk w g' t cs) (hn : g' ≠ g) (new : Array Value) : Bk (w.setRow g new) g' t cs := (setRow_other w g g' new hn).trans h
/-- The row that an Insert leaves in place. -/
theorem shift_row (cur : List Value) (L : List Ev) (i : Nat) (e : Ev) (hi : i < L.length) (hc : (L.length + 1) * 18 ≤ cur.length) (ht : cur.take (L.length * 18) = ecs L) :
    (spl (spl cur ((i + 1) * 18) (ecs (L.drop i))) (i * 18) (ec e)).take ((L.length + 1) * 18) = ecs (insL L i e) := by
  have hd : (ecs (L.drop i)).length = (L.length - i) * 18 := by rw [ecs_length, List.length_drop]
  have h := spl_shift cur (ec e) (ecs (L.drop i)) (i * 18) (by rw [ec_length, hd]; omega)
  rw [ec_length, hd, show i * 18 + 18 = (i + 1) * 18 by omega, show (i + 1) * 18 + (L.length - i) * 18 = (L.length + 1) * 18 by omega] at h
  rw [h, insL_cells]
  congr 1
  rw [← ecs_take, ← ht, List.take_take, Nat.min_eq_left (by omega)]
theorem after_row (X : List Value) (L : List Ev) (i : Nat) (e : Ev) (hi : i < L.length) (hc : (L.length + 1) * 18 ≤ X.length) (ht : X.take (i * 18) = ecs (L.take i)) :
    (spl (spl X (i * 18) (ec e)) ((i + 1) * 18) (ecs (L.drop i))).take ((L.length + 1) * 18) = ecs (insL L i e) := by
  have hd : (ecs (L.drop i)).length = (L.length - i) * 18 := by rw [ecs_length, List.length_drop]
  have h := spl_after X (ec e) (ecs (L.drop i)) (i * 18) (by rw [ec_length, hd]; omega)
  rw [ec_length, hd, show i * 18 + 18 = (i + 1) * 18 by omega, show (i + 1) * 18 + (L.length - i) * 18 = (L.length + 1) * 18 by omega] at h
  rw [h, insL_cells, ht]
theorem drop_src {w : World} {g : Nat} {cur : Array Value} {L : List Ev} (hb : Bk w g 27 cur) (ht : cur.toList.take (L.length * 18) = ecs L) (i : Nat) : ∀ j v, (ecs (L.drop i))[j]? = some v → w.cell? ((⟨g, i * 18, none⟩ : Addr).add j) = some v := fun j v hj => by
  rw [← ecs_drop, List.getElem?_drop, ← ht, List.getElem?_take] at hj
  rw [Addr.add_lit, hb.cell]
  split at hj
  · simpa using hj
  · cases hj
set_option maxHeartbeats 2000000 in
set_option maxRecDepth 100000 in
theorem ins_shift (g c : Nat) (L : List Ev) (i : Nat) (e : Ev) (bx : Nat) (w : World) (hb : Bk w bx 27 (ec e).toArray) (cur : Array Value) (hg : Bk w g 27 cur) (hsz : cur.size = c * 18) (ht : cur.toList.take (L.length * 18) = ecs L) (hne : bx ≠ g) (hi : i < L.length) (hr : L.length + 1 ≤ c) (hc63 : c ≤ 9223372036854775807) (hL : L.length ≤ 100000) :
    Calls Try.prog 48 #[.slice (some ⟨g, 0, none⟩) L.length c, .int .i64 (i : Int), .slice (some ⟨bx, 0, none⟩) 1 1] w fun r w' => ∃ v, r = .returned v ∧ Insd w (some ⟨g, 0, none⟩) c L i e v w' := by
  have hov : ∀ f lb cb, (callFunc 63 #[.slice (some ⟨bx, 0, none⟩) 1 1, .slice (some ⟨g, f, none⟩) lb cb]).run Try.prog w = .ok (.value (.bool false)) w := fun f lb cb => by
    rw [run_callFunc_extern Try.func63 (by kernel_rfl) (by kernel_rfl) (by kernel_rfl) (e := Extern.SlicesOverlaps.overlaps #[55, 55] #[4]) (by kernel_rfl),
      Lib.run_overlaps_apart w 55 4 27 Try.underlying55 18 Try.sizeOf27 ⟨bx, 0, none⟩ ⟨g, f, none⟩ 1 1 lb cb hne 27 27 18 cur.size (shape_of hb) (shape_of hg) (by omega) (hb.free 0) (hb.free 18)]
    rfl
  have hw1 : IntKind.i64.wrap ((i : Int) + 1) = (i : Int) + 1 := by rw [IntKind.wrap_i64]; omega
  have hb1 : (0 : Int) ≤ (i : Int) + 1 := by omega
  have hb0 : (0 : Int) ≤ (i : Int) := by omega
  have htn : ((i : Int) + 1).toNat = i + 1 := by omega
  have hb2 : ¬ c = i + 1 := by omega
  have hb3 : (i : Int) ≤ (L.length : Int) + 1 := by omega
  have hb4 : ¬ c = i := by omega
  have hb5 : ¬ (i : Int) = (L.length : Int) := by omega
  have hb6 : ((i : Int) == (L.length : Int)) = false := by rw [beq_eq_false_iff_ne]; omega
  have hb7 : ¬ (c : Int) < (L.length : Int) + 1 := by omega
  have hb8 : (i : Int) ≤ (c : Int) := by omega
  have hb9 : (L.length : Int) + 1 ≤ (c : Int) := by omega
  have hin : i ≤ L.length := by omega
  have hin2 : (i : Int) ≤ (L.length : Int) := by omega
  have hin3 : (i : Int) + 1 ≤ (L.length : Int) + 1 := by omega
  have HB := hide hb
  have HG := hide hg
  have HT := hide ht
  have HSZ := hide hsz
  clear hb hg ht hsz
  go_enter Try.func48, Try.ntmps48
  go_wp2_with (simp only [hov])
  refine wp_region_still_tail 8 (by kernel_rfl) (by kernel_rfl) ?_
  simp only [List.take_succ_cons, List.take_zero, List.drop_succ_cons, List.drop_zero]
  change wpStill _ _ w.drew _ _ _
  change wpStill _ _ _ (fun a' => wpList _ _ _ _ a' w.drew) _ _
  have HBD := hide (HB.out.drew)
  have HGD := hide (HG.out.drew)
  have HKD := hide (show Keeps [g] w w.drew from (Keeps.refl _ _).drew)
  clear hov
  generalize w.drew = wd at HBD HGD HKD ⊢
  repeat still_step
  refine wpStill_nil ?_
  have HCL := hide (show cur.toList.length = cur.size from Array.length_toList)
  have hdl : (ecs (L.drop i)).length = (L.length - i) * 18 := by rw [ecs_length, List.length_drop]
  refine wpList_copy_rowN wd rfl _ _ _ _ rfl 18 27 g ((i + 1) * 18) _ _ ⟨g, i * 18, none⟩ _ _ cur 27 (ecs (L.drop i)) rfl rfl Try.underlying55 Try.size27 HGD.out (by rw [hdl]; congr 1; simp only [Nat.min_def]; split <;> omega) (drop_src HGD.out HT.out i) (by rw [hdl]; have := HSZ.out; omega) (ecs_one _) ?_
  have HB1 := hide (row_far HBD.out hne (spl cur.toList ((i + 1) * 18) (ecs (L.drop i))).toArray)
  have HG1 := hide (row_bk HGD.out (spl cur.toList ((i + 1) * 18) (ecs (L.drop i))).toArray)
  have HK1 := hide (HKD.out.setRow (g := g) (.inl (by simp)) (spl cur.toList ((i + 1) * 18) (ecs (L.drop i))).toArray)
  have HL1 := hide (show (spl cur.toList ((i + 1) * 18) (ecs (L.drop i))).length = c * 18 by rw [spl_length _ _ _ (by rw [hdl]; have := HSZ.out; have := HCL.out; omega), HCL.out]; exact HSZ.out)
  have HF := hide (shift_row cur.toList L i e hi (by have := HSZ.out; have := HCL.out; omega) HT.out)
  clear HBD HGD HKD hdl HG HB
  generalize wd.setRow g (spl cur.toList ((i + 1) * 18) (ecs (L.drop i))).toArray = w1 at HB1 HG1 HK1 ⊢
  generalize spl cur.toList ((i + 1) * 18) (ecs (L.drop i)) = X1 at HG1 HL1 HF
  go_wp2_with (with_reducible refine Halt.copy ?_)
  refine Halt.on ?_
  refine wpList_copy_rowN w1 rfl _ _ _ _ rfl 18 27 g (i * 18) _ _ ⟨bx, 0, none⟩ _ _ X1.toArray 27 (ec e) rfl rfl Try.underlying55 Try.size27 HG1.out (by rw [ec_length]; simp only [Nat.min_def]; split <;> omega) (fun j v hj => by rw [Addr.add_lit, Nat.zero_add, HB1.out.cell]; simpa using hj) (by rw [ec_length, List.size_toArray, HL1.out]; omega) (ec_one e) ?_
  have HG2 := hide (row_bk HG1.out (spl X1.toArray.toList (i * 18) (ec e)).toArray)
  have HK2 := hide (HK1.out.setRow (g := g) (.inl (by simp)) (spl X1.toArray.toList (i * 18) (ec e)).toArray)
  clear HG1 HK1 HB1
  generalize w1.setRow g (spl X1.toArray.toList (i * 18) (ec e)).toArray = w2 at HG2 HK2 ⊢
  have HO2 := hide (show Own w2 27 18 (.slice (some ⟨g, 0, none⟩) (L.length + 1) c) (L.length + 1) (ecs (insL L i e)) from own_of HG2.out (by rw [ecs_length, insL_length L i e (by omega)]) hr (le_maxLen hc63) (by
    rw [List.size_toArray, spl_length _ _ _ (by rw [ec_length]; show _ ≤ X1.length; rw [HL1.out]; omega)]
    exact HL1.out) HF.out)
  clear HG2
  go_wp2
  go_ret
  exact ⟨_, rfl, HO2.out, .inl rfl, HK2.out⟩
theorem row_src {w : World} {g : Nat} {cur : Array Value} {L : List Ev} (hb : Bk w g 27 cur) (ht : cur.toList.take (L.length * 18) = ecs L) (i : Nat) : ∀ j v, (ecs (L.take i))[j]? = some v → w.cell? ((⟨g, 0, none⟩ : Addr).add j) = some v := fun j v hj => by
  rw [← ecs_take, List.getElem?_take] at hj
  split at hj
  · rw [← ht, List.getElem?_take] at hj
    rw [Addr.add_lit, Nat.zero_add, hb.cell]
    split at hj
    · simpa using hj
    · cases hj
  · cases hj
/-- The new row: its size, and how it begins. -/
theorem grown_row (l : List Value) (z : Array Value) (hz : z.size = 18) (i k G : Nat) (hl : l.length = i * 18) (hG : i + k ≤ G) :
    (l.toArray ++ Builtin.zeroCells z k ++ Builtin.zeroCells z (G - (i + k))).size = G * 18 ∧ (l.toArray ++ Builtin.zeroCells z k ++ Builtin.zeroCells z (G - (i + k))).toList.take (i * 18) = l := by
  constructor
  · rw [Array.size_append, Array.size_append, size_zeroCells, size_zeroCells, hz, List.size_toArray, hl]
    omega
  · rw [Array.toList_append, Array.toList_append, List.append_assoc]
    exact List.take_left' hl
set_option maxHeartbeats 2000000 in
set_option maxRecDepth 100000 in
theorem ins_grow (g c : Nat) (L : List Ev) (i : Nat) (e : Ev) (bx : Nat) (w : World) (hb : Bk w bx 27 (ec e).toArray) (cur : Array Value) (hg : Bk w g 27 cur) (hsz : cur.size = c * 18) (ht : cur.toList.take (L.length * 18) = ecs L) (hi : i < L.length) (hlc : L.length ≤ c) (hr : c < L.length + 1) (hL : L.length ≤ 100000) :
    Calls Try.prog 48 #[.slice (some ⟨g, 0, none⟩) L.length c, .int .i64 (i : Int), .slice (some ⟨bx, 0, none⟩) 1 1] w fun r w' => ∃ v, r = .returned v ∧ Insd w (some ⟨g, 0, none⟩) c L i e v w' := by
  obtain ⟨i0, hi0, hz0, hz1, hz2⟩ := info_parts Try.info27b
  have HI := hide (And.intro hi0 (And.intro hz0 (And.intro hz1 hz2)))
  clear hi0 hz0 hz1 hz2
  obtain rfl : c = L.length := by omega
  have hw1 : IntKind.i64.wrap ((i : Int) + 1) = (i : Int) + 1 := by rw [IntKind.wrap_i64]; omega
  obtain ⟨k, hk⟩ : ∃ k : Nat, k = L.length + 1 - i := ⟨_, rfl⟩
  have hw2 : IntKind.i64.wrap ((L.length : Int) + 1 - (i : Int)) = (k : Int) := by rw [IntKind.wrap_i64]; omega
  have hw3 : (L.length : Int) + 1 - (i : Int) = (k : Int) := by omega
  have HKK := hide hk
  have hb1 : (0 : Int) ≤ (i : Int) + 1 := by omega
  have hb0 : (0 : Int) ≤ (i : Int) := by omega
  have htn : ((i : Int) + 1).toNat = i + 1 := by omega
  have hb4 : ¬ L.length = i := by omega
  have hb5 : ¬ (i : Int) = (L.length : Int) := by omega
  have hb6 : ((i : Int) == (L.length : Int)) = false := by rw [beq_eq_false_iff_ne]; omega
  have hin : i ≤ L.length := by omega
  have hin2 : (i : Int) ≤ (L.length : Int) := by omega
  have hin3 : (i : Int) + 1 ≤ (L.length : Int) + 1 := by omega
  have hg7 : (L.length : Int) < (L.length : Int) + 1 := by omega
  have HB := hide hb
  have HG := hide hg
  have HT := hide ht
  have HSZ := hide hsz
  clear hb hg ht hsz hk
  go_enter Try.func48, Try.ntmps48
  go_wp2_with (with_reducible refine Halt.append ?_)
  refine Halt.on ?_
  refine wpList_zeros_row w rfl _ _ 55 3 rfl 27 i0 _ .i64 .i64 Try.underlying55 Try.underlying3 HI.out.1 HI.out.2.1 (by rw [HI.out.2.2.1]; omega) ⟨g, 0, none⟩ i L.length k (ecs (L.take i)) rfl rfl ?_ ?_ ?_ ?_ ?_ ?_ ?_
  · rw [HI.out.2.2.1, ecs_length, List.length_take]; congr 1; omega
  · exact row_src HG.out HT.out i
  · have := HKK.out; omega
  · have := HKK.out; omega
  · have := HKK.out; omega
  · rw [HI.out.2.2.2]; have := HKK.out; omega
  have hik : i + k = L.length + 1 := by have := HKK.out; omega
  rw [hik]
  have hG1 := grownCap_ge w (L.length + 1) L.length 27
  have hG2 := grownCap_le_maxLen w (L.length + 1) L.length 27 (by unfold maxLen; omega)
  unfold maxLen at hG2
  generalize grownCap w (L.length + 1) L.length 27 = G at hG1 hG2 ⊢
  have hrow := grown_row (ecs (L.take i)) (evl ⟨0, 0, 0, 0, 0, 0, 0, 0, 0, 0, 0, 0, 0, 0, 0, 0, 0, ⟨#[]⟩⟩).cells rfl i k G (by rw [ecs_length, List.length_take]; congr 1; omega) (by omega)
  rw [hik] at hrow
  have HR1 := hide hrow.1
  have HR2 := hide hrow.2
  clear hrow hik
  generalize (ecs (L.take i)).toArray ++ Builtin.zeroCells (evl ⟨0, 0, 0, 0, 0, 0, 0, 0, 0, 0, 0, 0, 0, 0, 0, 0, 0, ⟨#[]⟩⟩).cells k ++ Builtin.zeroCells (evl ⟨0, 0, 0, 0, 0, 0, 0, 0, 0, 0, 0, 0, 0, 0, 0, 0, 0, ⟨#[]⟩⟩).cells (G - (L.length + 1)) = R at HR1 HR2 ⊢
  have hnx : bx ≠ w.heap.size := by have := HB.out.lt; omega
  have hng : g ≠ w.heap.size := by have := HG.out.lt; omega
  have HB1 := hide (HB.out.drew.alloc (.cells R 27))
  have HG1 := hide (HG.out.drew.alloc (.cells R 27))
  have HH1 := hide (show Bk (w.drew.alloc (.cells R 27)) w.heap.size 27 R from Bk.new w.drew 27 R)
  have HK1 := hide ((Keeps.refl [] w).drew.alloc (.cells R 27))
  have HC := hide (show R.toList.length = R.size from Array.length_toList)
  have hg4 : ¬ G = i := by omega
  have hg5 : ¬ G = i + 1 := by omega
  have hg6 : (i : Int) ≤ (L.length : Int) + 1 := by omega
  have hg8 : i ≤ L.length + 1 := by omega
  clear HB HG hw2 hw3
  generalize w.drew.alloc (.cells R 27) = w1 at HB1 HG1 HH1 HK1 ⊢
  go_wp2_with (with_reducible refine Halt.copy ?_)
  refine Halt.on ?_
  refine wpList_copy_rowN w1 rfl _ _ _ _ rfl 18 27 w.heap.size (i * 18) _ _ ⟨bx, 0, none⟩ _ _ R 27 (ec e) rfl rfl Try.underlying55 Try.size27 HH1.out (by rw [ec_length]; simp only [Nat.min_def]; split <;> omega) (fun j v hj => by rw [Addr.add_lit, Nat.zero_add, HB1.out.cell]; simpa using hj) (by rw [ec_length, HR1.out]; omega) (ec_one e) ?_
  have HG2 := hide (row_far HG1.out hng (spl R.toList (i * 18) (ec e)).toArray)
  have HH2 := hide (row_bk HH1.out (spl R.toList (i * 18) (ec e)).toArray)
  have HK2 := hide (HK1.out.setRow (g := w.heap.size) (.inr (Nat.le_refl _)) (spl R.toList (i * 18) (ec e)).toArray)
  have HL2 := hide (show (spl R.toList (i * 18) (ec e)).length = G * 18 by rw [spl_length _ _ _ (by rw [ec_length, HC.out, HR1.out]; omega), HC.out]; exact HR1.out)
  have HF := hide (after_row R.toList L i e hi (by rw [HC.out, HR1.out]; omega) HR2.out)
  clear HB1 HG1 HH1 HK1 HR2
  generalize w1.setRow w.heap.size (spl R.toList (i * 18) (ec e)).toArray = w2 at HG2 HH2 HK2 ⊢
  generalize spl R.toList (i * 18) (ec e) = X1 at HH2 HL2 HF
  go_wp2_with fail
  refine wp_region_still_tail 8 (by kernel_rfl) (by kernel_rfl) ?_
  simp only [List.take_succ_cons, List.take_zero, List.drop_succ_cons, List.drop_zero]
  change wpStill _ _ w2.drew _ _ _
  change wpStill _ _ _ (fun a' => wpList _ _ _ _ a' w2.drew) _ _
  have HG3 := hide (HG2.out.drew)
  have HH3 := hide (HH2.out.drew)
  have HK3 := hide (HK2.out.drew)
  clear HG2 HH2 HK2
  generalize w2.drew = w3 at HG3 HH3 HK3 ⊢
  repeat still_step
  refine wpStill_nil ?_
  have hdl : (ecs (L.drop i)).length = (L.length - i) * 18 := by rw [ecs_length, List.length_drop]
  refine wpList_copy_rowN w3 rfl _ _ _ _ rfl 18 27 w.heap.size ((i + 1) * 18) _ _ ⟨g, i * 18, none⟩ _ _ X1.toArray 27 (ecs (L.drop i)) rfl rfl Try.underlying55 Try.size27 HH3.out (by rw [hdl]; congr 1; simp only [Nat.min_def]; split <;> omega) (drop_src HG3.out HT.out i) (by rw [hdl, List.size_toArray, HL2.out]; omega) (ecs_one _) ?_
  have HH4 := hide (row_bk HH3.out (spl X1.toArray.toList ((i + 1) * 18) (ecs (L.drop i))).toArray)
  have HK4 := hide (HK3.out.setRow (g := w.heap.size) (.inr (Nat.le_refl _)) (spl X1.toArray.toList ((i + 1) * 18) (ecs (L.drop i))).toArray)
  clear HH3 HK3 HG3
  generalize w3.setRow w.heap.size (spl X1.toArray.toList ((i + 1) * 18) (ecs (L.drop i))).toArray = w4 at HH4 HK4 ⊢
  have HO4 := hide (show Own w4 27 18 (.slice (some ⟨w.heap.size, 0, none⟩) (L.length + 1) G) (L.length + 1) (ecs (insL L i e)) from own_of HH4.out (by rw [ecs_length, insL_length L i e (by omega)]) hG1 (le_maxLen hG2) (by
    rw [List.size_toArray, spl_length _ _ _ (by rw [hdl]; show _ ≤ X1.length; rw [HL2.out]; omega)]
    exact HL2.out) HF.out)
  clear HH4 hdl
  go_wp2
  go_ret
  exact ⟨_, rfl, HO4.out, .inr rfl, HK4.out.nil⟩
/-- slices.Insert of one event, at whatever place. -/
theorem insert_any (A : Option Addr) (c : Nat) (L : List Ev) (i : Nat) (e : Ev) (bx : Nat) (w : World) (hb : Bk w bx 27 (ec e).toArray) (ho : Own w 27 18 (.slice A L.length c) L.length (ecs L)) (hne : (Value.slice A L.length c).ownBlock ≠ some bx) (hi : i ≤ L.length) (hL : L.length ≤ 100000) :
    Calls Try.prog 48 #[.slice A L.length c, .int .i64 (i : Int), .slice (some ⟨bx, 0, none⟩) 1 1] w fun r w' => ∃ v, r = .returned v ∧ Insd w A c L i e v w' := by
  by_cases hlt : i < L.length
  · obtain ⟨g, c', cur, hv, h1, h2, h3, h4, h5, h6⟩ := Own.head ho (by omega)
    injection hv with hA _ hc
    subst hA hc
    by_cases hr : L.length + 1 ≤ c
    · exact ins_shift g c L i e bx w hb cur h3 h4 h5 (fun h => hne (by simp [Value.ownBlock, h])) hlt hr h2 hL
    · exact ins_grow g c L i e bx w hb cur h3 h4 h5 hlt h1 (by omega) hL
  · obtain rfl : i = L.length := by omega
    exact ins_end A c L e bx w hb ho hL
end Go.Proofs.Ytcfglfnncpcfoaa

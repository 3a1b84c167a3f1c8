/- The encoding of a number, as plain data; the contract of codec.Number. -/
import Derived.Test.YtcfglfnncpcfoaaGroups
import Derived.Test.YtcfglfnncpcfoaaWstr
import Derived.Test.YtcfglfnncpcfoaaConv
import Derived.Maps.AppendAt
import Derived.RangeFuncBox
import Derived.Laws.Bits128
import Derived.Lib.ConvBytes
namespace Go.Proofs.Ytcfglfnncpcfoaa
open Go.RowKit Go.Shelf
attribute [local go_sem] Oper.semAt_some

def gByte (x : Nat × Bool) : UInt8 := UInt8.ofNat (if x.2 then x.1 + 128 else x.1)
/-- The encoding of a number. -/
def numL (m : Nat) : List UInt8 := (gs m).map gByte
theorem gs_lt : ∀ (f m : Nat), ∀ x ∈ gsF f m, x.1 < 128
  | 0, _, x, h => by simp [gsF] at h
  | f + 1, m, x, h => by
    unfold gsF at h
    split at h
    · simp at h; subst h; simp; omega
    · rw [List.mem_cons] at h
      rcases h with rfl | h
      · simp; omega
      · exact gs_lt f _ x h
theorem gsF_length : ∀ (f m b : Nat), m < 128 ^ b → 0 < b → (gsF f m).length ≤ b
  | 0, _, b, _, _ => by simp [gsF]
  | f + 1, m, b, h, hb => by
    unfold gsF
    split
    · simp; omega
    · rename_i hz
      cases b with
      | zero => omega
      | succ b =>
        cases b with
        | zero => simp at h; omega
        | succ b =>
          have := gsF_length f (m / 128) (b + 1) (by rw [Nat.div_lt_iff_lt_mul (by omega)]; rw [Nat.pow_succ] at h; exact h) (by omega)
          simp; omega
theorem gs_length (m : Nat) (h : m < 18446744073709551616) : (gs m).length ≤ 10 := gsF_length _ m 10 (by omega) (by omega)
theorem numL_length (m : Nat) (h : m < 18446744073709551616) : (numL m).length ≤ 10 := by unfold numL; simpa using gs_length m h
theorem gByte_val (x : Nat × Bool) (h : x.1 < 128) : ((gByte x).toNat : Int) = if x.2 then (x.1 : Int) + 128 else x.1 := by
  unfold gByte
  split <;> simp <;> omega

theorem Try.info5b : (Try.prog.info? 5).map (fun i => (i.zero, i.size, i.bytes)) = some (some (.int .u8 0), 1, 1) := by kernel_rfl
theorem prefix_mem {α : Type} {pre l : List α} {x : α} (h : pre ++ [x] <+: l) : x ∈ l ∧ pre.length < l.length := by
  obtain ⟨t, rfl⟩ := h
  simp
theorem groups_any (m : Nat) (w : World) : Calls Try.prog 66 #[.int .u64 (m : Int)] w fun e w' => e = .returned (.func (.func 73) #[] #[.pointer (some ⟨w.heap.size, 0, none⟩)]) ∧ w.alloc (.cells #[.int .u64 (m : Int)] 64) = w' := by
  go_enter Try.func66, Try.ntmps66
  go_wp2
  go_ret
  exact ⟨rfl, rfl⟩

/-- What the box of b holds while the groups come. -/
def NumI (w : World) (pre : List (Nat × Bool)) (W : World) : Prop :=
  (∃ v, Bk W w.heap.size 36 #[v] ∧ W.ownsRow (w.heap.size + 2) 5 1 v pre.length (bv (pre.map gByte))) ∧ Below w.heap.size w W ∧ w.heap.size + 2 ≤ W.heap.size
theorem NumI.abides {w : World} {Z : Nat} (hZ : w.heap.size + 2 ≤ Z) (s : List (Nat × Bool)) (A B : World) (row : Option Nat) (h : NumI w s A) (hg : A.grownBy B row) (hr : ∀ r, row = some r → r = w.heap.size + 1 ∨ (Z ≤ r ∧ ∃ o : Obj, A.heap[r]? = some o ∧ o.isCells = false)) : NumI w s B := by
  obtain ⟨⟨v, hb, hown⟩, hbl, hsz⟩ := h
  have ne : ∀ k, k < Z → k ≠ w.heap.size + 1 → some k ≠ row := fun k hk hn e => by
    rcases hr k e.symm with h | ⟨h, _⟩
    · exact hn h
    · omega
  refine ⟨⟨v, hb.grown hg (ne _ (by omega) (by omega)), hown.kept hg ?_⟩, ?_, Nat.le_trans hsz hg.size⟩
  · rcases hown.2 with ⟨rfl, _⟩ | ⟨g, cap, cur, rfl, hgb, hgc, _⟩
    · exact .inl rfl
    · refine .inr (fun e => ?_)
      have e' : row = some g := e.symm
      rcases hr g e' with h | ⟨_, o, ho, hc⟩
      · omega
      · rw [hgc] at ho; cases ho; cases hc
  · exact ⟨hg.os.trans hbl.os, hg.tape.trans hbl.tape, hg.output.trans hbl.output, Nat.le_trans hbl.size hg.size, fun k hk => (hg.block k (by omega) (ne k (by omega) (by omega))).trans (hbl.block k hk)⟩

theorem num_step {w W w1 : World} {pre : List (Nat × Bool)} {x : Nat × Bool} {v v' : Value} {b : Int} {o : Obj} (hb : Bk W w.heap.size 36 #[v]) (hown : W.ownsRow (w.heap.size + 2) 5 1 v pre.length (bv (pre.map gByte))) (hbl : Below w.heap.size w W) (hsW : w.heap.size + 2 ≤ W.heap.size)
    (hgrow : (W.alloc o).grownBy w1 v.ownBlock) (hown' : w1.ownsRow (w.heap.size + 2) 5 1 v' (pre.length + 1) (bv (pre.map gByte) ++ [.int .u8 b])) (hbyte : ((gByte x).toNat : Int) = b) :
    Bk w1 w.heap.size 36 #[v] ∧ KeepsOthers W (w1.setCell ⟨w.heap.size, 0, none⟩ v') ∧ (w1.setCell ⟨w.heap.size, 0, none⟩ v').heap[w.heap.size + 1]? = W.heap[w.heap.size + 1]? ∧ NumI w (pre ++ [x]) (w1.setCell ⟨w.heap.size, 0, none⟩ v') := by
  have nv : ∀ k, k < w.heap.size + 2 → some k ≠ v.ownBlock := fun k hk e => by
    rcases hown.2 with ⟨rfl, _⟩ | ⟨g, cap, cur, rfl, hgb, _⟩
    · simp [Value.ownBlock] at e
    · simp [Value.ownBlock] at e; omega
  have nv' : v'.ownBlock ≠ some w.heap.size := fun e => by
    rcases hown'.2 with ⟨rfl, _⟩ | ⟨g, cap, cur, rfl, hgb, _⟩
    · simp [Value.ownBlock] at e
    · simp [Value.ownBlock] at e; omega
  have same : ∀ k, k < W.heap.size → some k ≠ v.ownBlock → w1.heap[k]? = W.heap[k]? := fun k hk hn => (hgrow.block k (by simp; omega) hn).trans (Below.heap_alloc W o k hk)
  have hb1 : Bk w1 w.heap.size 36 #[v] := (same _ (by omega) (nv _ (by omega))).trans hb
  have hset := hb1.set 0 v'
  have far : ∀ k, k ≠ w.heap.size → (w1.setCell ⟨w.heap.size, 0, none⟩ v').heap[k]? = w1.heap[k]? := fun k hk => Below.heap_setCell _ _ _ _ (by simpa using hk)
  have hsz : W.heap.size ≤ w1.heap.size := Nat.le_trans (by simp) hgrow.size
  refine ⟨hb1, ⟨by simpa [World.setCell] using hsz, fun k ob hk hc => ?_⟩, (far _ (by omega)).trans (same _ (by omega) (nv _ (by omega))), ⟨⟨v', by simpa using hset, ?_⟩, ?_, by simpa [World.setCell] using Nat.le_trans hsW hsz⟩⟩
  · have hkl : k < W.heap.size := (Array.getElem?_eq_some_iff.1 hk).1
    have hne : k ≠ w.heap.size := fun e => by
      subst e
      unfold Bk at hb
      rw [hb] at hk
      cases hk
      cases hc
    have hnv : some k ≠ v.ownBlock := fun e => by
      rcases hown.2 with ⟨rfl, _⟩ | ⟨g, cap, cur, rfl, _, hg, _⟩
      · simp [Value.ownBlock] at e
      · have : k = g := by simpa [Value.ownBlock] using e
        subst this
        rw [hg] at hk
        cases hk
        cases hc
    exact ((far k hne).trans (same k hkl hnv)).trans hk
  · have e1 : bv ((pre ++ [x]).map gByte) = bv (pre.map gByte) ++ [.int .u8 b] := by
      rw [← hbyte]
      simp [bv]
    rw [e1, List.length_append, List.length_singleton]
    refine ⟨hown'.1, ?_⟩
    rcases hown'.2 with h0 | ⟨g, cap, cur, hv, h1, h2, r⟩
    · exact .inl h0
    · exact .inr ⟨g, cap, cur, hv, h1, (far g (by omega)).trans h2, r⟩
  · exact ⟨hgrow.os.trans hbl.os, hgrow.tape.trans hbl.tape, hgrow.output.trans hbl.output, by simpa [World.setCell] using Nat.le_trans hbl.size hsz, fun k hk => ((far k (by omega)).trans (same k (by omega) (nv k (by omega)))).trans (hbl.block k hk)⟩

set_option maxHeartbeats 2000000 in
set_option maxRecDepth 100000 in
theorem number_any (m : Nat) (w : World) (hm : m < 18446744073709551616) : Calls Try.prog 53 #[.int .u64 (m : Int)] w fun e w' => e = .returned (.string (bs (numL m))) ∧ Below w.heap.size w w' := by
  refine (callsIn_wide (n := 5)).1 ?_
  refine callsIn_of_wp_marks Try.func53 rfl trivial ?_ rfl
  simp only [Try.ntmps53, List.size_toArray, List.length_cons, List.length_nil, Nat.reduceAdd, Nat.reduceSub, Array.replicate_succ, Array.replicate_zero, List.push_toArray, List.append_toArray, List.nil_append, List.cons_append]
  gi_wp2_with (refine ⟨trivial, ?_⟩; gi_at_call 66; refine (callsIn_wide.2 (groups_any m _)).mono ?_; rintro e w' ⟨rfl, rfl⟩)
  have hbx : Bk ((w.alloc (.cells #[.slice none 0 0] 36)).alloc (.cells #[.int .u64 (m : Int)] 64)) (w.heap.size + 1) 64 #[.int .u64 (m : Int)] := by
    have := Bk.new (w.alloc (.cells #[.slice none 0 0] 36)) 64 #[.int .u64 (m : Int)]
    simpa using this
  have hbb : Bk ((w.alloc (.cells #[.slice none 0 0] 36)).alloc (.cells #[.int .u64 (m : Int)] 64)) w.heap.size 36 #[.slice none 0 0] := (Bk.new w 36 #[.slice none 0 0]).alloc _
  have hst : NumI w [] ((w.alloc (.cells #[.slice none 0 0] 36)).alloc (.cells #[.int .u64 (m : Int)] 64)) := ⟨⟨_, hbb, World.ownsRow_nil _ _ _ _⟩, (((Below.refl _ w).alloc (Nat.le_refl _) _).alloc (by simp) _), by simp⟩
  have hand : HandsOut (5 - 1) Try.prog (w.heap.size + 1) 73 #[.pointer (some ⟨w.heap.size + 1, 0, none⟩)] gEnc (gs m) ((w.alloc (.cells #[.slice none 0 0] 36)).alloc (.cells #[.int .u64 (m : Int)] 64)).heap[w.heap.size + 1]? := by
    have e : ((w.alloc (.cells #[.slice none 0 0] 36)).alloc (.cells #[.int .u64 (m : Int)] 64)).heap[w.heap.size + 1]? = some (.cells #[.int .u64 (m : Int)] 64 (0, 0)) := hbx
    rw [e]
    exact groups_hand 4 _ m hm
  have hsz : w.heap.size + 1 < ((w.alloc (.cells #[.slice none 0 0] 36)).alloc (.cells #[.int .u64 (m : Int)] 64)).heap.size := by simp
  have hz : w.heap.size + 2 ≤ ((w.alloc (.cells #[.slice none 0 0] 36)).alloc (.cells #[.int .u64 (m : Int)] 64)).heap.size := by simp
  clear hbx hbb
  generalize (w.alloc (.cells #[.slice none 0 0] 36)).alloc (.cells #[.int .u64 (m : Int)] 64) = w2 at hst hand hsz hz ⊢
  refine range_law (w.heap.size + 1) hsz (gf := 73) (lb := #[.pointer (some ⟨w.heap.size + 1, 0, none⟩)]) rfl (enters_of Try.func73 (by kernel_rfl) rfl) gEnc (gs m) hand (fun _ => rfl) (NumI w) (NumI.abides hz) hst
    (fun x => { tmps := #[.int .u64 (m : Int), undef, .string ⟨#[]⟩, .pointer (some ⟨w.heap.size, 0, none⟩), .int .u8 (x.1 : Int), .bool x.2, .int .u64 (m : Int), .func (.func 73) #[] #[.pointer (some ⟨w.heap.size + 1, 0, none⟩)], .int .u8 (x.1 : Int), .bool x.2, undef, undef, undef, undef, undef, undef, undef, undef, undef], defers := [] }) ?assign ?body ?done
  case assign =>
    intro l x W K hK
    unfold gEnc
    gi_wp2
    exact hK
  case body =>
    rintro l pre ⟨g, more⟩ W hI hpre
    obtain ⟨hmem, hlen⟩ := prefix_mem hpre
    have hg := gs_lt _ _ _ hmem
    have hl10 := gs_length m hm
    obtain ⟨i0, hi, hz0, hz1, hz2⟩ := info_parts Try.info5b
    obtain ⟨⟨v, hb, hown⟩, hbl, hsW⟩ := hI
    simp only at hg
    have hg0 : (0 : Int) ≤ (g : Int) := by omega
    have hg1 : (g : Int) < 128 := by omega
    have hor := u8_or128_right (g : Int) hg0 hg1
    have c0 := hb.cell 0
    have f0 := hb.free 0
    simp at c0
    have hval := gByte_val (g, more) hg
    simp only at hval
    have HV := hide hval
    have HB := hide hb
    have HBL := hide hbl
    have hbz := hb.lt
    have hp9 : pre.length < 10 := by omega
    have HO := hide hown
    clear hval hb hbl hown hmem hlen hpre hst hand hl10
    cases more with
    | true =>
      simp only [if_true] at HV
      gi_wp2_with (gi_at_builtin; refine wpListIn_append_own _ rfl _ _ 36 rfl (w.heap.size + 2) 5 i0 (.int .u8 0) 1 1 Try.underlying36 hi hz0 hz1 hz2 rfl (by decide) _ _ _ rfl (HO.out.alloc _) ⟨W.heap.size, 0, none⟩ 1 1 [.int .u8 ((g : Int) + 128)] rfl rfl (cell_one_new _ _ _) (by simp [Value.oneCell']) (by unfold maxLen; omega) (by omega) (by simp; omega) ?_; intro v' w1 hown' hgrow _; obtain ⟨g', cap', rfl⟩ := ownsRow_succ hown'; obtain ⟨hb1, hk1, hn1, hI1⟩ := num_step (x := (g, true)) HB.out HO.out HBL.out hsW hgrow hown' HV.out; have hc1 := hb1.cell 0; have hf1 := hb1.free 0; simp at hc1)
      exact ⟨hk1, hn1, hI1⟩
    | false =>
      simp only [Bool.false_eq_true, if_false] at HV
      gi_wp2_with (gi_at_builtin; refine wpListIn_append_own _ rfl _ _ 36 rfl (w.heap.size + 2) 5 i0 (.int .u8 0) 1 1 Try.underlying36 hi hz0 hz1 hz2 rfl (by decide) _ _ _ rfl (HO.out.alloc _) ⟨W.heap.size, 0, none⟩ 1 1 [.int .u8 ((g : Int))] rfl rfl (cell_one_new _ _ _) (by simp [Value.oneCell']) (by unfold maxLen; omega) (by omega) (by simp; omega) ?_; intro v' w1 hown' hgrow _; obtain ⟨g', cap', rfl⟩ := ownsRow_succ hown'; obtain ⟨hb1, hk1, hn1, hI1⟩ := num_step (x := (g, false)) HB.out HO.out HBL.out hsW hgrow hown' HV.out; have hc1 := hb1.cell 0; have hf1 := hb1.free 0; simp at hc1)
      exact ⟨hk1, hn1, hI1⟩
  case done =>
    rintro D W ⟨⟨v, hb, hown⟩, hbl, hsW⟩ hD hle
    have c0 := hb.cell 0
    simp at c0
    obtain ⟨A, c, hv⟩ : ∃ A c, v = .slice A (gs m).length c := by
      rcases hown.2 with ⟨hv, h0⟩ | ⟨g, cap, cur, hv, _⟩
      · exact ⟨none, 0, by rw [hv, h0]⟩
      · exact ⟨_, _, hv⟩
    subst hv
    have hcv := run_bytes_str W A (gs m).length c (numL m) (by unfold numL; simp) (by
      have h1 : Own W 5 1 (.slice A (gs m).length c) (gs m).length (bv (numL m)) := ⟨hown.1, by
        rcases hown.2 with h0 | ⟨g, cap, cur, hv, _, r⟩
        · exact .inl h0
        · exact .inr ⟨g, cap, cur, hv, Nat.zero_le _, r⟩⟩
      exact h1.src)
    have HBL := hide hbl
    clear hb hown hbl hst hand
    gi_wp2
    refine ⟨by simp, .inl ⟨_, _, rfl, run_takeDeferred hD, ?_⟩⟩
    refine ⟨_, results_tmp rfl _ _ _, rfl, ?_⟩
    exact HBL.out.trans ((Below.refl w.heap.size W).grown (grownBy_putObj' W D _) (by omega) (fun k e => by cases e; omega))
end Go.Proofs.Ytcfglfnncpcfoaa

/- Bytes as cells, writing into contents (putL), and the contract of put. No condition but sizes up to 2^24. -/
import Derived.Test.YtppgddigcoojiaaRows
import Derived.Test.YtppgddigcoojiaaMem
import Derived.Deep.RegionHeld3
namespace Go.Proofs.Ytppgddigcoojiaa
open Go.RowKit

def bv (l : List UInt8) : List Value := l.map fun b => Value.int .u8 b.toNat
theorem bv_length (l : List UInt8) : (bv l).length = l.length := by simp [bv]
theorem bv_append (l m : List UInt8) : bv (l ++ m) = bv l ++ bv m := by simp [bv]
theorem bv_one (l : List UInt8) : ∀ u ∈ bv l, u.oneCell' = true := by
  intro u hu
  simp only [bv, List.mem_map] at hu
  obtain ⟨b, _, rfl⟩ := hu
  rfl
theorem bv_zeros (k : Nat) : bv (List.replicate k 0) = List.replicate k (.int .u8 0) := by simp [bv]

def putL (c : List UInt8) (off : Nat) (s : List UInt8) : List UInt8 :=
  (c ++ List.replicate (off + s.length - c.length) 0).take off ++ s ++ (c ++ List.replicate (off + s.length - c.length) 0).drop (off + s.length)

theorem Try.info5 : (Try.prog.info? 5).map (fun i => (i.zero, i.size, i.bytes)) = some (some (.int .u8 0), 1, 1) := by kernel_rfl

theorem own_form {w : World} {e : TypeId} {sz n : Nat} {v : Value} {xs : List Value} (h : Own w e sz v n xs) (hn : 0 < n) : ∃ g cap, v = .slice (some ⟨g, 0, none⟩) n cap ∧ n ≤ cap := by
  rcases h.2 with ⟨_, rfl⟩ | ⟨g, cap, cur, rfl, _, _, hc, _⟩
  · omega
  · exact ⟨g, cap, rfl, hc⟩

theorem Try.size5 : (Try.prog.info? 5).map (·.size) = some 1 := by kernel_rfl
theorem own_row {w : World} {e : TypeId} {n : Nat} {g cap : Nat} {xs : List Value} (h : Own w e 1 (.slice (some ⟨g, 0, none⟩) n cap) n xs) :
    ∃ cur : List Value, w.heap[g]? = some (.cells cur.toArray e (0, 0)) ∧ n ≤ cur.length ∧ cur.take n = xs ∧ cur.length = cap := by
  rcases h.2 with ⟨h0, _⟩ | ⟨g', cap', cur, hv, _, hg, hc, _, hs, ht⟩
  · cases h0
  · injection hv with hv1 hv2 hv3
    injection hv1 with hv1
    injection hv1 with hv1
    subst hv1 hv3
    exact ⟨cur.toList, by simpa using hg, by simp; omega, by simpa using ht, by simp; omega⟩
theorem own_mk {w : World} {e : TypeId} {n : Nat} {g cap : Nat} {xs cur : List Value} (hg : w.heap[g]? = some (.cells cur.toArray e (0, 0))) (hn : n ≤ cap) (hm : cap ≤ maxLen) (hc : cur.length = cap) (ht : cur.take n = xs) : Own w e 1 (.slice (some ⟨g, 0, none⟩) n cap) n xs :=
  ⟨by rw [← ht]; simp; omega, .inr ⟨g, cap, cur.toArray, rfl, Nat.zero_le _, hg, hn, hm, by simp; omega, by simpa using ht⟩⟩
theorem Own.cap_le {w : World} {e : TypeId} {sz n c : Nat} {xs : List Value} {A : Option Addr} (h : Own w e sz (.slice A n c) n xs) : c ≤ maxLen := by
  rcases h.2 with ⟨h0, _⟩ | ⟨g', cap', cur, hv, _, hg, hc, hm, hs, ht⟩
  · injection h0 with _ _ h; subst h; exact Nat.zero_le _
  · injection hv with _ _ h; subst h; exact hm

/-- The row behind the copy holds putL. -/
theorem splice_putL (c : List UInt8) (off : Nat) (s : List UInt8) (cur : List Value) (n : Nat) (hn : n = c.length + (off + s.length - c.length))
    (ht : cur.take n = bv c ++ List.replicate (off + s.length - c.length) (.int .u8 0)) : (splice cur off (bv s)).take n = bv (putL c off s) := by
  have e : bv c ++ List.replicate (off + s.length - c.length) (.int .u8 0) = bv (c ++ List.replicate (off + s.length - c.length) 0) := by rw [bv_append, bv_zeros]
  rw [e] at ht
  have hl : (c ++ List.replicate (off + s.length - c.length) (0 : UInt8)).length = n := by simp; omega
  unfold putL
  generalize c ++ List.replicate (off + s.length - c.length) (0 : UInt8) = d at *
  have hb : off + s.length ≤ n := by omega
  have h1 : cur.take off = bv (d.take off) := by
    have h := congrArg (List.take off) ht
    rw [List.take_take, Nat.min_eq_left (by omega)] at h
    rw [h]; simp [bv, List.map_take]
  have h2 : (cur.drop (off + s.length)).take (n - (off + s.length)) = bv (d.drop (off + s.length)) := by
    have h := congrArg (List.drop (off + s.length)) ht
    rw [List.drop_take] at h
    rw [h]; simp [bv, List.map_drop]
  have l1 : (bv (d.take off)).length = off := by simp [bv_length]; omega
  have e1 : (bv (d.take off)).take n = bv (d.take off) := List.take_of_length_le (by omega)
  have e2 : (bv s).take (n - off) = bv s := List.take_of_length_le (by rw [bv_length]; omega)
  unfold splice
  rw [h1, bv_length, List.take_append, List.take_append, e1, l1, e2, bv_length, show n - off - s.length = n - (off + s.length) by omega, h2, bv_append, bv_append, List.append_assoc]
theorem putL_length (c : List UInt8) (off : Nat) (s : List UInt8) : (putL c off s).length = c.length + (off + s.length - c.length) := by
  simp [putL]; omega
theorem put_end {w1 w2 : World} {c : List UInt8} {off : Nat} {s : List UInt8} {g cap n : Nat} {cur : List Value} (hn : n = c.length + (off + s.length - c.length))
    (hcur : w1.heap[g]? = some (.cells cur.toArray 5 (0, 0))) (hc : n ≤ cur.length) (hcap : cur.length = cap) (hm : cap ≤ maxLen) (ht : cur.take n = bv c ++ List.replicate (off + s.length - c.length) (.int .u8 0))
    (hw : (bv s = [] ∧ w2 = w1) ∨ w2 = w1.setRow g (splice cur off (bv s)).toArray) :
    Own w2 5 1 (.slice (some ⟨g, 0, none⟩) n cap) (putL c off s).length (bv (putL c off s)) ∧ w1.grownBy w2 (some g) := by
  have h2 : w2 = w1.setRow g (splice cur off (bv s)).toArray := by
    rcases hw with ⟨h0, rfl⟩ | h
    · rw [h0, show splice cur off [] = cur by simp [splice], setRow_self w2 g cur.toArray 5 (0, 0) hcur]
    · exact h
  have hl : (putL c off s).length = n := by rw [putL_length, hn]
  rw [hl]
  subst h2
  refine ⟨own_mk (setRow_heap w1 g _ _ 5 _ hcur) (by omega) hm ?_ (splice_putL c off s cur n hn ht), ⟨rfl, rfl, rfl, by simp, fun k _ hk => setRow_other w1 g k _ (fun e => hk (by rw [e]))⟩⟩
  rw [length_splice _ _ _ (by rw [bv_length]; omega), hcap]

set_option maxHeartbeats 400000 in
theorem put_grow (vc : Value) (c : List UInt8) (off : Nat) (A : Option Addr) (cs : Nat) (s : List UInt8) (w : World) (hc : Own w 5 1 vc c.length (bv c)) (hs : Src w 1 (.slice A s.length cs) s.length (bv s))
    (hap : s ≠ [] → (Value.slice A s.length cs).ownBlock ≠ vc.ownBlock) (hb : off + s.length ≤ 16777216) (hcl : c.length ≤ 16777216) (hm : c.length < off + s.length) :
    Calls Try.prog 37 #[vc, .int .i64 off, .slice A s.length cs] w fun e w' => ∃ v', e = .returned v' ∧ Own w' 5 1 v' (putL c off s).length (bv (putL c off s)) ∧ w.grownBy w' vc.ownBlock ∧ (v'.ownBlock = vc.ownBlock ∨ ∃ g, v'.ownBlock = some g ∧ w.heap.size ≤ g) := by
  obtain ⟨i0, hi, hz0, hz1, hz2⟩ := info_parts Try.info5
  obtain ⟨Ac, cc, rfl⟩ := hc.slice
  go_enter Try.func37, Try.ntmps37
  go_wp2_with (first | (with_reducible refine Halt.append ?_) | (with_reducible refine Halt.copy ?_))
  refine Halt.on ?_
  refine wpList_append_zeros _ rfl (.tmp 17) (.tmp 18) 56 3 rfl 5 i0 (.int .u8 0) 1 .i64 .i64 Try.underlying56 Try.underlying3 hi hz0 hz1 hz2 rfl rfl (.slice Ac c.length cc) c.length (bv c) (by rfl) hc _ (by rfl) (off + s.length - c.length) (by omega) (by omega) (by unfold maxLen; omega) (by omega) ?_
  intro v1 w1 hown1 hg1 hat1
  obtain ⟨g, cap, hv1, hlt⟩ := own_form hown1 (by omega)
  subst hv1
  obtain ⟨cur, hcur, hcl1, htk, hcp⟩ := own_row hown1
  have HK := hide hcur; clear hcur
  have HT := hide htk; clear htk
  have hin : g = w.heap.size ∨ some g = (Value.slice Ac c.length cc).ownBlock := by
    rcases hat1 with e | e
    · exact .inr e
    · injection e with e; exact .inl e
  clear hat1
  by_cases hco : off = cap
  · subst hco
    go_wp2_with (first | (with_reducible refine Halt.append ?_) | (with_reducible refine Halt.copy ?_))
    refine Halt.on ?_
    refine wpList_copy_at _ rfl (.tmp 22) (.tmp 23) 56 56 rfl 5 Try.underlying56 Try.size5 _ _ _ _ _ _ (by rfl) (by rfl) g off cur 5 (bv s) (by rw [bv_length]; simp only [Nat.min_def]; split <;> omega) ?_ (bv_one s) ?_
    · intro hpos
      rw [bv_length] at hpos
      obtain ⟨_, A', c', hA', hnil, hcells⟩ := hs
      injection hA' with hA' _ _
      subst hA'
      cases A with
      | none => exact absurd (hnil rfl) (by omega)
      | some ad =>
        refine ⟨by first | rfl | (exfalso; omega), HK.out, by rw [bv_length]; omega, ad, rfl, fun j u hu => ?_⟩
        have hcell := hcells ad rfl j u hu
        have hb' : (ad.add j).block = ad.block := by unfold Addr.add; split <;> rfl
        have hbl := World.block_lt_of_cell? w _ hcell
        rw [← hcell]
        refine World.cell?_of_block (hg1.block _ hbl ?_)
        rw [hb']
        exact hap (by rintro rfl; simp at hpos)
    · intro w2 hw2
      go_wp2_with fail
      go_ret
      have hend := put_end rfl HK.out hcl1 hcp hown1.cap_le HT.out hw2
      refine ⟨_, rfl, hend.1, ?_, ?_⟩
      · rcases hin with e | e
        · exact ⟨hend.2.os.trans hg1.os, hend.2.tape.trans hg1.tape, hend.2.output.trans hg1.output, Nat.le_trans hg1.size hend.2.size, fun k hk hne => (hend.2.block k (Nat.lt_of_lt_of_le hk hg1.size) (fun e' => by injection e' with e'; omega)).trans (hg1.block k hk hne)⟩
        · exact hg1.trans (e ▸ hend.2)
      · rcases hin with e | e
        · exact .inr ⟨g, rfl, by omega⟩
        · exact .inl e
  · have hco' : ¬ cap = off := fun h => hco h.symm
    go_wp2_with (first | (with_reducible refine Halt.append ?_) | (with_reducible refine Halt.copy ?_))
    refine Halt.on ?_
    refine wpList_copy_at _ rfl (.tmp 22) (.tmp 23) 56 56 rfl 5 Try.underlying56 Try.size5 _ _ _ _ _ _ (by rfl) (by rfl) g off cur 5 (bv s) (by rw [bv_length]; simp only [Nat.min_def]; split <;> omega) ?_ (bv_one s) ?_
    · intro hpos
      rw [bv_length] at hpos
      obtain ⟨_, A', c', hA', hnil, hcells⟩ := hs
      injection hA' with hA' _ _
      subst hA'
      cases A with
      | none => exact absurd (hnil rfl) (by omega)
      | some ad =>
        refine ⟨by first | rfl | (exfalso; omega), HK.out, by rw [bv_length]; omega, ad, rfl, fun j u hu => ?_⟩
        have hcell := hcells ad rfl j u hu
        have hb' : (ad.add j).block = ad.block := by unfold Addr.add; split <;> rfl
        have hbl := World.block_lt_of_cell? w _ hcell
        rw [← hcell]
        refine World.cell?_of_block (hg1.block _ hbl ?_)
        rw [hb']
        exact hap (by rintro rfl; simp at hpos)
    · intro w2 hw2
      go_wp2_with fail
      go_ret
      have hend := put_end rfl HK.out hcl1 hcp hown1.cap_le HT.out hw2
      refine ⟨_, rfl, hend.1, ?_, ?_⟩
      · rcases hin with e | e
        · exact ⟨hend.2.os.trans hg1.os, hend.2.tape.trans hg1.tape, hend.2.output.trans hg1.output, Nat.le_trans hg1.size hend.2.size, fun k hk hne => (hend.2.block k (Nat.lt_of_lt_of_le hk hg1.size) (fun e' => by injection e' with e'; omega)).trans (hg1.block k hk hne)⟩
        · exact hg1.trans (e ▸ hend.2)
      · rcases hin with e | e
        · exact .inr ⟨g, rfl, by omega⟩
        · exact .inl e

set_option maxHeartbeats 400000 in
theorem put_stay (vc : Value) (c : List UInt8) (off : Nat) (A : Option Addr) (cs : Nat) (s : List UInt8) (w : World) (hc : Own w 5 1 vc c.length (bv c)) (hs : Src w 1 (.slice A s.length cs) s.length (bv s))
    (hap : s ≠ [] → (Value.slice A s.length cs).ownBlock ≠ vc.ownBlock) (hb : off + s.length ≤ 16777216) (hcl : c.length ≤ 16777216) (hm : off + s.length ≤ c.length) :
    Calls Try.prog 37 #[vc, .int .i64 off, .slice A s.length cs] w fun e w' => ∃ v', e = .returned v' ∧ Own w' 5 1 v' (putL c off s).length (bv (putL c off s)) ∧ w.grownBy w' vc.ownBlock ∧ (v'.ownBlock = vc.ownBlock ∨ ∃ g, v'.ownBlock = some g ∧ w.heap.size ≤ g) := by
  rcases Nat.eq_zero_or_pos c.length with h0 | h0
  · obtain rfl : c = [] := List.eq_nil_of_length_eq_zero h0
    obtain rfl : s = [] := List.eq_nil_of_length_eq_zero (by have := hm; simp only [List.length_nil] at this; omega)
    obtain rfl : off = 0 := by have := hm; simp only [List.length_nil] at this; omega
    obtain ⟨Ac, cc, rfl⟩ := hc.slice
    have HC := hide hc
    clear hc hs hap
    simp only [List.length_nil]
    go_enter Try.func37, Try.ntmps37
    go_wp2_with (first | (with_reducible refine Halt.append ?_) | (with_reducible refine Halt.copy ?_))
    all_goals
      refine Halt.on ?_
      refine wpList_copy_nothing rfl (.tmp 22) (.tmp 23) 56 56 rfl 5 Try.underlying56 Try.size5 _ _ _ _ _ _ (by rfl) (by rfl) (by simp) ?_
      go_wp2_with fail
      go_ret
      exact ⟨_, rfl, by simpa [putL] using HC.out, World.grownBy.refl _ _, .inl rfl⟩
  · obtain ⟨g, cap, rfl, hlt⟩ := own_form hc h0
    obtain ⟨cur, hcur, hcl1, htk, hcp⟩ := own_row hc
    have HK := hide hcur
    clear hcur
    have HT := hide htk
    clear htk
    by_cases hco : off = cap
    · subst hco
      go_enter Try.func37, Try.ntmps37
      go_wp2_with (first | (with_reducible refine Halt.append ?_) | (with_reducible refine Halt.copy ?_))
      refine Halt.on ?_
      refine wpList_copy_at _ rfl (.tmp 22) (.tmp 23) 56 56 rfl 5 Try.underlying56 Try.size5 _ _ _ _ _ _ (by rfl) (by rfl) g off cur 5 (bv s) (by rw [bv_length]; simp only [Nat.min_def]; split <;> omega) ?_ (bv_one s) ?_
      · intro hpos
        rw [bv_length] at hpos
        obtain ⟨_, A', c', hA', hnil, hcells⟩ := hs
        injection hA' with hA' _ _
        subst hA'
        cases A with
        | none => exact absurd (hnil rfl) (by omega)
        | some ad => exact ⟨by first | rfl | (exfalso; omega), HK.out, by rw [bv_length]; omega, ad, rfl, fun j u hu => hcells ad rfl j u hu⟩
      · intro w2 hw2
        go_wp2_with fail
        go_ret
        have hk0 : off + s.length - c.length = 0 := by omega
        have hend := put_end (c := c) (off := off) (s := s) (n := c.length) (by omega) HK.out hcl1 hcp hc.cap_le (by rw [hk0, HT.out]; simp) hw2
        exact ⟨_, rfl, hend.1, hend.2, .inl rfl⟩
    · have hco' : ¬ cap = off := fun h => hco h.symm
      go_enter Try.func37, Try.ntmps37
      go_wp2_with (first | (with_reducible refine Halt.append ?_) | (with_reducible refine Halt.copy ?_))
      refine Halt.on ?_
      refine wpList_copy_at _ rfl (.tmp 22) (.tmp 23) 56 56 rfl 5 Try.underlying56 Try.size5 _ _ _ _ _ _ (by rfl) (by rfl) g off cur 5 (bv s) (by rw [bv_length]; simp only [Nat.min_def]; split <;> omega) ?_ (bv_one s) ?_
      · intro hpos
        rw [bv_length] at hpos
        obtain ⟨_, A', c', hA', hnil, hcells⟩ := hs
        injection hA' with hA' _ _
        subst hA'
        cases A with
        | none => exact absurd (hnil rfl) (by omega)
        | some ad => exact ⟨by first | rfl | (exfalso; omega), HK.out, by rw [bv_length]; omega, ad, rfl, fun j u hu => hcells ad rfl j u hu⟩
      · intro w2 hw2
        go_wp2_with fail
        go_ret
        have hk0 : off + s.length - c.length = 0 := by omega
        have hend := put_end (c := c) (off := off) (s := s) (n := c.length) (by omega) HK.out hcl1 hcp hc.cap_le (by rw [hk0, HT.out]; simp) hw2
        exact ⟨_, rfl, hend.1, hend.2, .inl rfl⟩

/-- put(c, off, s): c's row, or a new one, holds putL; nothing else that was there has turned. -/
theorem put_any (vc : Value) (c : List UInt8) (off : Nat) (A : Option Addr) (cs : Nat) (s : List UInt8) (w : World) (hc : Own w 5 1 vc c.length (bv c)) (hs : Src w 1 (.slice A s.length cs) s.length (bv s))
    (hap : s ≠ [] → (Value.slice A s.length cs).ownBlock ≠ vc.ownBlock) (hb : off + s.length ≤ 16777216) (hcl : c.length ≤ 16777216) :
    Calls Try.prog 37 #[vc, .int .i64 off, .slice A s.length cs] w fun e w' => ∃ v', e = .returned v' ∧ Own w' 5 1 v' (putL c off s).length (bv (putL c off s)) ∧ w.grownBy w' vc.ownBlock ∧ (v'.ownBlock = vc.ownBlock ∨ ∃ g, v'.ownBlock = some g ∧ w.heap.size ≤ g) := by
  rcases Nat.lt_or_ge c.length (off + s.length) with h | h
  · exact put_grow vc c off A cs s w hc hs hap hb hcl h
  · exact put_stay vc c off A cs s w hc hs hap hb hcl h
end Go.Proofs.Ytppgddigcoojiaa

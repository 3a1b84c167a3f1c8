/- The contracts of the reference model's Read and Write. -/
import Derived.Test.YtppgddigcoojiaaRef
namespace Go.Proofs.Ytppgddigcoojiaa
open Go.RowKit

set_option maxHeartbeats 400000 in
theorem rread_none (g : Nat) (F : List Nat) (S : DS) (off n : Int) (w : World) (hd : IsRef w g F S) (hn : off < 0 ∨ n < 1 ∨ (S.now.length : Int) ≤ off) :
    Calls Try.prog 31 #[.pointer (some ⟨g, 0, none⟩), .int .i64 off, .int .i64 n] w fun e w' => e = .returned (.string (bs (readL S.now off n))) ∧ Keeps [] w w' := by
  have hr : readL S.now off n = [] := by unfold readL; rw [if_pos hn]
  rw [hr]
  obtain ⟨bn, by_, vp, hd⟩ := hd
  have hl : bn.size = S.now.length := by rw [← hd.now, sLen]
  rw [← hl] at hn
  have h := hd.blk.cell 0
  clear hd hr hl
  simp at h
  by_cases ha : off < 0
  · clear hn
    go_enter Try.func31, Try.ntmps31
    go_wp2
    go_ret
    exact ⟨rfl, Keeps.refl _ _⟩
  · by_cases hb : n < 1
    · clear hn
      go_enter Try.func31, Try.ntmps31
      go_wp2
      go_ret
      exact ⟨rfl, Keeps.refl _ _⟩
    · have hc : (bn.size : Int) ≤ off := by omega
      clear hn
      go_enter Try.func31, Try.ntmps31
      go_wp2
      go_ret
      exact ⟨rfl, Keeps.refl _ _⟩

set_option maxHeartbeats 400000 in
theorem rread_some (g : Nat) (F : List Nat) (S : DS) (off : Nat) (n : Nat) (w : World) (hd : IsRef w g F S) (hn : 1 ≤ n) (hn' : n ≤ 9223372036854775807) (hoff : off < S.now.length) :
    Calls Try.prog 31 #[.pointer (some ⟨g, 0, none⟩), .int .i64 off, .int .i64 n] w fun e w' => e = .returned (.string (bs (readL S.now off n))) ∧ Keeps [] w w' := by
  obtain ⟨bn, by_, vp, hd⟩ := hd
  have hl : bn.size = S.now.length := by rw [← hd.now, sLen]
  have hok := hd.ok.now
  rw [← hl] at hoff hok
  obtain ⟨m, hm⟩ : ∃ m : Nat, (if (bn.size : Int) - off < n then (bn.size : Int) - off else n) = (m : Int) := ⟨min n (bn.size - off), by split <;> omega⟩
  have hmb : off + m ≤ bn.size := by split at hm <;> omega
  have hmb' : (off : Int) + m ≤ bn.size := by omega
  have hto : ((off : Int) + m).toNat = off + m := by omega
  have hrd : bn.extract off (off + m) = bs (readL S.now off n) := by
    apply sExt
    rw [sCut _ _ _ hmb, bs_list, ← hd.now]
    unfold readL
    rw [sLen, if_neg (by omega), Int.toNat_natCast, show off + m - off = m by omega]
    congr 1
    split at hm <;> omega
  have HR := hide hrd
  have h := hd.blk.cell 0
  have hwk : IntKind.i64.wrap ((off : Int) + (m : Int)) = (off : Int) + m := IntWalk.i64_in _ (by omega)
  clear hd hl hrd
  simp at h
  go_enter Try.func31, Try.ntmps31
  go_wp2
  go_quiet (fail)
  go_wp2
  go_ret
  exact ⟨by rw [← HR.out]; rfl, (Keeps.refl _ _).drewN _⟩

theorem rread_any (g : Nat) (F : List Nat) (S : DS) (off n : Int) (w : World) (hd : IsRef w g F S) (h3 : n ≤ 9223372036854775807) :
    Calls Try.prog 31 #[.pointer (some ⟨g, 0, none⟩), .int .i64 off, .int .i64 n] w fun e w' => e = .returned (.string (bs (readL S.now off n))) ∧ Keeps [] w w' := by
  by_cases h : off < 0 ∨ n < 1 ∨ (S.now.length : Int) ≤ off
  · exact rread_none g F S off n w hd h
  · obtain ⟨o, rfl⟩ : ∃ o : Nat, off = o := ⟨off.toNat, by omega⟩
    obtain ⟨m, rfl⟩ : ∃ m : Nat, n = m := ⟨n.toNat, by omega⟩
    exact rread_some g F S o m w hd (by omega) (by omega) (by omega)

theorem Try.info73 : (Try.prog.info? 73).map (fun i => (i.zero, i.size, i.bytes)) = some (some (.agg #[.int .i64 0, .string ⟨#[]⟩]), 2, 24) := by kernel_rfl

theorem rwrite_step (w wr w5 : World) (g : Nat) (F Fr : List Nat) (S1 : DS) (off : Nat) (s : ByteArray) (a n : Nat) (pr Ps : List (Nat × List UInt8)) (Ap : Option Addr) (cp : Nat) (bn' by' : ByteArray) (A5 : Option Addr) (c5 : Nat)
    (hnt : a + n ≤ s.size) (hnp : 0 < n) (hn : n = min (64 - (off + a) % 64) (s.size - a)) (hPs : S1.pieces ++ pr = Ps) (hPl : Ps.length < 1099511627776) (hl : off + s.size ≤ 16777216)
    (h1 : partsL off s.data.toList = pr ++ partsL (off + a) (s.data.toList.drop a)) (had : Adds w F Fr) (hk : Keeps F w wr)
    (hd : RefAt wr g Fr { S1 with now := putL S1.now off s.data.toList, pieces := Ps } bn' by' (.slice Ap Ps.length cp))
    (hown : Own w5 73 2 (.slice A5 (Ps.length + 1) c5) (Ps.length + 1) (rcs Ps ++ [.int .i64 ((off : Int) + a), .string (s.extract a (a + n))]))
    (hg : (wr.alloc (.cells #[.int .i64 ((off : Int) + a), .string (s.extract a (a + n))] 73)).drew.grownBy w5 (Value.slice Ap Ps.length cp).ownBlock)
    (hat : (Value.slice A5 (Ps.length + 1) c5).ownBlock = (Value.slice Ap Ps.length cp).ownBlock ∨ (Value.slice A5 (Ps.length + 1) c5).ownBlock = some (wr.alloc (.cells #[.int .i64 ((off : Int) + a), .string (s.extract a (a + n))] 73)).drew.heap.size) :
    partsL off s.data.toList = pr ++ [(off + a, (s.extract a (a + n)).data.toList)] ++ partsL (off + (a + n)) (s.data.toList.drop (a + n)) ∧
    IsRef (w5.setCell ⟨g, 2, none⟩ (.slice A5 (Ps.length + 1) c5)) g ((Value.slice A5 (Ps.length + 1) c5).ownBlock.toList ++ Fr) { S1 with now := putL S1.now off s.data.toList, pieces := S1.pieces ++ (pr ++ [(off + a, (s.extract a (a + n)).data.toList)]) } ∧
    Adds w F ((Value.slice A5 (Ps.length + 1) c5).ownBlock.toList ++ Fr) ∧ Keeps F w (w5.setCell ⟨g, 2, none⟩ (.slice A5 (Ps.length + 1) c5)) := by
  have n3 : (Value.slice Ap Ps.length cp).ownBlock ≠ some g := hd.pcs.bk_ne hd.blk (by decide)
  have hb5 := (hd.blk.alloc (.cells #[.int .i64 ((off : Int) + a), .string (s.extract a (a + n))] 73)).drew.grown hg (fun e => n3 e.symm)
  have k1 : Keeps Fr wr w5 := (((Keeps.refl Fr wr).alloc _).drew).trans' (Keeps.of_grown hg (fun b hb => hd.pin b hb))
  have k3 : Keeps [g] w5 (w5.setCell ⟨g, 2, none⟩ (.slice A5 (Ps.length + 1) c5)) := (Keeps.refl _ _).setCell (.inl (by simp)) _
  have hv : ∀ k, (Value.slice A5 (Ps.length + 1) c5).ownBlock = some k → (Value.slice Ap Ps.length cp).ownBlock = some k ∨ wr.heap.size ≤ k := by
    intro k hq
    rcases hat with e | e
    · exact .inl (by rw [← e]; exact hq)
    · rw [hq] at e; injection e with e; subst e; exact .inr (by simp)
  have hsz := k1.size
  have hwz := hk.size
  refine ⟨?_, ⟨bn', by', .slice A5 (Ps.length + 1) c5, ?_⟩, ?_, ?_⟩
  · have hne : s.data.toList.drop a ≠ [] := by
      intro h0
      have := congrArg List.length h0
      simp at this
      omega
    rw [h1, partsL_cons (off + a) (s.data.toList.drop a) hne, List.length_drop, sLen, ← hn, sCut _ _ _ hnt, show a + n - a = n by omega]
    simp [Nat.add_assoc]
  · refine ⟨hb5.set 2 _, by simp [hd.gin], hd.now, hd.syn, ?_, fun b hb => by simp [hb], ?_, ?_⟩
    · have e1 : S1.pieces ++ (pr ++ [(off + a, (s.extract a (a + n)).data.toList)]) = Ps ++ [(off + a, (s.extract a (a + n)).data.toList)] := by rw [← hPs]; simp
      have e2 : rcs [(off + a, (s.extract a (a + n)).data.toList)] = [.int .i64 ((off : Int) + a), .string (s.extract a (a + n))] := by
        unfold rcs
        simp only [List.flatMap_cons, List.flatMap_nil, List.append_nil, bs_data, Int.natCast_add]
      simp only
      rw [e1, rcs_append, e2, List.length_append]
      refine Own.keep hown k3 (fun k hq => ?_)
      simp
      rintro rfl
      rcases hv k hq with e | e
      · exact n3 e
      · have := hd.blk.lt; omega
    · intro k hkk
      rw [List.mem_append] at hkk
      rcases hkk with hkk | hkk
      · have := Own.lt hown k (by simpa using hkk); simpa using this
      · exact (hd.all.keep k1).keep k3 k hkk
    · have o := hd.ok
      refine ⟨o.now, o.synced, ?_, o.lo, o.hi, ?_, o.calls⟩
      · intro p hp
        simp only [← List.append_assoc, hPs, List.mem_append, List.mem_singleton] at hp
        rcases hp with hp | rfl
        · exact o.pieces p hp
        · simp only [sLen, ByteArray.size_extract]; omega
      · simp only [← List.append_assoc, hPs, List.length_append, List.length_singleton]; omega
  · intro k hkk
    rw [List.mem_append] at hkk
    rcases hkk with hkk | hkk
    · rcases hv k (by simpa using hkk) with e | e
      · exact had k (hd.pin k e)
      · exact .inr (by omega)
    · exact had k hkk
  · exact (hk.trans k1 had).trans k3 (fun i hi => by simp at hi; subst hi; exact had i hd.gin)

set_option maxHeartbeats 800000 in
theorem rwrite_on (g : Nat) (F : List Nat) (S : DS) (off : Nat) (s : ByteArray) (w : World) (hd : IsRef w g F S) (ho : S.off = false) (hc : S.calls < 1099511627776) (hl : off + s.size ≤ 16777216) (hp : S.pieces.length + s.size ≤ 1099511627776) :
    Calls Try.prog 32 #[.pointer (some ⟨g, 0, none⟩), .int .i64 off, .string s] w fun e w' => e = .returned (.int .i64 0) ∧ ∃ F', IsRef w' g F' (writeS (rcallS S) off s.data.toList) ∧ Adds w F F' ∧ Keeps F w w' := by
  obtain ⟨i0, hi, hz0, hz1, hz2⟩ := info_parts Try.info73
  have d1 : decide ((off : Int) < 0) = false := by simp
  have d2 : decide ((16777216 : Int) < off) = false := by simp; omega
  have d3 : decide (16777216 < (off : Int) + s.size) = false := by simp; omega
  go_enter Try.func32, Try.ntmps32
  go_wp2_with fail
  refine (roff_on g F S w hd ho hc).mono ?_
  rintro e w1 ⟨rfl, hd1, hk1⟩
  have HK1 := hide hk1
  clear hk1 hd
  generalize hS : rcallS S = S1 at hd1
  have hS1p : S1.pieces.length ≤ S.pieces.length := by rw [← hS]; exact Nat.le_refl _
  have HS := hide hS
  clear hS
  obtain ⟨bn, by_, vp, hd1⟩ := hd1
  have hbl : bn.size ≤ 16777216 := by rw [← sLen, hd1.now]; exact hd1.ok.now
  have c0 := hd1.blk.cell 0
  simp at c0
  have HD := hide hd1
  clear hd1
  go_wp2_with fail
  refine (rput_any bn off s w1 hbl hl).mono ?_
  rintro e w2 ⟨rfl, hk2⟩
  have hd2 := HD.out.keep hk2 (apart_nil F)
  have hpl := putL_length bn.data.toList off s.data.toList
  rw [sLen, sLen] at hpl
  have hset : IsRef (w2.setCell ⟨g, 0, none⟩ (.string (bs (putL bn.data.toList off s.data.toList)))) g F { S1 with now := putL S1.now off s.data.toList } ∧ Keeps F w (w2.setCell ⟨g, 0, none⟩ (.string (bs (putL bn.data.toList off s.data.toList)))) := by
    have k : Keeps [g] w2 (w2.setCell ⟨g, 0, none⟩ (.string (bs (putL bn.data.toList off s.data.toList)))) := (Keeps.refl _ _).setCell (.inl (by simp)) _
    refine ⟨⟨bs (putL bn.data.toList off s.data.toList), by_, vp, hd2.flags k (hd2.blk.set 0 _) (by rw [bs_list, hd2.now]) hd2.syn rfl ?_⟩, (HK1.out.trans' hk2.nil).trans k (fun i hi => .inl (by simp at hi; subst hi; exact hd2.gin))⟩
    have o := hd2.ok
    have := hd2.now
    exact ⟨by rw [← this]; simp only; omega, o.synced, o.pieces, o.lo, o.hi, o.many, o.calls⟩
  have c02 := hd2.blk.cell 0
  have f02 := hd2.blk.free 0
  simp at c02
  have HSET := hide hset
  clear hset hd2 hk2 hpl
  go_wp2_with fail
  generalize hw4 : w2.setCell ⟨g, 0, none⟩ (.string (bs (putL bn.data.toList off s.data.toList))) = w4
  rw [hw4] at HSET
  clear hw4 c02 f02 c0
  go_loopw [8] (fun o wr => ∃ (a : Nat) (pr : List (Nat × List UInt8)) (Fr : List Nat), o = .int .i64 a ∧ a ≤ s.size ∧ pr.length ≤ a ∧
      Hid (partsL off s.data.toList = pr ++ partsL (off + a) (s.data.toList.drop a) ∧ IsRef wr g Fr { S1 with now := putL S1.now off s.data.toList, pieces := S1.pieces ++ pr } ∧ Adds w F Fr ∧ Keeps F w wr)) (fun o _ => s.size - (intOf o).toNat)
  case atStart => exact ⟨0, [], F, rfl, Nat.zero_le _, by simp, hide ⟨by simp, by simpa using HSET.out.1, Adds.refl _ _, HSET.out.2⟩⟩
  case round =>
    obtain ⟨a, pr, Fr, rfl, ha, hpr, HR⟩ := hrel
    by_cases hlt : a < s.size
    · obtain ⟨n, hn⟩ : ∃ n : Nat, (if (s.size : Int) - a < 64 - ((off : Int) + a) % 64 then (s.size : Int) - a else 64 - ((off : Int) + a) % 64) = (n : Int) := ⟨min (64 - (off + a) % 64) (s.size - a), by split <;> omega⟩
      have hnt : a + n ≤ s.size := by split at hn <;> omega
      have hnp : 0 < n := by split at hn <;> omega
      have hnm : n = min (64 - (off + a) % 64) (s.size - a) := by split at hn <;> omega
      have HN := hide hnm
      clear hnm
      obtain ⟨bn', by', vp', hdr⟩ := HR.out.2.1
      have hPl : (S1.pieces ++ pr).length < 1099511627776 := by rw [List.length_append]; omega
      generalize hPs : S1.pieces ++ pr = Ps at hdr hPl
      have HPS := hide hPs
      clear hPs
      obtain ⟨Ap, cp, rfl⟩ := hdr.pcs.slice
      have hgl := hdr.blk.lt
      have c2 := hdr.blk.cell 2
      have f2 := hdr.blk.free 2
      simp at c2
      have n3 : (Value.slice Ap Ps.length cp).ownBlock ≠ some g := hdr.pcs.bk_ne hdr.blk (by decide)
      have HDR := hide hdr
      clear hdr
      go_wp2_with fail
      have e1 : IntKind.i64.wrap ((a : Int) + n) = (a : Int) + n := IntWalk.i64_in _ (by omega)
      have e2 : IntKind.i64.wrap ((off : Int) + a) = (off : Int) + a := IntWalk.i64_in _ (by omega)
      have e3 : ((a : Int) + n).toNat = a + n := by omega
      have e4 : (a : Int) + n ≤ s.size := by omega
      have e5 : (0 : Int) ≤ (a : Int) + n := by omega
      have e6 : (a : Int) ≤ (a : Int) + n := by omega
      have hsrc : Src (wr.alloc (.cells #[.int .i64 ((off : Int) + a), .string (s.extract a (a + n))] 73)).drew 2 (.slice (some ⟨wr.heap.size, 0, none⟩) 1 1) 1 [.int .i64 ((off : Int) + a), .string (s.extract a (a + n))] :=
        Src.built wr 73 #[.int .i64 ((off : Int) + a), .string (s.extract a (a + n))] 2 1 rfl _ rfl
      have h1 : ∀ u ∈ [Value.int .i64 ((off : Int) + a), .string (s.extract a (a + n))], u.oneCell' = true := by intro u hu; simp at hu; rcases hu with rfl | rfl <;> rfl
      have HSR := hide hsrc
      have H1 := hide h1
      clear hsrc h1
      go_region_law
        ((refine step_append_src _ (by rfl) _ _ _ (by rfl) 73 i0 _ 2 24 Try.underlying64 hi hz0 hz1 hz2 rfl (by omega) (.slice Ap Ps.length cp) Ps.length _ (by rfl) (HDR.out.pcs.alloc _).drew (.slice (some ⟨wr.heap.size, 0, none⟩) 1 1) 1 _ (by rfl) HSR.out H1.out (by unfold maxLen; omega) (by omega) ?_; intro v5 w5 hown5 hg5 hat5; obtain ⟨A5, c5, hv5⟩ := hown5.slice; subst hv5
          have hb5 := (HDR.out.blk.alloc (.cells #[.int .i64 ((off : Int) + a), .string (s.extract a (a + n))] 73)).drew.grown hg5 (fun e => n3 e.symm)
          have k2 := hb5.cell 2; have q2 := hb5.free 2; simp at k2
          have HB5 := hide hb5; clear hb5))
      all_goals
        go_wp2_with fail
        go_roundw
        case rel =>
          exact ⟨a + n, pr ++ [(off + a, (s.extract a (a + n)).data.toList)], _, by go_num, hnt, by simp; omega, hide (rwrite_step w wr w5 g F Fr S1 off s a n pr Ps Ap cp bn' by' A5 c5 hnt hnp HN.out HPS.out hPl hl HR.out.1 HR.out.2.2.1 HR.out.2.2.2 HDR.out hown5 hg5 hat5)⟩
        case measure => simp [intOf]; omega
    · go_wp2_with fail
      go_ret
      refine ⟨rfl, Fr, ?_, HR.out.2.2.1, HR.out.2.2.2⟩
      have h1 := HR.out.1
      rw [List.drop_of_length_le (by rw [sLen]; omega), partsL_nil, List.append_nil] at h1
      rw [HS.out]
      unfold writeS
      rw [h1]
      exact HR.out.2.1

theorem rwrite_off (g : Nat) (F : List Nat) (S : DS) (off : Nat) (s : ByteArray) (w : World) (hd : IsRef w g F S) (ho : S.off = true) (hl : off + s.size ≤ 16777216) :
    Calls Try.prog 32 #[.pointer (some ⟨g, 0, none⟩), .int .i64 off, .string s] w fun e w' => e = .returned (.int .i64 70) ∧ w = w' := by
  go_enter Try.func32, Try.ntmps32
  go_wp2_with fail
  refine (roff_off g F S w hd ho).mono ?_
  rintro e w1 ⟨rfl, rfl⟩
  go_wp2_with fail
  go_ret
  exact ⟨rfl, rfl⟩

theorem rwrite_arg (a : Addr) (off : Int) (s : ByteArray) (w : World) (_h1 : -9223372036854775808 ≤ off) (_h2 : off ≤ 9223372036854775807) (_hs : s.size ≤ 140737488355328) (hl : off < 0 ∨ 16777216 < off + s.size) :
    Calls Try.prog 32 #[.pointer (some a), .int .i64 off, .string s] w fun e w' => e = .returned (.int .i64 1) ∧ w = w' := by
  by_cases ha : off < 0
  · clear hl
    go_enter Try.func32, Try.ntmps32
    go_wp2_with fail
    go_ret
    exact ⟨rfl, rfl⟩
  · by_cases hb : 16777216 < off
    · clear hl
      go_enter Try.func32, Try.ntmps32
      go_wp2_with fail
      go_ret
      exact ⟨rfl, rfl⟩
    · have hc : 16777216 < off + (s.size : Int) := by omega
      clear hl
      go_enter Try.func32, Try.ntmps32
      go_wp2_with fail
      go_ret
      exact ⟨rfl, rfl⟩
end Go.Proofs.Ytppgddigcoojiaa

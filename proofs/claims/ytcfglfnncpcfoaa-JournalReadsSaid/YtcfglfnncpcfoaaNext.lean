/- codec.unpacker.next. -/
import Derived.Test.YtcfglfnncpcfoaaNum
namespace Go.Proofs.Ytcfglfnncpcfoaa
open Go.RowKit Go.Shelf
def stepU (l : List UInt8) (o : List ByteArray) : List UInt8 × Int × List ByteArray :=
  if (readN l).2.2 ≠ 0 then (l.drop (readN l).2.1, (readN l).2.2, o)
  else if (l.drop (readN l).2.1).length < (readN l).1 then (l.drop (readN l).2.1, 10, o)
  else ((l.drop (readN l).2.1).drop (readN l).1, 0, o ++ [bs ((l.drop (readN l).2.1).take (readN l).1)])
abbrev OS (w : World) (v : Value) (o : List ByteArray) : Prop := Own w 9 1 v o.length (ssv o)
def New (w : World) (v : Value) : Prop := ∀ g, v.ownBlock = some g → w.heap.size ≤ g
structure UpAt (W0 w : World) (b : Nat) (l : List UInt8) (e : Int) (o : List ByteArray) : Prop where
  keep : Keeps [] W0 w
  new : W0.heap.size ≤ b
  ex : ∃ vo, Bk w b 106 #[.string (bs l), .int .i64 e, vo] ∧ OS w vo o ∧ New W0 vo
theorem Try.info9b : (Try.prog.info? 9).map (fun i => (i.zero, i.size, i.bytes)) = some (some (.string ⟨#[]⟩), 1, 16) := by kernel_rfl
theorem step_own {w wr w' : World} {v v' : Value} (hK : Keeps [] w wr) (hn : New w v) (hg : wr.grownBy w' v.ownBlock) (hb : v'.ownBlock = v.ownBlock ∨ v'.ownBlock = some wr.heap.size) : Keeps [] w w' ∧ New w v' := by
  refine ⟨hK.trans (Keeps.of_grown (F := v.ownBlock.toList) hg (fun k hk => by simp [hk])) (fun i hi => .inr (hn i (by simpa using hi))), fun g hg' => ?_⟩
  rcases hb with h | h
  · exact hn g (h ▸ hg')
  · rw [h] at hg'
    cases hg'
    exact hK.size
theorem ssv_append (l m : List ByteArray) : ssv (l ++ m) = ssv l ++ ssv m := by simp [ssv]
theorem ssv_one (l : List ByteArray) : ∀ u ∈ ssv l, u.oneCell' = true := by
  intro u hu
  simp only [ssv, List.mem_map] at hu
  obtain ⟨b, _, rfl⟩ := hu
  rfl
set_option maxHeartbeats 4000000 in
set_option maxRecDepth 100000 in
theorem next_any (W0 w : World) (b : Nat) (l : List UInt8) (o : List ByteArray) (h : UpAt W0 w b l 0 o) (hl : l.length ≤ 140737488355328) (ho : o.length ≤ 1000000000) :
    Calls Try.prog 57 #[.pointer (some ⟨b, 0, none⟩)] w fun e w' => e = .returned (.tuple #[]) ∧ UpAt W0 w' b (stepU l o).1 (stepU l o).2.1 (stepU l o).2.2 := by
  obtain ⟨vo, hb, hown, hnew⟩ := h.ex
  obtain ⟨A, c, rfl⟩ := Own.slice hown
  have hne : (Value.slice A o.length c).ownBlock ≠ some b := Own.bk_ne hown hb (by decide)
  have HK := hide h.keep
  have HN := hide hnew
  have HNB := hide h.new
  have HO := hide hown
  have HNE := hide hne
  have hnum := number_at b 106 l [.slice A o.length c] w hl hb
  obtain ⟨i0, hi, hz0, hz1, hz2⟩ := info_parts Try.info9b
  clear h hnew hown hne hb
  go_enter Try.func57, Try.ntmps57
  go_wp2_with fail
  refine hnum.mono ?_
  rintro e w1 ⟨rfl, hb1, k1⟩
  have HO1 := hide (Own.keep HO.out k1 (fun g hg hm => HNE.out (by rw [hg]; simpa using hm)))
  have HK1 := hide (HK.out.trans k1 (fun i hi => .inr (by simp at hi; subst hi; exact HNB.out)))
  have hsz := readN_size l
  have hlt := readN_lt l
  have hdl : (l.drop (readN l).2.1).length ≤ l.length := by rw [List.length_drop]; omega
  obtain ⟨⟨n, sz, er⟩, hr⟩ : ∃ r, r = readN l := ⟨_, rfl⟩
  have hst : stepU l o = if er ≠ 0 then (l.drop sz, er, o) else if (l.drop sz).length < n then (l.drop sz, 10, o) else ((l.drop sz).drop n, 0, o ++ [bs ((l.drop sz).take n)]) := by rw [stepU, ← hr]
  rw [← hr] at hb1 hsz hlt hdl ⊢
  simp only at hb1 hsz hlt hdl ⊢
  clear hnum HO HK hr
  generalize l.drop sz = m at hst hb1 hdl
  have HST := hide hst
  have HB1 := hide hb1
  have c0 : w1.cell? ⟨b, 0, none⟩ = some (.string (bs m)) := by rw [hb1.cell]; rfl
  have c1 : w1.cell? ⟨b, 1, none⟩ = some (.int .i64 er) := by rw [hb1.cell]; rfl
  have c2 : w1.cell? ⟨b, 2, none⟩ = some (.slice A o.length c) := by rw [hb1.cell]; rfl
  have f0 := hb1.free 0
  have f1 := hb1.free 1
  have f2 := hb1.free 2
  have hbs := bs_size m
  have hwz : IntKind.u64.wrap (m.length : Int) = (m.length : Int) := by rw [IntKind.wrap_u64]; omega
  have hml0 : (0 : Int) ≤ (m.length : Int) := by omega
  clear hst hb1
  by_cases her : er = 0
  · subst her
    have he0 : ((0 : Int) != 0) = false := rfl
    by_cases hlong : m.length < n
    · have h1 : (m.length : Int) < (n : Int) := by omega
      have hd : decide (m.length < n) = true := by simp [hlong]
      have HF := hide (show stepU l o = (m, 10, o) by rw [HST.out, if_neg (by simp), if_pos hlong])
      clear hlong
      go_wp2
      go_end0
      refine ⟨rfl, ?_⟩
      rw [HF.out]
      refine ⟨HK1.out.setCell (.inr HNB.out) _, HNB.out, .slice A o.length c, ?_, Own.keep HO1.out (F := [b]) ((Keeps.refl _ _).setCell (.inl (by simp)) _) (fun g hg hm => HNE.out (by rw [hg]; simpa using hm)), HN.out⟩
      have := HB1.out.set 1 (.int .i64 10)
      simpa using this
    · have h1 : ¬ (m.length : Int) < (n : Int) := by omega
      have hd : decide (m.length < n) = false := by simp; omega
      have HF := hide (show stepU l o = (m.drop n, 0, o ++ [bs (m.take n)]) by rw [HST.out, if_neg (by simp), if_neg hlong])
      have hn0 : (0 : Int) ≤ (n : Int) := by omega
      have hn1 : (n : Int) ≤ (m.length : Int) := by omega
      have hn2 : (n : Int) ≤ ((bs m).size : Int) := by rw [hbs]; omega
      have ht := bs_take m n
      have hdr := bs_drop m n
      rw [hbs] at hdr
      clear hlong
      go_wp2
      have HOA := hide (Own.drew (Own.alloc HO1.out (.cells #[.string (bs (m.take n))] 9)))
      have HBA := hide (Bk.drew (HB1.out.alloc (.cells #[.string (bs (m.take n))] 9)))
      have HKA := hide (HK1.out.alloc (.cells #[.string (bs (m.take n))] 9)).drew
      have c2a : ∀ o', (w1.alloc o').cell? ⟨b, 2, none⟩ = some (.slice A o.length c) := fun o' => (HB1.out.alloc o').cell 2
      go_region_law ((refine step_append_src _ (by rfl) _ _ _ (by rfl) 9 i0 _ 1 16 Try.underlying41 hi hz0 hz1 hz2 rfl (by omega) (.slice A o.length c) _ _ (by rfl) HOA.out (.slice (some ⟨w1.heap.size, 0, none⟩) 1 1) 1 [.string (bs (m.take n))] (by rfl) (Src.drew (Src.built w1 9 #[.string (bs (m.take n))] 1 1 rfl _ rfl)) (by simp [Value.oneCell']) (by unfold maxLen; omega) (by omega) ?_; intro v' w2 hown hgrow hblk; obtain ⟨A', c', hv'⟩ := Own.slice hown; subst hv'; have hb2 := HBA.out.grown hgrow (fun e => HNE.out e.symm); have c0 : w2.cell? ⟨b, 0, none⟩ = some (.string (bs m)) := hb2.cell 0; have c2 : w2.cell? ⟨b, 2, none⟩ = some (.slice A o.length c) := hb2.cell 2; have f0 := hb2.free 0; have f2 := hb2.free 2))
      all_goals
        obtain ⟨hK2, hN2⟩ := step_own HKA.out HN.out hgrow hblk
        have HU := hide (show UpAt W0 ((w2.setCell ⟨b, 2, none⟩ (.slice A' (o.length + 1) c')).setCell ⟨b, 0, none⟩ (.string (bs (m.drop n)))) b (stepU l o).1 (stepU l o).2.1 (stepU l o).2.2 by
          rw [HF.out]
          refine ⟨(hK2.setCell (.inr HNB.out) _).setCell (.inr HNB.out) _, HNB.out, .slice A' (o.length + 1) c', ?_, ?_, hN2⟩
          · have := (hb2.set 2 (.slice A' (o.length + 1) c')).set 0 (.string (bs (m.drop n)))
            simpa using this
          · have hO2 : OS w2 (.slice A' (o.length + 1) c') (o ++ [bs (m.take n)]) := by
              show Own w2 9 1 (.slice A' (o.length + 1) c') _ _
              rw [ssv_append, List.length_append]
              exact hown
            have hne2 := Own.bk_ne hO2 hb2 (by decide)
            exact Own.keep (Own.keep hO2 (F := [b]) ((Keeps.refl _ _).setCell (.inl (by simp)) _) (fun g hg hm => hne2 (by rw [hg]; simpa using hm))) (F := [b]) ((Keeps.refl _ _).setCell (.inl (by simp)) _) (fun g hg hm => hne2 (by rw [hg]; simpa using hm)))
        clear hown hgrow hblk hb2 hK2 hN2 HOA HBA HKA
        go_wp2
        go_end0
        exact ⟨rfl, HU.out⟩
  · have he0 : (er != 0) = true := by simp [her]
    have HF := hide (show stepU l o = (m, er, o) by rw [HST.out, if_pos her])
    clear her
    go_wp2
    go_end0
    refine ⟨rfl, ?_⟩
    rw [HF.out]
    exact ⟨HK1.out, HNB.out, _, HB1.out, HO1.out, HN.out⟩
end Go.Proofs.Ytcfglfnncpcfoaa

/- codec.ReadInts. -/
import Derived.Test.YtbfghecemppoeaaUnp
namespace Go.Proofs.Ytbfghecemppoeaa
open Go.RowKit Go.Shelf
def goI : Nat → List UInt8 → List Int → List Int × Int
  | 0, l, o => if l = [] then (o, 0) else ([], 11)
  | m + 1, l, o => if (readN l).2.2 ≠ 0 then ([], (readN l).2.2) else goI m (l.drop (readN l).2.1) (o ++ [uns (readN l).1])
/-- Reading integers, as plain data. -/
def readI (l : List UInt8) : List Int × Int := if (readN l).2.2 ≠ 0 then ([], (readN l).2.2) else goI (readN l).1 (l.drop (readN l).2.1) []
abbrev OInt (w : World) (v : Value) (o : List Int) : Prop := Own w 3 1 v o.length (isv o)
theorem own_nil3 (w : World) : OInt w (.slice none 0 0) [] := World.ownsRow_nil _ _ _ _
theorem Try.info3b : (Try.prog.info? 3).map (fun i => (i.zero, i.size, i.bytes)) = some (some (.int .i64 0), 1, 8) := by kernel_rfl
theorem isv_append (l m : List Int) : isv (l ++ m) = isv l ++ isv m := by simp [isv]
theorem readN_rest (l : List UInt8) (h : (readN l).2.2 = 0) : 1 + (l.drop (readN l).2.1).length ≤ l.length := by
  rcases readN_spec l with ⟨_, h1, h2, _⟩ | h' | h'
  · rw [List.length_drop]; omega
  · rw [h'] at h; simp at h
  · rw [h'] at h; simp at h
set_option maxHeartbeats 4000000 in
set_option maxRecDepth 100000 in
theorem readints_any (l : List UInt8) (w : World) (hl : l.length ≤ 1000000000) :
    Calls Try.prog 35 #[.string (bs l)] w fun e w' => ∃ v, e = .returned (.tuple #[v, .int .i64 (readI l).2]) ∧ OInt w' v (readI l).1 ∧ New w v ∧ Keeps [] w w' := by
  obtain ⟨i0, hi0, hz0, hz1, hz2⟩ := info_parts Try.info3b
  have HI := hide (And.intro hi0 (And.intro hz0 (And.intro hz1 hz2)))
  clear hi0 hz0 hz1 hz2
  have hb := Bk.new w 76 #[.string (bs l), .int .i64 0]
  have HK := hide ((Keeps.refl [] w).alloc (.cells #[.string (bs l), .int .i64 0] 76))
  have hnum := number_at w.heap.size 76 l [] _ (by omega) hb
  clear hb
  go_enter Try.func35, Try.ntmps35
  go_wp2_with fail
  generalize w.alloc (.cells #[.string (bs l), .int .i64 0] 76) = w0 at HK hnum ⊢
  refine hnum.mono ?_
  rintro e w1 ⟨rfl, hb1, k1⟩
  have hlt := readN_lt l
  have hun : readI l = if (readN l).2.2 ≠ 0 then ([], (readN l).2.2) else goI (readN l).1 (l.drop (readN l).2.1) [] := rfl
  have hdl : (l.drop (readN l).2.1).length ≤ l.length := by rw [List.length_drop]; omega
  obtain ⟨⟨many, sz, er⟩, hr⟩ : ∃ r, r = readN l := ⟨_, rfl⟩
  rw [← hr] at hb1 hlt hun hdl ⊢
  simp only at hb1 hlt hun hdl ⊢
  have HB1 := hide (show Bk w1 w.heap.size 76 #[.string (bs (l.drop sz)), .int .i64 er] from hb1)
  have HK1 := hide (show Keeps [] w w1 from HK.out.trans k1 (fun i hi => .inr (by simp at hi; omega)))
  have HLE := hide hdl
  have HUN := hide hun
  clear hnum hr hb1 k1 HK hun hdl
  generalize l.drop sz = l1 at HB1 HLE HUN
  go_wp2
  go_loopw [6, 7] (fun s6 s7 wr => ∃ (i : Nat) (left : List UInt8) (e : Int) (o : List Int), i ≤ many ∧ s7 = .int .u64 i ∧ Hid (OInt wr s6 o ∧ New w s6) ∧ Hid (Bk wr w.heap.size 76 #[.string (bs left), .int .i64 e]) ∧ Hid (Keeps [] w wr) ∧ Hid (left.length ≤ l.length ∧ (e = 0 → o.length + left.length ≤ l.length)) ∧ Hid (readI l = if e ≠ 0 then ([], e) else goI (many - i) left o)) (fun _ s7 _ => many - (intOf s7).toNat)
  case atStart => exact ⟨0, l1, er, [], Nat.zero_le _, rfl, hide ⟨own_nil3 _, new_nil _⟩, HB1, HK1, hide ⟨HLE.out, fun _ => by have := HLE.out; simp; omega⟩, HUN⟩
  case round =>
    obtain ⟨i, left, e, o, hi, rfl, HO, HB, HK, HL, HF⟩ := hrel
    clear HUN HLE HB1 HK1
    have hii : (0 : Int) ≤ (i : Int) := by omega
    have c0 : wr.cell? ⟨w.heap.size, 0, none⟩ = some (.string (bs left)) := HB.out.cell 0
    have c1 : wr.cell? ⟨w.heap.size, 1, none⟩ = some (.int .i64 e) := HB.out.cell 1
    have f1 := HB.out.free 1
    have hlb := HL.out.1
    by_cases he : e = 0
    · subst he
      have he0 : ((0 : Int) == 0) = true := rfl
      have hlo := HL.out.2 rfl
      by_cases hlt2 : i < many
      · have h1 : (i : Int) < (many : Int) := by omega
        have hd : decide (i < many) = true := by simp [hlt2]
        have HFN := hide (show readI l = if (readN left).2.2 ≠ 0 then ([], (readN left).2.2) else goI (many - (i + 1)) (left.drop (readN left).2.1) (o ++ [uns (readN left).1]) by
          rw [HF.out, if_neg (by simp), show many - i = (many - (i + 1)) + 1 by omega, goI])
        have hnum := number_at w.heap.size 76 left [] wr (by omega) HB.out
        have hlt3 := readN_lt left
        have hrest := readN_rest left
        have hdl : (left.drop (readN left).2.1).length ≤ left.length := by rw [List.length_drop]; omega
        obtain ⟨⟨n, sz2, er2⟩, hr⟩ : ∃ r, r = readN left := ⟨_, rfl⟩
        rw [← hr] at hnum HFN hlt3 hrest hdl
        simp only at hnum HFN hlt3 hrest hdl
        have HRS := hide hrest
        clear HF hr hrest
        generalize left.drop sz2 = l2 at hnum HFN HRS hdl
        go_wp2_with fail
        clear c0 c1 f1
        refine hnum.mono ?_
        rintro e w2 ⟨rfl, hb2, k2⟩
        have HB2 := hide (show Bk w2 w.heap.size 76 #[.string (bs l2), .int .i64 er2] from hb2)
        have HK2 := hide (show Keeps [] w w2 from HK.out.trans k2 (fun i hi => .inr (by simp at hi; omega)))
        have HO2 := hide (And.intro (show OInt w2 u6 o from Own.keep HO.out.1 k2 (fun g hg hm => by
          have hne := Own.bk_ne HO.out.1 HB.out (by decide)
          simp at hm
          subst hm
          exact hne hg)) HO.out.2)
        clear hb2 k2 hnum HB HK HO
        go_wp2_with fail
        refine (unsigned_any n w2 (by omega) (by omega)).mono ?_
        rintro e w' ⟨rfl, rfl⟩
        go_wp2_with (with_reducible refine Halt.append ?_)
        refine Halt.on ?_
        have HKA := hide (HK2.out.alloc (.cells #[.int .i64 (uns n)] 3))
        have HBA := hide (HB2.out.alloc (.cells #[.int .i64 (uns n)] 3))
        refine wpList_append_src _ rfl _ _ _ rfl 3 i0 _ 1 8 Try.underlying54 HI.out.1 HI.out.2.1 HI.out.2.2.1 HI.out.2.2.2 rfl (by omega) u6 _ _ rfl (Own.alloc HO2.out.1 _) (.slice (some ⟨w2.heap.size, 0, none⟩) 1 1) 1 [.int .i64 (uns n)] rfl (Src.built w2 3 #[.int .i64 (uns n)] 1 1 rfl _ rfl) (by simp [Value.oneCell']) (by unfold maxLen; omega) (by omega) ?_
        intro v' w3 hown hgrow hblk
        obtain ⟨hK3, hN3⟩ := step_own HKA.out HO2.out.2 hgrow hblk
        have HO3 := hide (And.intro (show OInt w3 v' (o ++ [uns n]) by
          show Own w3 3 1 v' _ _
          rw [isv_append, List.length_append]
          exact hown) hN3)
        have HB3 := hide (HBA.out.grown hgrow (fun e => Own.bk_ne HO2.out.1 HB2.out (by decide) e.symm))
        have HK3 := hide hK3
        clear hown hgrow hblk hK3 hN3 HKA HBA HO2 HB2 HK2
        go_wp2
        go_roundw
        case measure => simp [intOf]; omega
        case rel => exact ⟨i + 1, l2, er2, o ++ [uns n], by omega, by go_num, HO3, HB3, HK3, hide ⟨by omega, fun h => by have := HRS.out h; rw [List.length_append, List.length_singleton]; omega⟩, HFN⟩
      · have h1 : ¬ (i : Int) < (many : Int) := by omega
        have hd : decide (i < many) = false := by simp; omega
        have HFN := hide (show readI l = if left = [] then (o, 0) else ([], 11) by rw [HF.out, if_neg (by simp), show many - i = 0 by omega, goI])
        have hbe := bs_empty left
        by_cases hle : left = []
        · subst hle
          have HFF := hide (show readI l = (o, 0) by rw [HFN.out, if_pos rfl])
          clear HF HFN
          go_wp2
          go_ret2
          exact ⟨_, by rw [HFF.out]; rfl, by rw [HFF.out]; exact HO.out.1, HO.out.2, HK.out⟩
        · have HFF := hide (show readI l = ([], 11) by rw [HFN.out, if_neg hle])
          have hie : left.isEmpty = false := by simpa using hle
          clear HF HFN hle
          go_wp2
          all_goals
            go_region
            go_wp2
            go_ret2
            refine ⟨_, by rw [HFF.out]; rfl, by rw [HFF.out]; exact own_nil3 _, new_nil _, ?_⟩
            exact ((HK.out.setCell (.inr (Nat.le_refl _)) _).drewN 1)
    · have he0 : (e == 0) = false := by simp [he]
      have hen : (e != 0) = true := by simp [he]
      have HFF := hide (show readI l = ([], e) by rw [HF.out, if_pos he])
      clear HF he
      go_wp2
      all_goals
        go_region
        go_wp2
        go_ret2
        refine ⟨_, by rw [HFF.out]; rfl, by rw [HFF.out]; exact own_nil3 _, new_nil _, ?_⟩
        exact HK.out.drewN 1
end Go.Proofs.Ytbfghecemppoeaa

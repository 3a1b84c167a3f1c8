/- codec.Unpack. -/
import Derived.Test.YtcfglfnncpcfoaaNext
namespace Go.Proofs.Ytcfglfnncpcfoaa
open Go.RowKit Go.Shelf
def goU : Nat → List UInt8 → List ByteArray → List ByteArray × Int
  | 0, l, o => if l = [] then (o, 0) else ([], 11)
  | m + 1, l, o => if (stepU l o).2.1 ≠ 0 then ([], (stepU l o).2.1) else goU m (stepU l o).1 (stepU l o).2.2
/-- Unpacking, as plain data. -/
def unpB (l : List UInt8) : List ByteArray × Int := if (readN l).2.2 ≠ 0 then ([], (readN l).2.2) else goU (readN l).1 (l.drop (readN l).2.1) []
theorem stepU_le (l : List UInt8) (o : List ByteArray) : (stepU l o).2.2.length + (stepU l o).1.length ≤ o.length + l.length := by
  unfold stepU
  have hd : (l.drop (readN l).2.1).length ≤ l.length := by rw [List.length_drop]; omega
  split
  · show o.length + (l.drop (readN l).2.1).length ≤ _; omega
  · rename_i h0
    split
    · show o.length + (l.drop (readN l).2.1).length ≤ _; omega
    · show (o ++ [_]).length + ((l.drop (readN l).2.1).drop (readN l).1).length ≤ _
      rcases readN_spec l with ⟨_, h1, h2, _⟩ | h | h
      · rw [List.length_append, List.length_drop, List.length_drop, List.length_singleton]; omega
      · rw [h] at h0; simp at h0
      · rw [h] at h0; simp at h0
theorem stepU_left (l : List UInt8) (o : List ByteArray) : (stepU l o).1.length ≤ l.length := by
  have hd : (l.drop (readN l).2.1).length ≤ l.length := by rw [List.length_drop]; omega
  unfold stepU
  split
  · exact hd
  · split
    · exact hd
    · show ((l.drop (readN l).2.1).drop (readN l).1).length ≤ _
      rw [List.length_drop]; omega
theorem stepU_one (l : List UInt8) (o : List ByteArray) : (stepU l o).2.2.length ≤ o.length + 1 := by
  unfold stepU
  split
  · show o.length ≤ _; omega
  · split
    · show o.length ≤ _; omega
    · show (o ++ [_]).length ≤ _
      rw [List.length_append, List.length_singleton]; omega
theorem own_nil9 (w : World) : OS w (.slice none 0 0) [] := World.ownsRow_nil _ _ _ _
theorem new_nil (w : World) : New w (.slice none 0 0) := fun g h => by simp [Value.ownBlock] at h
theorem bs_empty (l : List UInt8) : (bs l).toList = l := by rw [Lib.toList_data, bs_list]
theorem UpAt.cells {W0 w : World} {b : Nat} {l : List UInt8} {e : Int} {o : List ByteArray} (h : UpAt W0 w b l e o) : ∃ A c, w.cell? ⟨b, 0, none⟩ = some (.string (bs l)) ∧ w.cell? ⟨b, 1, none⟩ = some (.int .i64 e) ∧ w.cell? ⟨b, 2, none⟩ = some (.slice A o.length c) ∧ w.frozen? ⟨b, 1, none⟩ = false ∧ OS w (.slice A o.length c) o ∧ New W0 (.slice A o.length c) := by
  obtain ⟨vo, hb, ho, hn⟩ := h.ex
  obtain ⟨A, c, rfl⟩ := Own.slice ho
  exact ⟨A, c, hb.cell 0, hb.cell 1, hb.cell 2, hb.free 1, ho, hn⟩
set_option maxHeartbeats 4000000 in
set_option maxRecDepth 100000 in
theorem unpack_any (l : List UInt8) (w : World) (hl : l.length ≤ 140737488355328) (hm : (readN l).1 ≤ 100000000) :
    Calls Try.prog 36 #[.string (bs l)] w fun e w' => ∃ v, e = .returned (.tuple #[v, .int .i64 (unpB l).2]) ∧ OS w' v (unpB l).1 ∧ New w v ∧ Keeps [] w w' := by
  have hb := Bk.new w 106 #[.string (bs l), .int .i64 0, .slice none 0 0]
  have HK := hide ((Keeps.refl [] w).alloc (.cells #[.string (bs l), .int .i64 0, .slice none 0 0] 106))
  have hnum := number_at w.heap.size 106 l [.slice none 0 0] _ (by omega) hb
  clear hb
  go_enter Try.func36, Try.ntmps36
  go_wp2_with fail
  generalize w.alloc (.cells #[.string (bs l), .int .i64 0, .slice none 0 0] 106) = w0 at HK hnum ⊢
  refine hnum.mono ?_
  rintro e w1 ⟨rfl, hb1, k1⟩
  have hlt := readN_lt l
  have hsz := readN_size l
  have hun : unpB l = if (readN l).2.2 ≠ 0 then ([], (readN l).2.2) else goU (readN l).1 (l.drop (readN l).2.1) [] := rfl
  obtain ⟨⟨many, sz, er⟩, hr⟩ : ∃ r, r = readN l := ⟨_, rfl⟩
  rw [← hr] at hb1 hlt hsz hun hm ⊢
  simp only at hb1 hlt hsz hun hm ⊢
  have HU1 := hide (show UpAt w w1 w.heap.size (l.drop sz) er [] from ⟨HK.out.trans k1 (fun i hi => .inr (by simp at hi; omega)), Nat.le_refl _, _, hb1, own_nil9 _, new_nil _⟩)
  have HLE := hide (show (l.drop sz).length ≤ l.length by rw [List.length_drop]; omega)
  have HUN := hide hun
  clear hnum hr hb1 k1 HK hsz hun
  generalize l.drop sz = l1 at HU1 HLE HUN
  go_wp2
  go_loopw [6] (fun s6 wr => ∃ (i : Nat) (left : List UInt8) (e : Int) (o : List ByteArray), i ≤ many ∧ s6 = .int .u64 i ∧ Hid (UpAt w wr w.heap.size left e o) ∧ Hid (left.length ≤ l.length ∧ o.length ≤ i) ∧ Hid (unpB l = if e ≠ 0 then ([], e) else goU (many - i) left o)) (fun s6 _ => many - (intOf s6).toNat)
  case atStart => exact ⟨0, l1, er, [], Nat.zero_le _, rfl, HU1, hide ⟨HLE.out, Nat.zero_le _⟩, HUN⟩
  case round =>
    obtain ⟨i, left, e, o, hi, rfl, HU, HL, HF⟩ := hrel
    clear HUN HLE HU1
    have hi0 : (0 : Int) ≤ (i : Int) := by omega
    obtain ⟨A, c, c0, c1, c2, f1, hown, hnew⟩ := HU.out.cells
    have HOW := hide (And.intro hown hnew)
    clear hown hnew
    have hlb := HL.out
    by_cases he : e = 0
    · subst he
      have he0 : ((0 : Int) == 0) = true := rfl
      by_cases hlt2 : i < many
      · have h1 : (i : Int) < (many : Int) := by omega
        have hd : decide (i < many) = true := by simp [hlt2]
        have HFN := hide (show unpB l = if (stepU left o).2.1 ≠ 0 then ([], (stepU left o).2.1) else goU (many - (i + 1)) (stepU left o).1 (stepU left o).2.2 by
          rw [HF.out, if_neg (by simp), show many - i = (many - (i + 1)) + 1 by omega, goU])
        have HSL := hide (And.intro (stepU_le left o) (stepU_one left o))
        have HLEFT := hide (show (stepU left o).1.length ≤ left.length from stepU_left left o)
        clear HF HOW
        go_wp2_with fail
        clear c0 c1 c2 f1
        refine (next_any w wr w.heap.size left o HU.out (by omega) (by omega)).mono ?_
        rintro e w2 ⟨rfl, hU2⟩
        have HU2 := hide hU2
        clear hU2
        go_wp2
        go_roundw
        case measure => simp [intOf]; omega
        case rel => exact ⟨i + 1, _, _, _, by omega, by go_num, HU2, hide (by have := HSL.out; have := HLEFT.out; omega), HFN⟩
      · have h1 : ¬ (i : Int) < (many : Int) := by omega
        have hd : decide (i < many) = false := by simp; omega
        have HFN := hide (show unpB l = if left = [] then (o, 0) else ([], 11) by rw [HF.out, if_neg (by simp), show many - i = 0 by omega, goU])
        have hbe := bs_empty left
        by_cases hle : left = []
        · subst hle
          have HFF := hide (show unpB l = (o, 0) by rw [HFN.out, if_pos rfl])
          clear HF HFN
          go_wp2
          go_ret2
          exact ⟨_, by rw [HFF.out]; rfl, by rw [HFF.out]; exact HOW.out.1, HOW.out.2, HU.out.keep⟩
        · have HFF := hide (show unpB l = ([], 11) by rw [HFN.out, if_neg hle])
          have hie : left.isEmpty = false := by simpa using hle
          clear HF HFN hle
          go_wp2
          all_goals
            go_region
            go_wp2
            go_ret2
            refine ⟨_, by rw [HFF.out]; rfl, by rw [HFF.out]; exact own_nil9 _, new_nil _, ?_⟩
            exact ((HU.out.keep.setCell (.inr HU.out.new) _).drewN 1)
    · have he0 : (e == 0) = false := by simp [he]
      have hen : (e != 0) = true := by simp [he]
      have HFF := hide (show unpB l = ([], e) by rw [HF.out, if_pos he])
      clear HF he
      go_wp2
      all_goals
        go_region
        go_wp2
        go_ret2
        refine ⟨_, by rw [HFF.out]; rfl, by rw [HFF.out]; exact own_nil9 _, new_nil _, ?_⟩
        exact HU.out.keep.drewN 1
end Go.Proofs.Ytcfglfnncpcfoaa

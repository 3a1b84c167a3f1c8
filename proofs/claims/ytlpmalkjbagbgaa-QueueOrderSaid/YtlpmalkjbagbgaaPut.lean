/- queue.Put. -/
import Derived.Test.YtlpmalkjbagbgaaConcat
import Derived.Deep.Slices
namespace Go.Proofs.Ytlpmalkjbagbgaa
open Go.RowKit Go.Shelf

def ins (h : Hold) : List Hold → List Hold
  | [] => [h]
  | a :: t => if beforeB h a then h :: a :: t else a :: ins h t
def putL (L : List Hold) (h : Hold) : List Hold := if h.id < 1 ∨ h.item < 0 then [] else if L.any (fun x => decide (x.id = h.id)) then [] else ins h L
def putE (L : List Hold) (h : Hold) : Int := if h.id < 1 ∨ h.item < 0 then 1 else if L.any (fun x => decide (x.id = h.id)) then 22 else 0
theorem ins_first (h : Hold) : ∀ (L : List Hold) (k : Nat), (firstI (fun x => beforeB h x) k L = -1 ∧ ins h L = L ++ [h]) ∨ ∃ m, m < L.length ∧ firstI (fun x => beforeB h x) k L = ((k + m : Nat) : Int) ∧ ins h L = L.take m ++ (h :: L.drop m)
  | [], k => .inl ⟨rfl, rfl⟩
  | a :: t, k => by
    unfold firstI ins
    by_cases hb : beforeB h a = true
    · exact .inr ⟨0, by simp, by simp [hb], by simp [hb]⟩
    · rcases ins_first h t (k + 1) with ⟨h1, h2⟩ | ⟨m, h0, h1, h2⟩
      · exact .inl ⟨by simp [hb, h1], by simp [hb, h2]⟩
      · exact .inr ⟨m + 1, by simpa using h0, by simp [hb, h1]; omega, by simp [hb, h2]⟩
theorem ins_at (h : Hold) (L : List Hold) : ∃ m, m ≤ L.length ∧ ins h L = L.take m ++ (h :: L.drop m) ∧ ((firstI (fun x => beforeB h x) 0 L = -1 ∧ m = L.length) ∨ (firstI (fun x => beforeB h x) 0 L = (m : Int) ∧ m < L.length)) := by
  rcases ins_first h L 0 with ⟨h1, h2⟩ | ⟨m, h0, h1, h2⟩
  · exact ⟨L.length, Nat.le_refl _, by simp [h2], .inl ⟨h1, rfl⟩⟩
  · exact ⟨m, by omega, h2, .inr ⟨by simpa using h1, h0⟩⟩
theorem src_zero (w : World) (sz : Nat) (A : Option Addr) (c : Nat) : Src w sz (.slice A 0 c) 0 [] := ⟨by simp, A, c, rfl, fun _ => rfl, fun ad _ j u h => by simp at h⟩
theorem HS.front {w : World} {A : Option Addr} {c : Nat} {L : List Hold} (h : HS w (.slice A L.length c) L) (m : Nat) (hm : m ≤ L.length) : HS w (.slice A m c) (L.take m) := by
  obtain ⟨hl, A', c', hA, hnil, hc⟩ := h
  injection hA with hA _ hcc
  subst hA hcc
  unfold HS
  rw [List.length_take, Nat.min_eq_left hm]
  refine ⟨by simp [Nat.min_eq_left hm], _, _, rfl, fun h0 => by have := hnil h0; omega, fun ad had j u hu => hc ad had j u ?_⟩
  rw [← hcs_take, List.getElem?_take] at hu
  split at hu
  · exact hu
  · cases hu
theorem HS.back {w : World} {ad : Addr} {c : Nat} {L : List Hold} (h : HS w (.slice (some ad) L.length c) L) (m : Nat) (hm : m ≤ L.length) (hc : L.length ≤ c) : HS w (.slice (if c = m then some ad else some (ad.add (m * 10))) (L.length - m) (c - m)) (L.drop m) := by
  unfold HS
  rw [List.length_drop]
  by_cases hcm : c = m
  · have e : L.length - m = 0 := by omega
    rw [if_pos hcm, e, List.drop_eq_nil_of_le (by omega)]
    exact src_zero _ _ _ _
  · rw [if_neg hcm]
    obtain ⟨hl, A', c', hA, hnil, hcc⟩ := h
    injection hA with hA _ hcc'
    subst hA
    refine ⟨by simp, _, _, rfl, fun h0 => (by cases h0), fun ad' had j u hu => ?_⟩
    injection had with had
    subst had
    rw [Go.Deep.add_add]
    refine hcc _ rfl _ u ?_
    rw [← hcs_drop, List.getElem?_drop] at hu
    exact hu
theorem concat3 (v1 v2 v3 : Value) (L1 L2 L3 : List Hold) (g : Nat) (w : World) (h1 : L1.length ≤ 64) (h2 : L2.length ≤ 64) (h3 : L3.length ≤ 64) (hb : Bk w g 22 #[v1, v2, v3]) (s1 : HS w v1 L1) (s2 : HS w v2 L2) (s3 : HS w v3 L3) :
    Calls Try.prog 31 #[.slice (some ⟨g, 0, none⟩) 3 3] w fun e w' => ∃ v, e = .returned v ∧ HO w' v (L1 ++ (L2 ++ L3)) ∧ New w v ∧ Keeps [] w w' := by
  have := concat_any [L1, L2, L3] (fun k => (#[v1, v2, v3] : Array Value).getD k undef) g 0 3 w (by simp) (by
    intro L hL
    simp at hL
    rcases hL with rfl | rfl | rfl <;> assumption) (by
    intro k hk
    rw [hb.cell]
    match k, hk with
    | 0, _ => rfl
    | 1, _ => rfl
    | 2, _ => rfl) (by
    intro k hk
    match k, hk with
    | 0, _ => exact s1
    | 1, _ => exact s2
    | 2, _ => exact s3)
  simpa using this
set_option maxHeartbeats 2000000 in
theorem put_any (A : Option Addr) (c : Nat) (L : List Hold) (h : Hold) (w : World) (hL : L.length ≤ 60) (hs : HS w (.slice A L.length c) L) (hc0 : L.length ≤ c) (hc1 : c ≤ 9223372036854775807) (hA0 : A = none → c = 0) :
    Calls Try.prog 12 #[.slice A L.length c, hvl h] w fun e w' => ∃ v, e = .returned (.tuple #[v, .int .i64 (putE L h)]) ∧ HO w' v (putL L h) ∧ New w v ∧ Keeps [] w w' := by
  have HK0 := hide ((Keeps.refl [] w).alloc (.cells (hc h).toArray 28))
  have HB0 := hide (Bk.new w 28 (hc h).toArray)
  have HS0 := hide (Src.keep hs HK0.out (by simp))
  clear hs
  by_cases hbad : h.id < 1 ∨ h.item < 0
  · have HE := hide (show putE L h = 1 by simp [putE, hbad])
    have HL := hide (show putL L h = [] by simp [putL, hbad])
    by_cases h1 : h.id < 1
    · have hd : decide (h.id < 1) = true := by simp [h1]
      go_enter Try.func12, Try.ntmps12
      go_wp2
      go_ret2
      refine ⟨_, by rw [HE.out]; rfl, by rw [HL.out]; exact own_nil _, new_nil _, HK0.out⟩
    · have h2 : h.item < 0 := by omega
      have hd : decide (h.id < 1) = false := by simp; omega
      go_enter Try.func12, Try.ntmps12
      go_wp2
      go_ret2
      refine ⟨_, by rw [HE.out]; rfl, by rw [HL.out]; exact own_nil _, new_nil _, HK0.out⟩
  · have h1 : ¬ h.id < 1 := fun e => hbad (.inl e)
    have h2 : ¬ h.item < 0 := fun e => hbad (.inr e)
    have hE : putE L h = if L.any (fun x => decide (x.id = h.id)) then 22 else 0 := by simp [putE, hbad]
    have hP : putL L h = if L.any (fun x => decide (x.id = h.id)) then [] else ins h L := by simp [putL, hbad]
    have HE := hide hE
    have HL := hide hP
    have hd : decide (h.id < 1) = false := by simp; omega
    clear hE hP hbad
    cases hany : L.any (fun x => decide (x.id = h.id)) with
    | true =>
      rw [hany] at HE HL
      have HA := hide hany
      clear hany
      go_enter Try.func12, Try.ntmps12
      go_wp2_with (go_at_call 27; refine (has_any _ _).mono ?_; rintro e w' ⟨rfl, rfl⟩)
      have HK1 := hide (HK0.out.alloc (.cells #[.int .i64 h.id] 3))
      have HB1 := hide (HB0.out.alloc (.cells #[.int .i64 h.id] 3))
      have HS1 := hide (Src.keep HS0.out ((Keeps.refl [] _).alloc (.cells #[.int .i64 h.id] 3)) (by simp))
      have hP1 := hide (has_pred h.id (w.heap.size + 1) ((w.alloc (.cells (hc h).toArray 28)).alloc (.cells #[.int .i64 h.id] 3)) (by simp))
      change Calls _ _ _ ((w.alloc (.cells (hc h).toArray 28)).alloc (.cells #[.int .i64 h.id] 3)) _
      generalize (w.alloc (.cells (hc h).toArray 28)).alloc (.cells #[.int .i64 h.id] 3) = w1 at HK1 HB1 HS1 hP1 ⊢
      refine (contains_any 41 _ _ A c L w1 (by omega) HS1.out hP1.out).mono ?_
      rintro e w2 ⟨rfl, hk2⟩
      rw [HA.out]
      have HK2 := hide (HK1.out.trans' hk2)
      clear hk2
      go_wp2
      go_ret2
      refine ⟨_, by rw [HE.out]; rfl, by rw [HL.out]; exact own_nil _, new_nil _, HK2.out⟩
    | false =>
      rw [hany] at HE HL
      have HA := hide hany
      clear hany
      go_enter Try.func12, Try.ntmps12
      go_wp2_with (go_at_call 27; refine (has_any _ _).mono ?_; rintro e w' ⟨rfl, rfl⟩)
      have HK1 := hide (HK0.out.alloc (.cells #[.int .i64 h.id] 3))
      have HB1 := hide (HB0.out.alloc (.cells #[.int .i64 h.id] 3))
      have HS1 := hide (Src.keep HS0.out ((Keeps.refl [] _).alloc (.cells #[.int .i64 h.id] 3)) (by simp))
      have hP1 := hide (has_pred h.id (w.heap.size + 1) ((w.alloc (.cells (hc h).toArray 28)).alloc (.cells #[.int .i64 h.id] 3)) (by simp))
      change Calls _ _ _ ((w.alloc (.cells (hc h).toArray 28)).alloc (.cells #[.int .i64 h.id] 3)) _
      generalize (w.alloc (.cells (hc h).toArray 28)).alloc (.cells #[.int .i64 h.id] 3) = w1 at HK1 HB1 HS1 hP1 ⊢
      refine (contains_any 41 _ _ A c L w1 (by omega) HS1.out hP1.out).mono ?_
      rintro e w2 ⟨rfl, hk2⟩
      rw [HA.out]
      have HK2 := hide (HK1.out.trans' hk2)
      have HB2 := hide (HB1.out.keep hk2 (by simp))
      have HS2 := hide (Src.keep HS1.out hk2 (by simp))
      clear hk2
      go_wp2_with fail
      refine (index_any 29 _ _ A c L w2 (by omega) HS2.out (put1_pred h _ w2 HB2.out)).mono ?_
      rintro e w3 ⟨rfl, hk3⟩
      obtain ⟨m, hm, him, hfi⟩ := ins_at h L
      have HK3 := hide (HK2.out.trans' hk3)
      have HB3 := hide (HB2.out.keep hk3 (by simp))
      have HS3 := hide (Src.keep HS2.out hk3 (by simp))
      have HI := hide him
      have HEI := hide (show (.int .i64 (putE L h) : Value) = .int .i64 0 by rw [HE.out]; rfl)
      have HLI := hide (show putL L h = L.take m ++ (h :: L.drop m) by rw [HL.out]; exact him)
      clear hk3 him HA HL HE HK0 HB0 HS0 HK1 HB1 HS1 hP1 HK2 HB2 HS2 h1 h2 hd
      obtain ⟨d0, d1, d2, d3, d4, d5, d6, d7, d8, d9⟩ := box_cells HB3.out
      have HW := hide (show ∀ (a1 a3 : Value) (M1 M3 : List Hold), HS w3 a1 M1 → HS w3 a3 M3 → M1.length ≤ 64 → M3.length ≤ 64 → Calls Try.prog 31 #[.slice (some ⟨w3.heap.size + 1, 0, none⟩) 3 3] ((w3.alloc (.cells (hc h).toArray 28)).alloc (.cells #[a1, .slice (some ⟨w3.heap.size, 0, none⟩) 1 1, a3] 22)).drew fun e w' => ∃ v, e = .returned v ∧ HO w' v (M1 ++ (h :: M3)) ∧ New w v ∧ Keeps [] w w' from fun a1 a3 M1 M3 s1 s3 l1 l3 => by
        have k1 : Keeps [] w3 ((w3.alloc (.cells (hc h).toArray 28)).alloc (.cells #[a1, .slice (some ⟨w3.heap.size, 0, none⟩) 1 1, a3] 22)).drew := (((Keeps.refl [] w3).alloc _).alloc _).drew
        have hb : Bk ((w3.alloc (.cells (hc h).toArray 28)).alloc (.cells #[a1, .slice (some ⟨w3.heap.size, 0, none⟩) 1 1, a3] 22)).drew (w3.heap.size + 1) 22 #[a1, .slice (some ⟨w3.heap.size, 0, none⟩) 1 1, a3] := by
          have := Bk.new (w3.alloc (.cells (hc h).toArray 28)) 22 #[a1, .slice (some ⟨w3.heap.size, 0, none⟩) 1 1, a3]
          simpa using this.drew
        have s2 : HS ((w3.alloc (.cells (hc h).toArray 28)).alloc (.cells #[a1, .slice (some ⟨w3.heap.size, 0, none⟩) 1 1, a3] 22)).drew (.slice (some ⟨w3.heap.size, 0, none⟩) 1 1) [h] := by
          have := Src.keep (Src.built w3 28 (hc h).toArray 10 1 rfl _ rfl) ((((Keeps.refl [] _).alloc (.cells #[a1, .slice (some ⟨w3.heap.size, 0, none⟩) 1 1, a3] 22))).drew) (by simp)
          have e : hcs [h] = hc h := by simp [hcs]
          unfold HS
          rw [e]
          exact this
        refine (concat3 a1 _ a3 M1 [h] M3 _ _ l1 (by simp) l3 hb (Src.keep s1 k1 (by simp)) s2 (Src.keep s3 k1 (by simp))).mono ?_
        rintro e w' ⟨v, rfl, ho, hn, hk⟩
        have k2 := HK3.out.trans' k1
        exact ⟨v, rfl, by simpa using ho, fun g hg => Nat.le_trans k2.size (hn g hg), k2.trans' hk⟩)
      rcases hfi with ⟨hf, rfl⟩ | ⟨hf, hlt⟩
      · rw [hf]
        have z1 : (0 : Int) ≤ (L.length : Int) := by omega
        have z2 : (L.length : Int) ≤ (c : Int) := by omega
        cases A with
        | none =>
          obtain rfl := hA0 rfl
          obtain rfl : L = [] := List.eq_nil_of_length_eq_zero (by omega)
          have HQ := hide (HW.out _ _ [] [] (src_zero w3 10 none 0) (src_zero w3 10 none 0) (Nat.zero_le _) (Nat.zero_le _))
          clear HW
          go_wp2
          go_region_with (go_at_call 31; refine HQ.out.mono ?_; rintro e w' ⟨v, rfl, ho, hn, hk⟩)
          all_goals
            go_wp2
            go_ret2
            refine ⟨_, by rw [HEI.out]; rfl, ?_, hn, hk⟩
            rw [HLI.out]
            exact ho
        | some ad =>
          by_cases hcm : c = L.length
          · subst hcm
            have HQ := hide (HW.out _ _ _ [] (HS.front HS3.out L.length (Nat.le_refl _)) (src_zero w3 10 (some ad) 0) (by simp; omega) (Nat.zero_le _))
            rw [List.drop_length] at HLI
            clear HW
            go_wp2
            go_region_with (go_at_call 31; refine HQ.out.mono ?_; rintro e w' ⟨v, rfl, ho, hn, hk⟩)
            all_goals
              go_wp2
              go_ret2
              refine ⟨_, by rw [HEI.out]; rfl, ?_, hn, hk⟩
              rw [HLI.out]
              exact ho
          · have HQ := hide (HW.out _ _ _ [] (HS.front HS3.out L.length (Nat.le_refl _)) (src_zero w3 10 (some (ad.add (L.length * 10))) (c - L.length)) (by simp; omega) (Nat.zero_le _))
            rw [List.drop_length] at HLI
            clear HW
            go_wp2
            go_region_with (go_at_call 31; refine HQ.out.mono ?_; rintro e w' ⟨v, rfl, ho, hn, hk⟩)
            all_goals
              go_wp2
              go_ret2
              refine ⟨_, by rw [HEI.out]; rfl, ?_, hn, hk⟩
              rw [HLI.out]
              exact ho
      · rw [hf]
        have hm0 : ¬ ((m : Int) < 0) := by omega
        have z0 : (0 : Int) ≤ (m : Int) := by omega
        have z1 : (m : Int) ≤ (L.length : Int) := by omega
        have z2 : (m : Int) ≤ (c : Int) := by omega
        have z3 : (L.length : Int) ≤ (c : Int) := by omega
        have hcm : ¬ (c = m) := by omega
        cases A with
        | none =>
          obtain rfl := hA0 rfl
          omega
        | some ad =>
          have HQ := hide (HW.out _ _ _ _ (HS.front HS3.out m hm) (HS.back HS3.out m hm hc0) (by simp; omega) (by simp; omega))
          rw [if_neg hcm] at HQ
          clear HW
          go_wp2
          go_region_with (go_at_call 31; refine HQ.out.mono ?_; rintro e w' ⟨v, rfl, ho, hn, hk⟩)
          all_goals
            go_wp2
            go_ret2
            refine ⟨_, by rw [HEI.out]; rfl, ?_, hn, hk⟩
            rw [HLI.out]
            exact ho
end Go.Proofs.Ytlpmalkjbagbgaa

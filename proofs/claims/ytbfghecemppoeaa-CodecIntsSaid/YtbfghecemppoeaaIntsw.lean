/- The law CodecInts. -/
import Derived.Deep.RegionHeld3
import Derived.Deep.DeepCutAuto
import Derived.Test.YtbfghecemppoeaaOpen
import Derived.Test.YtbfghecemppoeaaRints
import Derived.Test.YtbfghecemppoeaaRoundi
import Derived.Test.YtbfghecemppoeaaSamei
namespace Go.Proofs.Ytbfghecemppoeaa
open Go.ChangeShapes Go.WideShapes Go.RowKit Go.Deep Go.Shelf
def nearI (n off : Int) : Int := IntKind.u64.wrap (IntKind.u64.wrap (2 ^ (n % 64).toNat) + IntKind.u64.wrap (off.tmod 5))
theorem near_is (n off : Int) (w : World) (h1 : -9223372036854775808 ≤ n) (h2 : n ≤ 9223372036854775807) : Calls Try.prog 19 #[.int .i64 n, .int .i64 off] w fun e w' => e = .returned (.int .u64 (nearI n off)) ∧ w' = w := by
  obtain ⟨j, hj⟩ : ∃ j : Nat, n % 64 = (j : Int) := ⟨(n % 64).toNat, by omega⟩
  have hj64 : (j : Int) < 64 := by omega
  have hj0 : (0 : Int) ≤ (j : Int) := by omega
  have HE := hide (show nearI n off = IntKind.u64.wrap (IntKind.u64.wrap (2 ^ j) + IntKind.u64.wrap (off.tmod 5)) by unfold nearI; rw [hj]; rfl)
  go_enter Try.func19, Try.ntmps19
  go_wp2_with (go_at_call 18; refine (mod_any n 64 _ h1 h2 (by omega) (by omega)).mono ?_; rintro e w' ⟨rfl, rfl⟩; rw [hj])
  go_ret
  refine ⟨ret_u64 ?_, rfl⟩
  rw [HE.out]
/-- Pairs as cells. -/
def psv (l : List (Int × Int)) : List Value := l.flatMap fun p => [.int .i64 p.1, .int .i64 p.2]
theorem psv_get : ∀ (l : List (Int × Int)) (k : Nat) (a : Int × Int), l[k]? = some a → (psv l)[k * 2]? = some (.int .i64 a.1) ∧ (psv l)[k * 2 + 1]? = some (.int .i64 a.2)
  | [], k, a, h => by simp at h
  | q :: l, 0, a, h => by
    simp at h; subst h
    exact ⟨rfl, rfl⟩
  | q :: l, k + 1, a, h => by
    have ih := psv_get l k a (by simpa using h)
    have e : psv (q :: l) = .int .i64 q.1 :: .int .i64 q.2 :: psv l := rfl
    rw [e, show (k + 1) * 2 = k * 2 + 2 by omega]
    exact ⟨by simpa using ih.1, by simpa using ih.2⟩
structure CameP (w : World) (A : Option Addr) (c : Nat) (l : List (Int × Int)) : Prop where
  s : Src w 2 (.slice A l.length c) l.length (psv l)
  le : l.length ≤ c
  cm : c ≤ 9223372036854775807
  sz : ∀ x ∈ l, (-9223372036854775808 ≤ x.1 ∧ x.1 ≤ 9223372036854775807) ∧ (-9223372036854775808 ≤ x.2 ∧ x.2 ≤ 9223372036854775807)
section
variable {H : Type} {enc : TypeId × Value → H} {w : World} {base b0 : Nat} {spare : Nat → Bool} {held : Bool} {r : Reach} {v : Value} {d : DataW H} {p : List MemPlace}
theorem open_pairs (hok : Value.okWide Try.prog w r b0 55 v) (h : DataW.Trod enc Try.prog w base spare held 55 v d p) (hz : ∀ m ∈ d.weights Try.prog 55, m ≤ reachBytes) : ∃ A l c, v = .slice A l.length c ∧ CameP w A c l := by
  obtain ⟨A, len, cap, css, rfl, hlen, hsrc, hb, hcs⟩ := open_rows 2 Try.underlying55 plain30 hok h hz
  obtain ⟨q1, q2, q3⟩ := slice_caps Try.underlying55 h
  rw [cells30] at hsrc hcs
  obtain ⟨l, hl1, hl2, hl3⟩ := rows_as (fun x : Int × Int => [Value.int .i64 x.1, Value.int .i64 x.2]) (fun x => (-9223372036854775808 ≤ x.1 ∧ x.1 ≤ 9223372036854775807) ∧ (-9223372036854775808 ≤ x.2 ∧ x.2 ≤ 9223372036854775807)) css (fun cs hc => by
    obtain ⟨hl, hy⟩ := hcs cs hc
    rw [flat30] at hy
    obtain ⟨u0, e0, f0⟩ := hy (0, 3) (by simp)
    obtain ⟨u1, e1, f1⟩ := hy (1, 3) (by simp)
    obtain ⟨x, rfl, w0⟩ := f0.int Try.underlying3
    obtain ⟨y, rfl, w1⟩ := f1.int Try.underlying3
    exact ⟨(x, y), cell2 hl e0 e1, wf_i64 w0, wf_i64 w1⟩)
  have hll : l.length = len := by rw [hl1, hlen]
  subst hll
  refine ⟨A, l, cap, rfl, ?_, q1, q2, hl3⟩
  rw [hl2] at hsrc
  exact hsrc
end
theorem wrap_range (x : Int) : -9223372036854775808 ≤ IntKind.i64.wrap x ∧ IntKind.i64.wrap x ≤ 9223372036854775807 := by
  rw [IntKind.wrap_i64]; omega
theorem isv_one (l : List Int) : ∀ u ∈ isv l, u.oneCell' = true := by
  intro u hu
  simp only [isv, List.mem_map] at hu
  obtain ⟨b, _, rfl⟩ := hu
  rfl
/-- What the law's loop carries. -/
structure Lsi (w0 w : World) (v : Value) (x : List Int) (n : Nat) : Prop where
  own : Own w 3 1 v x.length (isv x)
  new : New w0 v
  sz : ∀ a ∈ x, -9223372036854775808 ≤ a ∧ a ≤ 9223372036854775807
  le : x.length ≤ n
set_option maxHeartbeats 1000000 in
set_option maxRecDepth 100000 in
theorem ints_walk (A : Option Addr) (c : Nat) (l : List Int) (B : Option Addr) (d : Nat) (q : List (Int × Int)) (w : World) (H : CameI w A c l) (HQ : CameP w B d q) :
    Calls Try.prog 13 #[.slice A l.length c, .slice B q.length d] w fun e w' => e = .returned (.bool true) ∧ Keeps [] w w' := by
  obtain ⟨i0, hi, hz0, hz1, hz2⟩ := info_parts Try.info3b
  have HI := hide (And.intro hi (And.intro hz0 (And.intro hz1 hz2)))
  have HC := hide H
  have HD := hide HQ
  clear H HQ hi hz0 hz1 hz2
  obtain ⟨mt, hmt⟩ : ∃ mt : Nat, mt = min l.length 60 := ⟨_, rfl⟩
  have hm1 : min (l.length : Int) 60 = (mt : Int) := by omega
  have hm1' : (if (60 : Int) < (l.length : Int) then (60 : Int) else (l.length : Int)) = (mt : Int) := by split <;> omega
  have hm2 : mt ≤ l.length := by omega
  have hm3 : mt ≤ 60 := by omega
  have hlc := HC.out.le
  have hlm := HC.out.cm
  have hqm := Nat.le_trans HD.out.le HD.out.cm
  have y1 : (0 : Int) ≤ (mt : Int) := by omega
  have y2 : (mt : Int) ≤ (l.length : Int) := by omega
  have y3 : (mt : Int) ≤ (c : Int) := by omega
  have HXL := hide (show (l.take mt).length = mt by rw [List.length_take]; omega)
  clear hmt
  go_enter Try.func13, Try.ntmps13
  go_wp2_with fail
  refine (sanity_any w).mono ?_
  rintro e w1 ⟨rfl, k1⟩
  have HK1 := hide k1
  have HF := hide (show Src w1 1 (.slice A mt c) mt (isv (l.take mt)) by
    have h1 := Src.front (show IS w1 (.slice A l.length c) l from Src.keep HC.out.s k1 (by simp)) mt hm2
    rw [Nat.mul_one] at h1
    rw [isv, List.map_take]; exact h1)
  have HT := hide (show Src w1 2 (.slice B q.length d) q.length (psv q) from Src.keep HD.out.s k1 (by simp))
  have HE := hide (show Own (w1.alloc (.cells #[] 3)) 3 1 (.slice (some ⟨w1.heap.size, 0, none⟩) 0 0) 0 [] from own_of (Bk.new w1 3 #[]) rfl (Nat.le_refl _) (by unfold maxLen; omega) rfl rfl)
  have HN := hide (show New w1 (.slice (some ⟨w1.heap.size, 0, none⟩) 0 0) from fun g hg => by
    have : w1.heap.size = g := by simpa [Value.ownBlock] using hg
    omega)
  have HA := hide ((Keeps.refl [] w1).alloc (.cells #[] 3))
  have HZL := hide (fun a (ha : a ∈ l.take mt) => HC.out.sz a (List.mem_of_mem_take ha))
  have HZQ := hide HD.out.sz
  clear k1 HC HD
  go_wp2_with (with_reducible refine Halt.append ?_)
  refine Halt.on ?_
  refine wpList_append_src _ rfl _ _ _ rfl 3 i0 _ 1 8 Try.underlying54 HI.out.1 HI.out.2.1 HI.out.2.2.1 HI.out.2.2.2 rfl (by omega) (.slice (some ⟨w1.heap.size, 0, none⟩) 0 0) 0 [] rfl HE.out (.slice A mt c) mt (isv (l.take mt)) rfl (Src.keep HF.out HA.out (by simp)) (isv_one _) (by unfold maxLen; omega) (by omega) ?_
  intro v4 w4 hown hgrow hblk
  obtain ⟨k4, n4⟩ := step_own HA.out HN.out hgrow hblk
  rw [Nat.zero_add, List.nil_append, ← HXL.out] at hown
  rw [HXL.out] at hown
  have HL := hide (show Lsi w1 w4 v4 (l.take mt) (60 + 2 * 0) from ⟨by rw [HXL.out]; exact hown, n4, HZL.out, by rw [HXL.out]; omega⟩)
  have HK4 := hide k4
  clear hown hgrow hblk k4 n4 HE HN HA HF HZL HXL hm1 hm1' hm2 y1 y2 y3 hm3 hlc hlm
  go_wp2
  go_loopw [6, 7] (fun s6 s7 wr => ∃ (k : Nat) (x : List Int), k ≤ q.length ∧ k ≤ 10 ∧ s7 = .int .i64 k ∧ Hid (Lsi w1 wr s6 x (60 + 2 * k)) ∧ Hid (Keeps [] w1 wr)) (fun _ s7 _ => 10 - (intOf s7).toNat)
  case atStart => exact ⟨0, _, Nat.zero_le _, by omega, rfl, HL, HK4⟩
  case round =>
    obtain ⟨k, x, hk, hk10, rfl, HO, HK⟩ := hrel
    obtain ⟨Ax, cx, hv⟩ := Own.slice HO.out.own
    subst hv
    by_cases hlt : k < q.length ∧ k < 10
    · obtain ⟨hlt, hlt10⟩ := hlt
      have hltz : (k : Int) < (q.length : Int) := by omega
      have hk0 : (0 : Int) ≤ (k : Int) := by omega
      have hd1 : decide (k < q.length) = true := by simp [hlt]
      have hd2 : decide ((k : Int) < 10) = true := by simp; omega
      obtain ⟨b0, o0, rfl, hcell⟩ := HT.out.headN (by omega) (by omega)
      obtain ⟨g0, g1⟩ := psv_get q k q[k] (List.getElem?_eq_getElem hlt)
      have c0 := hcell _ _ g0
      have c1 := hcell _ _ g1
      rw [← Nat.add_assoc] at c1
      have HB := hide (HZQ.out q[k] (List.getElem_mem _))
      clear hcell g0 g1
      generalize q[k] = p at c0 c1 HB
      obtain ⟨p0, p1⟩ := p
      simp only at c0 c1 HB
      have HC := hide (And.intro c0 c1)
      have e0 : wr.cell? ⟨b0, o0 + k * 2, none⟩ = some (.int .i64 p0) := HK.out.cell c0
      have e1 : wr.cell? ⟨b0, o0 + k * 2 + 1, none⟩ = some (.int .i64 p1) := HK.out.cell c1
      clear c0 c1
      have HNR := hide (fun (W : World) => near_is p0 p1 W HB.out.1.1 HB.out.1.2)
      generalize nearI p0 p1 = N at HNR
      have HA1 := hide (wrap_range N)
      have HA2 := hide (wrap_range (-(IntKind.i64.wrap N)))
      obtain ⟨a, ha⟩ : ∃ a, a = IntKind.i64.wrap N := ⟨_, rfl⟩
      rw [← ha] at HA1 HA2
      have ha1 : IntKind.i64.wrap N = a := ha.symm
      have ha2 : wrap64 N = a := by rw [← ha1, IntKind.wrap_i64]; unfold wrap64; omega
      obtain ⟨a', ha'⟩ : ∃ a', a' = IntKind.i64.wrap (-a) := ⟨_, rfl⟩
      rw [← ha'] at HA2
      have ha3 : IntKind.i64.wrap (-a) = a' := ha'.symm
      have ha4 : wrap64 (-a) = a' := by rw [← ha3, IntKind.wrap_i64]; unfold wrap64; omega
      clear ha ha'
      have HOA := hide (Own.drew (Own.alloc HO.out.own (.cells #[.int .i64 a, .int .i64 a'] 3)))
      have HKA := hide (HK.out.alloc (.cells #[.int .i64 a, .int .i64 a'] 3)).drew
      have hlx := HO.out.le
      go_wp2
      go_region_held3 (fun w' => w'.cell? ⟨b0, o0 + k * 2, none⟩ = some (.int .i64 p0) ∧ w'.cell? ⟨b0, o0 + k * 2 + 1, none⟩ = some (.int .i64 p1))
        (first
          | (go_split_ands; exact ⟨hK2.cell HC.out.1, hK2.cell HC.out.2⟩)
          | go_keep
          | fail)
        (first
          | (go_at_call 19; refine (HNR.out _).mono ?_; rintro e w' ⟨rfl, rfl⟩)
          | ((refine step_append_src _ (by rfl) _ _ _ (by rfl) 3 i0 _ 1 8 Try.underlying54 HI.out.1 HI.out.2.1 HI.out.2.2.1 HI.out.2.2.2 rfl (by omega) (.slice Ax x.length cx) _ _ (by rfl) HOA.out (.slice (some ⟨wr.heap.size, 0, none⟩) 2 2) 2 [.int .i64 a, .int .i64 a'] (by rfl) (Src.drew (Src.built wr 3 #[.int .i64 a, .int .i64 a'] 1 2 rfl _ rfl)) (by simp [Value.oneCell']) (by unfold maxLen; omega) (by omega) ?_); (intro v' w2 hown hgrow hblk; obtain ⟨hK2, hN2⟩ := step_own HKA.out HO.out.new hgrow hblk))
          | fail)
      all_goals
        have HO2 := hide (show Lsi w1 w2 v' (x ++ [a, a']) (60 + 2 * (k + 1)) from ⟨by
          rw [isv_append, List.length_append]
          exact hown, hN2, fun t ht => by
          rw [List.mem_append] at ht
          rcases ht with ht | ht
          · exact HO.out.sz t ht
          · simp at ht
            rcases ht with rfl | rfl
            · exact HA1.out
            · exact HA2.out, by rw [List.length_append]; simp; omega⟩)
        have HK2 := hide hK2
        clear hown hgrow hblk hK2 hN2 HOA HKA HO HK ha1 ha2 ha3 ha4
        go_wp2
        go_roundw
        case measure => simp [intOf]; omega
        case rel => exact ⟨k + 1, _, by omega, by omega, by go_num, HO2, HK2⟩
    · have hcs : (decide (k < q.length) = false ∨ (decide (k < q.length) = true ∧ decide ((k : Int) < 10) = false)) := by
        by_cases h : k < q.length
        · exact .inr ⟨by simp [h], by rw [decide_eq_false_iff_not]; omega⟩
        · exact .inl (by simp; omega)
      have hx9 : x.length ≤ 80 := by have := HO.out.le; omega
      have HP := hide (intsB_small x (by omega) HO.out.sz)
      have HU := hide (readI_intsB x (by omega) HO.out.sz)
      have HZ := hide HO.out.sz
      have HO1 := hide HO.out.own
      clear hlt HO HT HZQ HL HK4
      rcases hcs with hd1 | ⟨hd1, hd2⟩
      all_goals
        go_wp2_with fail
        refine (ints_any Ax cx x wr (Own.src HO1.out) (by have := HP.out; omega) (by omega) HZ.out).mono ?_
        rintro e w5 ⟨rfl, k5⟩
        have HO5 := hide (Own.keep HO1.out k5 (by simp))
        have HK5 := hide (HK.out.trans' k5)
        clear k5
        go_wp2_with fail
        refine (readints_any (intsB x) w5 (by have := HP.out; omega)).mono ?_
        rw [HU.out]
        rintro e w6 ⟨v6, rfl, ho6, hn6, k6⟩
        obtain ⟨A6, c6, rfl⟩ := Own.slice ho6
        have HO6 := hide ho6
        have HO6x := hide (Own.keep HO5.out k6 (by simp))
        have HK6 := hide (HK5.out.trans' k6)
        clear k6 ho6 hn6
        go_wp2_with fail
        refine (ints_same Ax A6 cx c6 x w6 (Own.src HO6x.out) (Own.src HO6.out) (by omega)).mono ?_
        rintro e w7 ⟨rfl, k7⟩
        have HO7 := hide (Own.keep HO6x.out k7 (by simp))
        have HK7 := hide (HK6.out.trans' k7)
        clear k7
        go_wp2_with fail
        refine (rints_any Ax cx x w7 (Own.src HO7.out) (by have := HP.out; omega) (by omega) HZ.out).mono ?_
        rintro e w8 ⟨rfl, k8⟩
        have HK8 := hide (HK1.out.trans' (HK7.out.trans' k8))
        clear k8
        go_wp2
        go_ret
        exact ⟨rfl, HK8.out⟩
end Go.Proofs.Ytbfghecemppoeaa

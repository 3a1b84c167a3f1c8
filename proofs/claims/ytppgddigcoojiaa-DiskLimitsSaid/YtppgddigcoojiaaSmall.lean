/- The law's and the model's small functions: Where, Long, survive, repeated. -/
import Derived.Test.YtppgddigcoojiaaTotal
namespace Go.Proofs.Ytppgddigcoojiaa
open Go.RowKit

def whereI (off : Int) : Int := if off < 0 ∨ 16777216 < off then off else off % 300
theorem where_any (k off n : Int) (t : ByteArray) (w : World) (h1 : -9223372036854775808 ≤ off) (h2 : off ≤ 9223372036854775807) :
    Calls Try.prog 34 #[.agg #[.int .i64 k, .int .i64 off, .int .i64 n, .string t]] w fun e w' => e = .returned (.int .i64 (whereI off)) ∧ Keeps [] w w' := by
  unfold whereI
  by_cases ha : off < 0
  · rw [if_pos (.inl ha)]
    go_enter Try.func34, Try.ntmps34
    go_wp2
    go_ret
    exact ⟨rfl, (Keeps.refl _ _).alloc _⟩
  · by_cases hb : 16777216 < off
    · rw [if_pos (.inr hb)]
      go_enter Try.func34, Try.ntmps34
      go_wp2
      go_ret
      exact ⟨rfl, (Keeps.refl _ _).alloc _⟩
    · rw [if_neg (by omega)]
      go_enter Try.func34, Try.ntmps34
      go_wp2_with fail
      refine (mod_any off 300 _ (by omega) (by omega) h1 h2).mono ?_
      rintro e w1 ⟨rfl, rfl⟩
      go_wp2_with fail
      go_ret
      exact ⟨rfl, (Keeps.refl _ _).alloc _⟩

def longF : Nat → ByteArray → ByteArray → Nat → ByteArray
  | 0, s, _, _ => s
  | f + 1, s, t, m => if 0 < s.size ∧ s.size < m then longF f (s ++ t) t m else s
/-- The text of an act. -/
def longB (t : ByteArray) (n : Int) : ByteArray :=
  (longF 200 t t (n % 200).toNat).extract 0 (min (longF 200 t t (n % 200).toNat).size 200)
theorem longB_size (t : ByteArray) (n : Int) : (longB t n).size ≤ 200 := by
  unfold longB
  rw [ByteArray.size_extract]
  omega
theorem longF_more : ∀ (f f' : Nat) (s t : ByteArray) (m : Nat), t.size ≠ 0 → m ≤ f + s.size → m ≤ f' + s.size → longF f s t m = longF f' s t m
  | 0, 0, _, _, _, _, _, _ => rfl
  | 0, f' + 1, s, t, m, _, h, _ => by
    unfold longF
    rw [if_neg (by omega)]
  | f + 1, 0, s, t, m, _, _, h => by
    conv => lhs; unfold longF
    rw [if_neg (by omega)]
    rfl
  | f + 1, f' + 1, s, t, m, ht, h, h' => by
    unfold longF
    split
    · exact longF_more f f' _ t m ht (by rw [ByteArray.size_append]; omega) (by rw [ByteArray.size_append]; omega)
    · rfl

set_option maxHeartbeats 400000 in
theorem long_any (k off n : Int) (t : ByteArray) (w : World) (h1 : -9223372036854775808 ≤ n) (h2 : n ≤ 9223372036854775807) (ht : t.size ≤ 140737488355328) :
    Calls Try.prog 36 #[.agg #[.int .i64 k, .int .i64 off, .int .i64 n, .string t]] w fun e w' => e = .returned (.string (longB t n)) ∧ Keeps [] w w' := by
  have hm0 : 0 ≤ n % 200 := Int.emod_nonneg _ (by omega)
  have hm1 : n % 200 < 200 := Int.emod_lt_of_pos _ (by omega)
  go_enter Try.func36, Try.ntmps36
  go_wp2_with fail
  go_loopw [3] (fun v wr => ∃ s : ByteArray, v = .string s ∧ s.size ≤ 140737488355328 ∧ t.size ≤ s.size ∧ Hid (longF 200 s t (n % 200).toNat = longF 200 t t (n % 200).toNat ∧ wr = w.alloc (.cells #[.int .i64 k, .int .i64 off, .int .i64 n, .string t] 33) ∧ (t.size = 0 → s.size = 0))) (fun v _ => 200 - strLen v)
  case atStart => exact ⟨t, rfl, ht, Nat.le_refl _, hide ⟨rfl, rfl, fun h => h⟩⟩
  case round =>
    obtain ⟨s, rfl, hs, hts, HR⟩ := hrel
    have hwr := HR.out.2.1
    subst hwr
    by_cases hpos : 0 < s.size
    · by_cases hlt : (s.size : Int) < n % 200
      · have htp : 0 < t.size := by
          rcases Nat.eq_zero_or_pos t.size with h | h
          · have := HR.out.2.2 h; omega
          · exact h
        go_wp2_with (go_at_call 22; refine (mod_any n 200 _ (by omega) (by omega) h1 h2).mono ?_; rintro e w1 ⟨rfl, rfl⟩)
        go_roundw
        case rel =>
          refine ⟨s ++ t, rfl, by rw [ByteArray.size_append]; omega, by rw [ByteArray.size_append]; omega, hide ⟨?_, by first | trivial | rfl, fun h => by omega⟩⟩
          · rw [← HR.out.1]
            have e : longF 200 s t (n % 200).toNat = longF 199 (s ++ t) t (n % 200).toNat := by
              conv => lhs; unfold longF
              rw [if_pos ⟨hpos, by omega⟩]
            rw [e]
            exact longF_more _ _ _ _ _ (by omega) (by omega) (by rw [ByteArray.size_append]; omega)
        case measure => simp only [strLen]; rw [ByteArray.size_append]; omega
      · obtain ⟨m, hm⟩ : ∃ m : Nat, (if (200 : Int) < s.size then (200 : Int) else s.size) = (m : Int) := ⟨min s.size 200, by split <;> omega⟩
        have hms : m ≤ s.size := by split at hm <;> omega
        have hm' : m = min s.size 200 := by split at hm <;> omega
        have HM := hide hm'
        clear hm'
        go_wp2_with (go_at_call 22; refine (mod_any n 200 _ (by omega) (by omega) h1 h2).mono ?_; rintro e w1 ⟨rfl, rfl⟩)
        go_ret
        have e : longF 200 t t (n % 200).toNat = s := by
          rw [← HR.out.1]
          conv => lhs; unfold longF
          rw [if_neg (by omega)]
        exact ⟨by unfold longB; rw [e, ← HM.out]; rfl, (Keeps.refl _ _).alloc _⟩
    · have hs0 : s.size = 0 := by omega
      have e : longF 200 t t (n % 200).toNat = s := by
          rw [← HR.out.1]
          conv => lhs; unfold longF
          rw [if_neg (by omega)]
      have hsb : s.extract 0 (min s.size 200) = ⟨#[]⟩ := by
        apply sExt
        rw [sCutHead _ _ (by omega)]
        simp [hs0]
      have HE := hide e
      have HB := hide hsb
      clear e hsb
      go_wp2_with fail
      go_ret
      exact ⟨by unfold longB; rw [HE.out, HB.out]; first | rfl | simp, (Keeps.refl _ _).alloc _⟩

/-- The numbers for a crash that a number determines. -/
def survQ (n : Int) : List Int := [n, n.tdiv 2, n.tdiv 3, n.tdiv 5, n.tdiv 7].take (n % 6).toNat
theorem tdiv_range (n m : Int) (h1 : -9223372036854775808 ≤ n) (h2 : n ≤ 9223372036854775807) (hm : 2 ≤ m) : -9223372036854775808 ≤ n.tdiv m ∧ n.tdiv m ≤ 9223372036854775807 := by
  have h := Int.natAbs_tdiv_le_natAbs n m
  constructor
  · rcases Int.lt_or_le (n.tdiv m) 0 with h0 | h0
    · omega
    · omega
  · rcases Int.lt_or_le n 0 with h0 | h0
    · have : n.tdiv m ≤ 0 := by
        have := Int.tdiv_nonneg (a := -n) (b := m) (by omega) (by omega)
        rw [Int.neg_tdiv] at this
        omega
      omega
    · omega
theorem survQ_range (n : Int) (h1 : -9223372036854775808 ≤ n) (h2 : n ≤ 9223372036854775807) : ∀ x, x ∈ survQ n → -9223372036854775808 ≤ x ∧ x ≤ 9223372036854775807 := by
  intro x hx
  have := List.mem_of_mem_take hx
  simp only [List.mem_cons, List.not_mem_nil, or_false] at this
  rcases this with rfl | rfl | rfl | rfl | rfl
  · exact ⟨h1, h2⟩
  all_goals exact tdiv_range n _ h1 h2 (by omega)
theorem survQ_length (n : Int) : (survQ n).length = (n % 6).toNat := by
  have h0 : 0 ≤ n % 6 := Int.emod_nonneg _ (by omega)
  have h1 : n % 6 < 6 := Int.emod_lt_of_pos _ (by omega)
  simp [survQ]
  omega

set_option maxHeartbeats 400000 in
theorem survive_any (n : Int) (w : World) (h1 : -9223372036854775808 ≤ n) (h2 : n ≤ 9223372036854775807) :
    Calls Try.prog 25 #[.int .i64 n] w fun e w' => e = .returned (.slice (some ⟨w.heap.size, 0, none⟩) (survQ n).length 5) ∧ Src w' 1 (.slice (some ⟨w.heap.size, 0, none⟩) (survQ n).length 5) (survQ n).length (iv (survQ n)) ∧ Keeps [] w w' := by
  have hm0 : 0 ≤ n % 6 := Int.emod_nonneg _ (by omega)
  have hm1 : n % 6 < 6 := Int.emod_lt_of_pos _ (by omega)
  have r2 := tdiv_range n 2 h1 h2 (by omega)
  have r3 := tdiv_range n 3 h1 h2 (by omega)
  have r5 := tdiv_range n 5 h1 h2 (by omega)
  have r7 := tdiv_range n 7 h1 h2 (by omega)
  go_enter Try.func25, Try.ntmps25
  go_wp2_with (go_at_call 22; refine (mod_any n 6 _ (by omega) (by omega) h1 h2).mono ?_; rintro e w1 ⟨rfl, rfl⟩)
  go_ret
  have hsl := survQ_length n
  rw [hsl]
  refine ⟨rfl, ?_, (Keeps.refl _ _).alloc _⟩
  have hb := Src.built w 3 #[.int .i64 n, .int .i64 (n.tdiv 2), .int .i64 (n.tdiv 3), .int .i64 (n.tdiv 5), .int .i64 (n.tdiv 7)] 1 5 rfl w.heap.size rfl
  have hw := hb.window 0 (n % 6).toNat 5 (by omega)
  simpa [survQ, iv] using hw

theorem rep_step (c : UInt8) (k n : Nat) (h : k < n) : (bv (List.replicate k c ++ List.replicate (n - k) 0)).set k (.int .u8 c.toNat) = bv (List.replicate (k + 1) c ++ List.replicate (n - (k + 1)) 0) := by
  obtain ⟨m, hm⟩ : ∃ m, n - k = m + 1 := ⟨n - k - 1, by omega⟩
  rw [hm, show n - (k + 1) = m by omega, bv_append, bv_append, List.set_append_right _ _ (by rw [bv_length]; simp), bv_length, List.length_replicate, Nat.sub_self]
  rw [List.replicate_succ' (n := k), bv_append, List.append_assoc]
  simp [bv, List.replicate_succ]

set_option maxHeartbeats 400000 in
theorem repeated_any (c : UInt8) (n : Nat) (w : World) (hn : n ≤ 1000) :
    Calls Try.prog 26 #[.int .u8 c.toNat, .int .i64 n] w fun e w' => e = .returned (.string (bs (List.replicate n c))) ∧ Keeps [] w w' := by
  have hmk := fun (W : World) => Try.mk_zeros n (by omega) W
  go_enter Try.func26, Try.ntmps26
  go_wp2_with fail
  go_loopw [6] (fun i wr => ∃ k : Nat, i = .int .i64 k ∧ k ≤ n ∧ Hid (Own wr 5 1 (.slice (some ⟨w.heap.size, 0, none⟩) n n) n (bv (List.replicate k c ++ List.replicate (n - k) 0)) ∧ Keeps [] w wr)) (fun i _ => n - (intOf i).toNat)
  case atStart =>
    refine ⟨0, rfl, Nat.zero_le _, hide ⟨?_, (Keeps.refl _ _).alloc _⟩⟩
    refine own_mk (cur := List.replicate n (.int .u8 0)) ?_ (Nat.le_refl _) (by unfold maxLen; omega) (by simp) ?_
    · have := heap_alloc_new w (.cells (Array.replicate n (.int .u8 0)) 5)
      simpa using this
    · rw [List.take_of_length_le (by simp)]
      simp [bv]
  case round =>
    obtain ⟨k, rfl, hk, HR⟩ := hrel
    by_cases hlt : k < n
    · have hc := World.ownsRow.cellAt HR.out.1 k (by omega)
      have hf := World.ownsRow.frozenAt HR.out.1 k
      have hl : k < (bv (List.replicate k c ++ List.replicate (n - k) 0)).length := by rw [bv_length]; simp; omega
      rw [List.getElem?_eq_getElem hl] at hc
      generalize (bv (List.replicate k c ++ List.replicate (n - k) 0))[k] = old at hc
      go_wp2_with fail
      go_roundw
      case rel =>
        refine ⟨k + 1, by go_num, by omega, hide ⟨?_, HR.out.2.setCell (.inr (Nat.le_refl _)) _⟩⟩
        have := World.ownsRow.stored HR.out.1 k (.int .u8 c.toNat)
        have e : (bv (List.replicate k c ++ List.replicate (n - k) 0)).set k (.int .u8 c.toNat) = bv (List.replicate (k + 1) c ++ List.replicate (n - (k + 1)) 0) := rep_step c k n hlt
        rw [e] at this
        exact this.1
      case measure => simp [intOf]; omega
    · have hkn : k = n := by omega
      have hcv := run_bytes_str wr (some ⟨w.heap.size, 0, none⟩) n n (List.replicate n c) (by simp) (by have := HR.out.1.src; rw [hkn, Nat.sub_self] at this; simpa using this)
      have HK := hide HR.out.2
      clear HR hkn
      go_wp2_with fail
      go_ret
      exact ⟨rfl, HK.out⟩
end Go.Proofs.Ytppgddigcoojiaa

/- JournalReads: plain laws, the law's 'reads', the walk, the openers. -/
import Derived.Test.YtcfglfnncpcfoaaRevt
import Derived.Test.YtcfglfnncpcfoaaRrev
import Derived.Test.YtcfglfnncpcfoaaEvents
import Derived.Test.YtcfglfnncpcfoaaBytes
import Derived.Test.YtcfglfnncpcfoaaOpen
namespace Go.Proofs.Ytcfglfnncpcfoaa
/-! Plain laws: which strings ReadEvent may be asked about. -/
section
open Go.RowKit Go.Shelf
/-- Byte j ends a number, or lies behind the end. -/
def Small (l : List UInt8) (j : Nat) : Prop := ∀ x, l[j]? = some x → x.toNat < 128
theorem rd_small : ∀ (j : Nat) (l : List UInt8) (i acc : Nat), Small l j → (rd i acc l).1 + 128 ^ i ≤ acc + 128 ^ (i + j + 1)
  | j, [], i, acc, _ => by
    have h1 : 128 ^ i ≤ 128 ^ (i + j + 1) := Nat.pow_le_pow_right (by omega) (by omega)
    unfold rd
    split <;> (show 0 + 128 ^ i ≤ _; omega)
  | j, b :: t, i, acc, h => by
    have h1 : 128 ^ i ≤ 128 ^ (i + j + 1) := Nat.pow_le_pow_right (by omega) (by omega)
    have h2 : 128 ^ (i + 1) = 128 ^ i * 128 := Nat.pow_succ ..
    have h3 : b.toNat % 128 * 128 ^ i ≤ 127 * 128 ^ i := Nat.mul_le_mul_right _ (by omega)
    unfold rd
    split
    · show 0 + 128 ^ i ≤ _; omega
    · split
      · rename_i hb
        match j, h with
        | 0, h => have := h b rfl; omega
        | j + 1, h =>
          have ih := rd_small j t (i + 1) (acc + b.toNat % 128 * 128 ^ i) (fun x hx => h x (by simpa using hx))
          rw [show i + 1 + j + 1 = i + (j + 1) + 1 by omega] at ih
          omega
      · split
        · show 0 + 128 ^ i ≤ _; omega
        · show acc + b.toNat % 128 * 128 ^ i + 128 ^ i ≤ _
          have h4 : 128 ^ (i + 1) ≤ 128 ^ (i + j + 1) := Nat.pow_le_pow_right (by omega) (by omega)
          omega
theorem readN_small {l : List UInt8} {j : Nat} (h : Small l j) (hj : j ≤ 2) : (readN l).1 ≤ 2097152 := by
  have h1 := rd_small j l 0 0 h
  have h2 : 128 ^ (0 + j + 1) ≤ 128 ^ 3 := Nat.pow_le_pow_right (by omega) (by omega)
  unfold readN
  have h3 : (128 : Nat) ^ 3 = 2097152 := by decide
  omega
theorem stepU_ok {l : List UInt8} {o : List ByteArray} (h : (stepU l o).2.1 = 0) : ∃ s, (stepU l o).2.2 = o ++ [s] ∧ s.size ≤ (readN l).1 := by
  unfold stepU at h ⊢
  by_cases h1 : (readN l).2.2 ≠ 0
  · rw [if_pos h1] at h
    exact absurd h h1
  · rw [if_neg h1] at h ⊢
    by_cases h2 : (l.drop (readN l).2.1).length < (readN l).1
    · rw [if_pos h2] at h
      exact absurd h (show ¬ ((10 : Int) = 0) by decide)
    · rw [if_neg h2]
      exact ⟨_, rfl, by rw [bs_size, List.length_take]; omega⟩
theorem goU_ok : ∀ (m : Nat) (l : List UInt8) (o r : List ByteArray), goU m l o = (r, 0) → ∃ s, r = o ++ s ∧ s.length = m ∧ (∀ a, s[0]? = some a → a.size ≤ (readN l).1)
  | 0, l, o, r, h => by
    unfold goU at h
    by_cases hl : l = []
    · rw [if_pos hl] at h
      injection h with h _
      exact ⟨[], by rw [List.append_nil, h], rfl, fun a ha => by simp at ha⟩
    · rw [if_neg hl] at h
      injection h with _ h
      exact absurd h (by decide)
  | m + 1, l, o, r, h => by
    unfold goU at h
    by_cases h1 : (stepU l o).2.1 ≠ 0
    · rw [if_pos h1] at h
      injection h with _ h
      exact absurd h h1
    · rw [if_neg h1] at h
      obtain ⟨s, e1, e2⟩ := stepU_ok (by simpa using h1)
      rw [e1] at h
      obtain ⟨t, f1, f2, _⟩ := goU_ok m _ _ _ h
      exact ⟨s :: t, by rw [f1]; simp, by simp [f2], fun a ha => by simp at ha; subst ha; exact e2⟩
theorem numL_two : numL 2 = [2] := numL_last 2 (by omega)
theorem unp_two {l : List UInt8} {a x : ByteArray} (h : unpB l = ([a, x], 0)) : a.size ≤ (readN (l.drop 1)).1 := by
  unfold unpB at h
  by_cases h1 : (readN l).2.2 ≠ 0
  · rw [if_pos h1] at h
    injection h with _ h
    exact absurd h h1
  · rw [if_neg h1] at h
    obtain ⟨s, e1, e2, e3⟩ := goU_ok _ _ _ _ h
    rw [List.nil_append] at e1
    subst e1
    have hr : readN l = (2, (readN l).2.1, 0) := by
      have h2 : (readN l).2.2 = 0 := by simpa using h1
      have h3 : (readN l).1 = 2 := e2.symm
      rw [← h2, ← h3]
    have hi := readN_inv hr
    have hz := readN_size l
    rw [numL_two] at hi
    have hlen := congrArg List.length hi
    rw [List.length_take, List.length_singleton] at hlen
    have h1 : (readN l).2.1 = 1 := by omega
    rw [h1] at e3
    exact e3 a rfl
theorem Small.drop {l : List UInt8} {j : Nat} (h : Small l (j + 1)) : Small (l.drop 1) j := fun x hx => h x (by rw [List.getElem?_drop, Nat.add_comm] at hx; exact hx)
theorem fine_of {l : List UInt8} {i j : Nat} (hl : l.length ≤ 140737488355328) (h1 : Small l i) (hi : i ≤ 2) (h2 : Small l (j + 1)) (hj : j ≤ 2) : Fine l :=
  ⟨hl, by have := readN_small h1 hi; omega, fun a x h => by have h3 := unp_two h; have h4 := readN_small h2.drop hj; omega⟩
/-- The beginning of an event's code. -/
def Head (l : List UInt8) : Prop := Small l 0 ∧ Small l 2 ∧ (Small l 1 ∨ Small l 3)
theorem small_at {l : List UInt8} {j : Nat} {y : UInt8} (h : l[j]? = some y) (hy : y.toNat < 128) : Small l j := fun x hx => by
  rw [h] at hx
  injection hx with hx
  rw [← hx]; exact hy
theorem head_event (e : Ev) (he : e.fits) : Head (evB e) := by
  have hi := intsB_small (nums e) (by rw [nums_length]; omega) he
  have h1 : evB e = 2 :: (numL (bs (intsB (nums e))).size ++ ((bs (intsB (nums e))).data.toList ++ itemL e.x)) := by
    show numL 2 ++ ((numL (bs (intsB (nums e))).size ++ (bs (intsB (nums e))).data.toList) ++ (itemL e.x ++ [])) = _
    rw [numL_two, List.append_nil, List.append_assoc]; rfl
  have h2 : intsB (nums e) = 17 :: (nums e).flatMap intL := by
    show numL 17 ++ _ = _
    rw [numL_last 17 (by omega)]; rfl
  rw [bs_size, bs_list] at h1
  generalize hn : (intsB (nums e)).length = n at h1 hi
  rw [h2] at h1
  by_cases h128 : n < 128
  · rw [numL_last n h128] at h1
    rw [h1]
    refine ⟨small_at rfl (by decide), small_at rfl (by decide), .inl (small_at rfl ?_)⟩
    rw [toNat_ofNat _ (by omega)]; exact h128
  · rw [numL_more n (by omega), numL_last (n / 128) (by omega)] at h1
    rw [h1]
    refine ⟨small_at rfl (by decide), small_at rfl ?_, .inr (small_at rfl (by decide))⟩
    rw [toNat_ofNat _ (by omega)]; omega
theorem Small.set {l : List UInt8} {j p : Nat} (h : Small l j) (hp : p ≠ j) (v : UInt8) : Small (l.set p v) j := fun x hx => h x (by rwa [List.getElem?_set_ne hp] at hx)
theorem Small.take {l : List UInt8} {j : Nat} (h : Small l j) (k : Nat) : Small (l.take k) j := fun x hx => h x (by
  rw [List.getElem?_take] at hx
  split at hx
  · exact hx
  · cases hx)
theorem Small.app {l : List UInt8} {j : Nat} (h : Small l j) (v : UInt8) (hv : v.toNat < 128) : Small (l ++ [v]) j := fun x hx => by
  rw [List.getElem?_append] at hx
  split at hx
  · exact h x hx
  · have := List.mem_of_getElem? hx
    simp at this
    rw [this]; exact hv
theorem Head.fine {l : List UInt8} (h : Head l) (hl : l.length ≤ 140737488355328) : Fine l := fine_of (i := 0) (j := 1) hl h.1 (by omega) h.2.1 (by omega)
theorem fine_set {l : List UInt8} (h : Head l) (hl : l.length ≤ 140737488355328) (p : Nat) (v : UInt8) : Fine (l.set p v) := by
  have hl' : (l.set p v).length ≤ 140737488355328 := by rw [List.length_set]; exact hl
  by_cases h0 : p = 0
  · subst h0
    exact fine_of (i := 2) (j := 1) hl' (h.2.1.set (by omega) v) (by omega) (h.2.1.set (by omega) v) (by omega)
  · by_cases h2 : p = 2
    · subst h2
      rcases h.2.2 with h3 | h3
      · exact fine_of (i := 0) (j := 0) hl' (h.1.set (by omega) v) (by omega) (h3.set (by omega) v) (by omega)
      · exact fine_of (i := 0) (j := 2) hl' (h.1.set (by omega) v) (by omega) (h3.set (by omega) v) (by omega)
    · exact fine_of (i := 0) (j := 1) hl' (h.1.set h0 v) (by omega) (h.2.1.set h2 v) (by omega)
theorem fine_take {l : List UInt8} (h : Head l) (hl : l.length ≤ 140737488355328) (k : Nat) : Fine (l.take k) :=
  Head.fine ⟨h.1.take k, h.2.1.take k, h.2.2.elim (fun a => .inl (a.take k)) (fun a => .inr (a.take k))⟩ (by rw [List.length_take]; omega)
theorem fine_app {l : List UInt8} (h : Head l) (hl : l.length < 140737488355328) (v : UInt8) (hv : v.toNat < 128) : Fine (l ++ [v]) :=
  Head.fine ⟨h.1.app v hv, h.2.1.app v hv, h.2.2.elim (fun a => .inl (a.app v hv)) (fun a => .inr (a.app v hv))⟩ (by rw [List.length_append, List.length_singleton]; omega)
theorem flat_items : ∀ (l : List ByteArray), (∀ s ∈ l, s.size ≤ 3000) → (l.flatMap itemL).length ≤ l.length * 3010
  | [], _ => by simp
  | s :: l, h => by
    have h1 := flat_items l (fun t ht => h t (by simp [ht]))
    have h2 := h s (by simp)
    have h3 := numL_length s.size (by omega)
    have h4 : (itemL s).length = (numL s.size).length + s.data.toList.length := List.length_append
    have h5 : s.data.toList.length = s.size := Array.length_toList
    rw [List.flatMap_cons, List.length_append, List.length_cons, h4]
    omega
theorem pack_few {l : List ByteArray} (hl : l.length ≤ 4) (h : ∀ s ∈ l, s.size ≤ 3000) : (packB l).length ≤ 20000 := by
  have h1 := flat_items l h
  have h2 := numL_length l.length (by omega)
  have h3 : (packB l).length = (numL l.length).length + (l.flatMap itemL).length := List.length_append
  omega
theorem fine_pack {l : List ByteArray} (hp : (packB l).length ≤ 140737488355328) (hl : l.length ≤ 4) (hz : ∀ s ∈ l, s.size < 18446744073709551616) (h0 : ∀ a, l[0]? = some a → a.size ≤ 1000000000) : Fine (packB l) := by
  refine ⟨hp, by rw [pack_first l (by omega)]; omega, fun a x h => ?_⟩
  rw [unpB_packB l (by omega) hz] at h
  injection h with h _
  subst h
  exact h0 a rfl
end
/-! The law's 'reads'; laws for the walk of JournalReads. -/
section
open Go.RowKit Go.Shelf
set_option maxHeartbeats 4000000 in
set_option maxRecDepth 100000 in
theorem reads_any (l : List UInt8) (w : World) (hf : Fine l) : Calls Try.prog 19 #[.string (bs l)] w fun r w' => r = .returned (.bool true) ∧ Keeps [] w w' := by
  have HF := hide hf
  clear hf
  go_enter Try.func19, Try.ntmps19
  go_wp2_with fail
  refine (read_event_any l w HF.out).mono ?_
  rintro r w1 ⟨rfl, k1⟩
  obtain ⟨⟨e, f⟩, hq⟩ : ∃ p, readE l = p := ⟨_, rfl⟩
  have HQ := hide hq
  rw [hq]
  clear hq
  have HK := hide k1
  clear k1
  go_wp2_with (with_reducible refine Halt.store (t := 27) ?_)
  refine Halt.on ?_
  change wpList _ _ _ _ _ (w1.alloc (.cells (ec z0).toArray 27))
  refine wpList_store_ev rfl _ _ rfl w1.heap.size e rfl rfl 27 _ (Bk.new w1 27 _) rfl ?_
  simp only [Act.put]
  have HA := hide (row_bk (Bk.new w1 27 (ec z0).toArray) (ec e).toArray)
  replace HK := hide ((HK.out.alloc (.cells (ec z0).toArray 27)).setRow (g := w1.heap.size) (.inr HK.out.size) (ec e).toArray)
  generalize (w1.alloc (.cells (ec z0).toArray 27)).setRow w1.heap.size (ec e).toArray = w2 at HA HK ⊢
  generalize w1.heap.size = ba at HA ⊢
  go_wp2_with fail
  refine (rread_event_any l w2 HF.out).mono ?_
  rintro r w3 ⟨rfl, k3⟩
  rw [HQ.out]
  replace HA := hide (HA.out.keep k3 (by simp))
  replace HK := hide (HK.out.trans' k3)
  clear k3
  go_wp2_with (with_reducible refine Halt.store (t := 27) ?_)
  refine Halt.on ?_
  change wpList _ _ _ _ _ (w3.alloc (.cells (ec z0).toArray 27))
  refine wpList_store_ev rfl _ _ rfl w3.heap.size e rfl rfl 27 _ (Bk.new w3 27 _) rfl ?_
  simp only [Act.put]
  have HB := hide (row_bk (Bk.new w3 27 (ec z0).toArray) (ec e).toArray)
  have hn : ba ≠ w3.heap.size := by have := HA.out.lt; omega
  replace HA := hide (row_far (HA.out.alloc (.cells (ec z0).toArray 27)) hn (ec e).toArray)
  replace HK := hide ((HK.out.alloc (.cells (ec z0).toArray 27)).setRow (g := w3.heap.size) (.inr HK.out.size) (ec e).toArray)
  clear hn
  generalize (w3.alloc (.cells (ec z0).toArray 27)).setRow w3.heap.size (ec e).toArray = w4 at HA HB HK ⊢
  generalize w3.heap.size = bb at HB ⊢
  go_wp2_with (with_reducible refine Halt.load (t := 27) ?_)
  refine Halt.on ?_
  refine wpList_load_ev rfl _ rfl ba 0 e rfl (EvAt.box HA.out) ?_
  go_wp2_with (with_reducible refine Halt.load (t := 27) ?_)
  refine Halt.on ?_
  refine wpList_load_ev rfl _ rfl bb 0 e rfl (EvAt.box HB.out) ?_
  go_wp2_with (with_reducible refine Halt.eq (t := 27) ?_)
  refine Halt.on ?_
  refine wpList_eq_evG (by rfl) _ _ e e rfl rfl rfl ?_
  rw [decide_eq_true rfl]
  go_wp2
  go_ret
  exact ⟨rfl, HK.out⟩
theorem mod_valB (n m : Int) (h3 : 1 ≤ m) (h4 : m ≤ 1000000000000000) : (wrap64 (n.tmod m + m)).tmod m = n % m := by
  have b1 : n.tmod m < m := Int.tmod_lt_of_pos n (by omega)
  have b2 : -m < n.tmod m := Int.lt_tmod_of_pos n (by omega)
  rw [IntWalk.wrap64_in _ ⟨by omega, by omega⟩, Int.tmod_eq_emod_of_nonneg (by omega), Int.add_emod_right]
  rcases Int.le_total 0 n with h | h
  · rw [Int.tmod_eq_emod_of_nonneg h, Int.emod_emod]
  · obtain ⟨k, hk⟩ : ∃ k, n = n.tmod m + m * k := ⟨n.tdiv m, (Int.tmod_add_mul_tdiv n m).symm⟩
    conv => rhs; rw [hk]
    rw [Int.add_mul_emod_self_left]
theorem mod_big (n m : Int) (w : World) (h3 : 1 ≤ m) (h4 : m ≤ 1000000000000000) : Calls Try.prog 17 #[.int .i64 n, .int .i64 m] w fun e w' => e = .returned (.int .i64 (n % m)) ∧ w = w' := by
  have hm0 : ¬ m = 0 := by omega
  have HV := Lib.hid (mod_valB n m h3 h4)
  go_enter Try.func17, Try.ntmps17
  go_wp2
  go_ret
  exact ⟨ret_i64 HV.out, rfl⟩
theorem step_store_u8 {w : World} {ops : Array Oper} {o : Oper} {a : Act} {K : Act → World → Prop} {Q : Exit → Act → World → Prop} {E : Prop} (p y : Operand) (ho : o.op = .store 5 p y) (hw : Region.wanted o (yielded ops a.tmps) = true) (b f : Nat) (v : Int) (u : Value) (hp : a.eval p = .pointer (some ⟨b, f, none⟩)) (hy : a.eval y = .int .u8 v) (hc : w.cell? ⟨b, f, none⟩ = some u) (hf : w.frozen? ⟨b, f, none⟩ = false)
    (h : K (a.put o.dst undef) (w.setCell ⟨b, f, none⟩ (.int .u8 v))) : if Region.wanted o (yielded ops a.tmps) = true then Oper.wp Try.prog o a w K Q else E := by
  rw [if_pos hw]
  unfold Oper.wp execOp
  simp only [ho, hp, hy, Instr.storeAt, Instr.sureAddr, storeVar]
  go_simp
  exact h
theorem byte_of (q : Int) : ∃ b : UInt8, IntKind.u8.wrap q = (b.toNat : Int) := by
  have h1 : 0 ≤ q % 256 := Int.emod_nonneg _ (by omega)
  have h2 : q % 256 < 256 := Int.emod_lt_of_pos _ (by omega)
  refine ⟨UInt8.ofNat (q % 256).toNat, ?_⟩
  rw [IntKind.wrap_u8', toNat_ofNat _ (by omega)]
  omega
theorem Src.front {w : World} {sz n c : Nat} {A : Option Addr} {xs : List Value} (h : Src w sz (.slice A n c) n xs) (m : Nat) (hm : m ≤ n) : Src w sz (.slice A m c) m (xs.take (m * sz)) := by
  obtain ⟨hl, A', c', hA, hnil, hc⟩ := h
  injection hA with hA _ hcc
  subst hA hcc
  refine ⟨by rw [List.length_take, hl]; exact Nat.min_eq_left (Nat.mul_le_mul_right _ hm), _, _, rfl, fun h0 => by have := hnil h0; omega, fun ad had j u hu => hc ad had j u ?_⟩
  rw [List.getElem?_take] at hu
  split at hu
  · exact hu
  · cases hu
theorem IS.front {w : World} {c : Nat} {A : Option Addr} {l : List Int} (h : IS w (.slice A l.length c) l) (m : Nat) (hm : m ≤ l.length) : IS w (.slice A m c) (l.take m) := by
  have h1 := Src.front h m hm
  rw [Nat.mul_one] at h1
  show Src w 1 _ (l.take m).length _
  rw [isv, List.map_take, show (l.take m).length = m by rw [List.length_take]; omega]
  exact h1
end
/-! The walk of JournalReads. -/
section
open Go.RowKit Go.Shelf
theorem bs_set' (l : List UInt8) : (⟨l.toArray⟩ : ByteArray) = bs l := rfl
theorem bs_x (l : List UInt8) : bs l ++ ⟨#[120]⟩ = bs (l ++ [120]) := bs_ext (by rw [bs_list]; simp [bs])
theorem isv_one (l : List Int) : ∀ u ∈ isv l, u.oneCell' = true := fun u hu => by
  simp only [isv, List.mem_map] at hu
  obtain ⟨x, _, rfl⟩ := hu
  rfl
set_option maxHeartbeats 8000000 in
set_option maxRecDepth 100000 in
theorem reads_walk (e : Ev) (q0 q1 q2 : Int) (A : Option Addr) (c : Nat) (l : List Int) (w : World) (H : e.came) (HL : CameI w A c l) (hfew : l.length * 8 ≤ 140737488351232) :
    Calls Try.prog 4 #[ev e, .agg #[.int .i64 q0, .int .i64 q1, .int .i64 q2], .slice A l.length c] w fun r w' => r = .returned (.bool true) ∧ Keeps [] w w' := by
  have HE := hide H
  have HB := hide (Bk.new w 27 (ec e).toArray)
  have HQ := hide (Bk.new (w.alloc (.cells (ec e).toArray 27)) 34 #[.int .i64 q0, .int .i64 q1, .int .i64 q2])
  have HK := hide (((Keeps.refl [] w).alloc (.cells (ec e).toArray 27)).alloc (.cells #[.int .i64 q0, .int .i64 q1, .int .i64 q2] 34))
  replace HB := hide (HB.out.alloc (.cells #[.int .i64 q0, .int .i64 q1, .int .i64 q2] 34))
  have HS := hide HL.s
  have HZ := hide HL.sz
  have HLC := hide (And.intro HL.le (And.intro HL.cm hfew))
  obtain ⟨i0, hi0, hz0, hz1, hz2⟩ := info_parts Try.info3b
  have HI := hide (And.intro hi0 (And.intro hz0 (And.intro hz1 hz2)))
  clear hi0 hz0 hz1 hz2 H HL hfew
  have hsz : (w.alloc (.cells (ec e).toArray 27)).heap.size = w.heap.size + 1 := by simp
  rw [hsz] at HQ
  clear hsz
  unfold ev
  go_enter Try.func4, Try.ntmps4
  go_wp2_with fail
  generalize (w.alloc (.cells (ec e).toArray 27)).alloc (.cells #[.int .i64 q0, .int .i64 q1, .int .i64 q2] 34) = w0 at HB HQ HK ⊢
  generalize w.heap.size + 1 = bq at HQ ⊢
  have HW := hide (Nat.le_refl w.heap.size)
  obtain ⟨bx, hbx⟩ : ∃ b, w.heap.size = b := ⟨_, rfl⟩
  rw [hbx] at HB ⊢
  clear hbx HW
  refine (sanity_any w0).mono ?_
  rintro r w1 ⟨rfl, k1⟩
  replace HB := hide (HB.out.keep k1 (by simp))
  replace HQ := hide (HQ.out.keep k1 (by simp))
  replace HK := hide (HK.out.trans' k1)
  clear k1
  go_wp2_with (with_reducible refine Halt.load (t := 27) ?_)
  refine Halt.on ?_
  refine wpList_load_ev rfl _ rfl bx 0 e rfl (EvAt.box HB.out) ?_
  go_wp2_with fail
  refine (revent_any e w1 HE.out.fits HE.out.x).mono ?_
  rintro r w2 ⟨rfl, k2⟩
  replace HB := hide (HB.out.keep k2 (by simp))
  replace HQ := hide (HQ.out.keep k2 (by simp))
  replace HK := hide (HK.out.trans' k2)
  clear k2
  have HHD := hide (head_event e HE.out.fits)
  have HLN := hide (event_len e HE.out.x HE.out.fits)
  have hL0 : 0 < (evB e).length := by
    have := numL_pos [bs (intsB (nums e)), e.x].length
    show 0 < (numL _ ++ _).length
    rw [List.length_append]; omega
  generalize evB e = L at HHD HLN hL0 ⊢
  have hcv := Lib.run_convert_string_bytes (P := Try.prog) w2 9 36 5 (bs L) Try.underlying9 Try.underlying36 Try.underlying5
  have HY := hide (By.new w2 (bs L))
  have kb := keeps_bytes w2 (bs L)
  have hgl : w.heap.size ≤ w2.heap.size := HK.out.size
  have hgx : bx ≠ w2.heap.size := by have := HB.out.lt; omega
  have hgq : bq ≠ w2.heap.size := by have := HQ.out.lt; omega
  replace HB := hide (HB.out.keep kb (by simp))
  replace HQ := hide (HQ.out.keep kb (by simp))
  replace HK := hide (HK.out.trans' kb)
  clear kb
  rw [bs_list] at HY
  generalize grownCap w2 (bs L).size 0 5 = cap at hcv
  generalize Lib.bytesWorld w2 5 (bs L) = w4 at hcv HY HB HQ HK
  generalize w2.heap.size = g at hcv HY hgl hgx hgq
  rw [bs_size] at hcv
  obtain ⟨n, hn⟩ : ∃ n, L.length = n := ⟨_, rfl⟩
  rw [hn] at hcv hL0
  have hn9 : n ≤ 140737488353332 := by have := HLN.out; omega
  have HN := hide hn
  obtain ⟨p, hp⟩ : ∃ p : Nat, q0 % (n : Int) = (p : Int) := ⟨(q0 % (n : Int)).toNat, by have := Int.emod_nonneg q0 (show (n : Int) ≠ 0 by omega); omega⟩
  have hpz : (p : Int) < (n : Int) := by have := Int.emod_lt_of_pos q0 (show (0 : Int) < (n : Int) by omega); omega
  have hp0 : (0 : Int) ≤ (p : Int) := by omega
  have hpl : p < L.length := by omega
  have hpb : L[p]? = some L[p] := List.getElem?_eq_getElem hpl
  obtain ⟨b, hb⟩ := byte_of q1
  clear hn
  go_wp2
  clear hcv
  refine wp_region_held_drew (S := (fun w' => Hid (Keeps [g] w4 w'))) (by kernel_rfl) (hide (Keeps.refl [g] w4).drew) (fun hS => ?_)
  refine wpAnyH_take (i := 0) (oi := { dst := some 23, op := _, type := _, pos := _, after := _, guard := _ }) (v := ?_) rfl (by kernel_rfl) (by kernel_rfl) (by kernel_rfl) (fun _ _ _ h => h) (Or.inl ⟨by rfl, ?_⟩) hS ?_
  rotate_left
  · (intro w' hSw; go_simp; try with_reducible rfl)
  simp only [Act.put, List.setIfInBounds_toArray, List.set_cons_zero, List.set_cons_succ]
  refine wpAnyH_take (i := 1) (oi := { dst := some 24, op := _, type := _, pos := _, after := _, guard := _ }) (v := ?_) rfl (by kernel_rfl) (by kernel_rfl) (by kernel_rfl) (fun _ _ _ h => h) (Or.inl ⟨by rfl, ?_⟩) hS ?_
  rotate_left
  · (intro w' hSw; go_simp; try with_reducible rfl)
  simp only [Act.put, List.setIfInBounds_toArray, List.set_cons_zero, List.set_cons_succ]
  refine wpAnyH_take (i := 2) (oi := { dst := some 25, op := _, type := _, pos := _, after := _, guard := _ }) rfl (by kernel_rfl) (by kernel_rfl) (by kernel_rfl) (fun _ _ _ h => h) (yl_cell 3 _ bq 0 rfl Try.isAgg3 (by rfl) (by rfl) (fun _ h => h.out.cellF (HQ.out.cell 0) (by simpa using hgq))) hS ?_
  simp only [Act.put, List.setIfInBounds_toArray, List.set_cons_zero, List.set_cons_succ]
  refine wpAnyH_take (i := 3) (oi := { dst := some 26, op := _, type := _, pos := _, after := _, guard := _ }) (v := ?_) rfl (by kernel_rfl) (by kernel_rfl) (by kernel_rfl) (fun _ _ _ h => h) (Or.inl ⟨by rfl, ?_⟩) hS ?_
  rotate_left
  · (intro w' hSw; go_simp; try with_reducible rfl)
  simp only [Act.put, List.setIfInBounds_toArray, List.set_cons_zero, List.set_cons_succ]
  refine wpAnyH_take (i := 4) (oi := { dst := some 27, op := _, type := _, pos := _, after := _, guard := _ }) (v := ?_) rfl (by kernel_rfl) (by kernel_rfl) (by kernel_rfl) (fun _ _ _ h => h) (Or.inl ⟨by rfl, ?_⟩) hS ?_
  rotate_left
  · (intro w' hSw; go_simp; try with_reducible rfl)
  simp only [Act.put, List.setIfInBounds_toArray, List.set_cons_zero, List.set_cons_succ]
  refine wpAnyH_take (i := 6) (oi := { dst := some 29, op := _, type := _, pos := _, after := _, guard := _ }) (v := ?_) rfl (by kernel_rfl) (by kernel_rfl) (by kernel_rfl) (fun _ _ _ h => h) (Or.inl ⟨by rfl, ?_⟩) hS ?_
  rotate_left
  · (intro w' hSw; go_simp; try with_reducible rfl)
  simp only [Act.put, List.setIfInBounds_toArray, List.set_cons_zero, List.set_cons_succ]
  refine wpAnyH_take (i := 7) (oi := { dst := some 30, op := _, type := _, pos := _, after := _, guard := _ }) rfl (by kernel_rfl) (by kernel_rfl) (by kernel_rfl) (fun _ _ _ h => h) (yl_cell 3 _ bq 1 rfl Try.isAgg3 (by rfl) (by rfl) (fun _ h => h.out.cellF (HQ.out.cell 1) (by simpa using hgq))) hS ?_
  simp only [Act.put, List.setIfInBounds_toArray, List.set_cons_zero, List.set_cons_succ]
  refine wpAnyH_take (i := 8) (oi := { dst := some 31, op := _, type := _, pos := _, after := _, guard := _ }) (v := ?_) rfl (by kernel_rfl) (by kernel_rfl) (by kernel_rfl) (fun _ _ _ h => h) (Or.inl ⟨by rfl, ?_⟩) hS ?_
  rotate_left
  · (intro w' hSw; go_simp; try with_reducible rfl)
  simp only [Act.put, List.setIfInBounds_toArray, List.set_cons_zero, List.set_cons_succ]
  refine wpAnyH_ready (rs := [5]) (by kernel_rfl) (by simp) ?_
  refine AllReadyH.cons (o := { dst := some 28, op := _, type := _, pos := _, after := _, guard := _ }) rfl (fun K hK => ?_) AllReadyH.nil
  go_simp
  refine (mod_big q0 n _ (by omega) (by omega)).mono ?_
  rintro r5 w5 ⟨rfl, rfl⟩
  rw [hp]
  refine hK.out _ _ hS (fun hS => ?_)
  clear hK K
  refine wpAnyH_take (i := 9) (oi := { dst := some 32, op := _, type := _, pos := _, after := _, guard := _ }) (v := ?_) rfl (by kernel_rfl) (by kernel_rfl) (by kernel_rfl) (fun _ _ _ h => h) (Or.inl ⟨by rfl, ?_⟩) hS ?_
  rotate_left
  · (intro w' hSw; go_simp; try with_reducible rfl)
  simp only [Act.put, List.setIfInBounds_toArray, List.set_cons_zero, List.set_cons_succ]
  refine wpAnyH_ready (rs := [10]) (by kernel_rfl) (by simp) ?_
  refine AllReadyH.cons (o := { dst := none, op := _, type := _, pos := _, after := _, guard := _ }) rfl (fun K hK => ?_) AllReadyH.nil
  refine step_store_u8 _ _ rfl (by rfl) g p (b.toNat : Int) _ (by rfl) (by rfl) (HY.out.keep (Keeps.refl [] w4).drew (by simp) |>.cell hpb) (HY.out.keep (Keeps.refl [] w4).drew (by simp) |>.free hpl) ?_
  refine hK.out _ _ (hide (hS.out.setCell (p := ⟨g, p, none⟩) (.inl (by simp)) _)) (fun hS => ?_)
  clear hK K
  refine wpAnyH_done (by kernel_rfl) ?_ _
  have HY2 := hide ((HY.out.keep (Keeps.refl [] w4).drew (by simp)).set p b)
  have HB2 := hide ((HB.out.drew).far (p := ⟨g, p, none⟩) hgx (.int .u8 (b.toNat : Int)))
  have HQ2 := hide ((HQ.out.drew).far (p := ⟨g, p, none⟩) hgq (.int .u8 (b.toNat : Int)))
  have HK2 := hide ((HK.out.drew).setCell (p := ⟨g, p, none⟩) (.inr hgl) (.int .u8 (b.toNat : Int)))
  clear HY HB HQ HK hS
  generalize w4.drew.setCell ⟨g, p, none⟩ (.int .u8 (b.toNat : Int)) = w6 at HY2 HB2 HQ2 HK2 ⊢
  clear hp hpz hp0 hpb hb
  obtain ⟨mt, hmt⟩ : ∃ mt : Nat, mt = min l.length 20 := ⟨_, rfl⟩
  have hlc := HLC.out.1
  have hm1 : min (l.length : Int) 20 = (mt : Int) := by omega
  have hm2 : mt ≤ l.length := by omega
  have hm3 : mt ≤ 20 := by omega
  have y1 : (0 : Int) ≤ (mt : Int) := by omega
  have y3 : (mt : Int) ≤ (c : Int) := by omega
  have hxl : (l.take mt).length = mt := by rw [List.length_take]; omega
  have HF := hide (IS.front (Src.keep HS.out HK2.out (by simp)) mt hm2)
  have HZ2 := hide (fun n (hn : n ∈ l.take mt) => HZ.out n (List.mem_of_mem_take hn))
  have HP := hide (intsB_small (l.take mt) (by omega) HZ2.out)
  clear hmt hm2
  go_wp2_with fail
  have HR := hide (rints_any A c (l.take mt) w6 (by rw [hxl]; exact HF.out) (by have := HP.out; omega) (by omega) HZ2.out)
  rw [hxl] at HR
  refine HR.out.mono ?_
  rintro r w7 ⟨rfl, k7⟩
  replace HY2 := hide (HY2.out.keep k7 (by simp))
  replace HB2 := hide (HB2.out.keep k7 (by simp))
  replace HQ2 := hide (HQ2.out.keep k7 (by simp))
  replace HK2 := hide (HK2.out.trans' k7)
  clear k7 HR HF hm1 hm3 y1 y3 hxl HZ2
  generalize intsB (l.take mt) = N1 at HP ⊢
  go_wp2_with (with_reducible refine Halt.append ?_)
  refine Halt.on ?_
  have hO : Own (w7.alloc (.cells #[] 3)) 3 1 (.slice (some ⟨w7.heap.size, 0, none⟩) 0 0) 0 [] := own_of (Bk.new w7 3 #[]) rfl (Nat.le_refl _) (Nat.zero_le _) rfl rfl
  refine wpList_append_src _ rfl _ _ _ rfl 3 i0 _ 1 8 Try.underlying35 HI.out.1 HI.out.2.1 HI.out.2.2.1 HI.out.2.2.2 rfl (by omega) (.slice (some ⟨w7.heap.size, 0, none⟩) 0 0) 0 [] rfl hO (.slice A l.length c) l.length (isv l) rfl (Src.keep HS.out (HK2.out.alloc _) (by simp)) (isv_one l) (by have := HLC.out.2.2; unfold maxLen; omega) (by have := HLC.out.2.2; omega) ?_
  intro v8 w8 hown hgrow hblk
  rw [Nat.zero_add, List.nil_append] at hown
  obtain ⟨hK8, hN8⟩ := step_own (w := w7) ((Keeps.refl [] w7).alloc (.cells #[] 3)) (fun g9 hg9 => by simp [Value.ownBlock] at hg9; omega) hgrow hblk
  have HO8 := hide hown
  have HN8 := hide (And.intro hK8 hN8)
  clear hO hown hgrow hblk hK8 hN8
  go_wp2_with (with_reducible refine Halt.append ?_)
  refine Halt.on ?_
  refine wpList_append_zeros _ rfl _ _ _ _ rfl 3 i0 _ 8 .i64 .i64 Try.underlying35 Try.underlying3 HI.out.1 HI.out.2.1 HI.out.2.2.1 HI.out.2.2.2 rfl rfl v8 l.length (isv l) rfl HO8.out 17 rfl 17 rfl (by omega) (by have := HLC.out.2.2; unfold maxLen; omega) (by have := HLC.out.2.2; omega) ?_
  intro v9 w9 hown hgrow hblk
  obtain ⟨hK9, hN9⟩ := step_own HN8.out.1 HN8.out.2 hgrow hblk
  obtain ⟨g9, c9, cur9, hv9, hle9, _⟩ := Own.head hown (by omega)
  subst hv9
  have hM : IS w9 (.slice (some ⟨g9, 0, none⟩) 17 c9) ((l ++ List.replicate 17 0).take 17) := by
    have h1 : IS w9 (.slice (some ⟨g9, 0, none⟩) (l ++ List.replicate 17 0).length c9) (l ++ List.replicate 17 0) := by
      have h2 := Own.src hown
      rw [show isv l ++ List.replicate 17 (Value.int .i64 0) = isv (l ++ List.replicate 17 0) by simp [isv]] at h2
      rw [show (l ++ List.replicate 17 (0 : Int)).length = l.length + 17 by simp]
      show Src w9 1 _ (l ++ List.replicate 17 (0 : Int)).length _
      rw [show (l ++ List.replicate 17 (0 : Int)).length = l.length + 17 by simp]
      exact h2
    exact IS.front h1 17 (by simp)
  have hMl : ((l ++ List.replicate 17 (0 : Int)).take 17).length = 17 := by rw [List.length_take]; simp
  have hMz : ∀ x ∈ (l ++ List.replicate 17 (0 : Int)).take 17, -9223372036854775808 ≤ x ∧ x ≤ 9223372036854775807 := fun x hx => by
    have h1 := List.mem_of_mem_take hx
    rw [List.mem_append] at h1
    rcases h1 with h1 | h1
    · exact HZ.out x h1
    · have := List.eq_of_mem_replicate h1
      omega
  have y4 : (17 : Int) ≤ (c9 : Int) := by omega
  have HM := hide hM
  have HMZ := hide hMz
  replace HK2 := hide (HK2.out.trans' hK9)
  replace HY2 := hide (HY2.out.keep hK9 (by simp))
  replace HB2 := hide (HB2.out.keep hK9 (by simp))
  replace HQ2 := hide (HQ2.out.keep hK9 (by simp))
  clear hown hgrow hblk hK9 hN9 hle9 hM hMz HN8 HO8 HS HI HLC
  generalize (l ++ List.replicate 17 (0 : Int)).take 17 = M at HM hMl HMZ
  have HP2 := hide (intsB_small M (by omega) HMZ.out)
  go_wp2_with fail
  have HR := hide (rints_any (some ⟨g9, 0, none⟩) c9 M w9 (by rw [hMl]; exact HM.out) (by have := HP2.out; omega) (by omega) HMZ.out)
  rw [hMl] at HR
  refine HR.out.mono ?_
  rintro r w10 ⟨rfl, k10⟩
  replace HY2 := hide (HY2.out.keep k10 (by simp))
  replace HB2 := hide (HB2.out.keep k10 (by simp))
  replace HQ2 := hide (HQ2.out.keep k10 (by simp))
  replace HK2 := hide (HK2.out.trans' k10)
  clear k10 HR HM HMZ hMl y4 HZ
  generalize intsB M = N2 at HP2 ⊢
  have hcv2 := run_bytes_str w10 (some ⟨g, 0, none⟩) n cap (L.set p b) (by rw [List.length_set]; exact HN.out) (by
    have h1 := HY2.out.src cap
    rw [List.length_set, HN.out] at h1
    exact h1)
  rw [bs_set'] at hcv2
  go_wp2_with fail
  have hfl : L.length < 140737488355328 := by have := HLN.out; omega
  have HFL := hide hfl
  clear hfl
  refine (reads_any (L.set p b) w10 (fine_set HHD.out (Nat.le_of_lt HFL.out) p b)).mono ?_
  rintro r w11 ⟨rfl, k11⟩
  replace HB2 := hide (HB2.out.keep k11 (by simp))
  replace HQ2 := hide (HQ2.out.keep k11 (by simp))
  replace HK2 := hide (HK2.out.trans' k11)
  clear k11 hcv2 HY2
  obtain ⟨k, hk⟩ : ∃ k : Nat, q2 % ((n : Int) + 1) = (k : Int) := ⟨(q2 % ((n : Int) + 1)).toNat, by have := Int.emod_nonneg q2 (show (n : Int) + 1 ≠ 0 by omega); omega⟩
  have hkz : (k : Int) ≤ (n : Int) := by have := Int.emod_lt_of_pos q2 (show (0 : Int) < (n : Int) + 1 by omega); omega
  have hk0 : (0 : Int) ≤ (k : Int) := by omega
  have hbs : (bs L).size = n := by rw [bs_size]; exact HN.out
  have v1 : IntKind.i64.wrap ((n : Int) + 1) = (n : Int) + 1 := IntWalk.i64_in _ (by omega)
  have c2 : w11.cell? ⟨bq, 2, none⟩ = some (.int .i64 q2) := HQ2.out.cell 2
  have hkn : k ≤ n := by omega
  have htk := bs_take L k
  go_wp2_with fail
  refine (mod_big q2 ((n : Int) + 1) w11 (by omega) (by omega)).mono ?_
  rintro r w12 ⟨rfl, rfl⟩
  rw [hk]
  clear c2 hk v1
  go_wp2_with fail
  refine (reads_any (L.take k) w11 (fine_take HHD.out (Nat.le_of_lt HFL.out) k)).mono ?_
  rintro r w13 ⟨rfl, k13⟩
  replace HB2 := hide (HB2.out.keep k13 (by simp))
  replace HK2 := hide (HK2.out.trans' k13)
  clear k13 HQ2 htk hkn hk0 hkz
  have hadd := fun W => run_string_add_sum (P := Try.prog) (w := W) (bs L) ⟨#[120]⟩ (by have h9 : (⟨#[120]⟩ : ByteArray).size = 1 := rfl; omega)
  rw [bs_x] at hadd
  go_wp2_with fail
  refine (reads_any (L ++ [120]) w13 (fine_app HHD.out HFL.out 120 (by decide))).mono ?_
  rintro r w14 ⟨rfl, k14⟩
  replace HB2 := hide (HB2.out.keep k14 (by simp))
  replace HK2 := hide (HK2.out.trans' k14)
  clear k14 hadd HHD HFL HLN hbs
  have HSw15 := hide (show ∀ s ∈ [bs N1, ⟨#[116]⟩], s.size ≤ 3000 by
    intro s hs
    simp only [List.mem_cons, List.not_mem_nil, or_false] at hs
    have h1 := HP.out
    have h2 := HP2.out
    rcases hs with rfl | rfl
    · rw [bs_size]; omega
    · show (1 : Nat) ≤ 3000; omega)
  go_wp2_with fail
  refine (rpack_any (some ⟨w14.heap.size, 0, none⟩) 2 [bs N1, ⟨#[116]⟩] _ (Src.built w14 9 #[.string (bs N1), .string ⟨#[116]⟩] 1 2 rfl _ rfl) (by have := pack_few (l := [bs N1, ⟨#[116]⟩]) (by show (2 : Nat) ≤ 4; omega) HSw15.out; omega) (show (2 : Nat) ≤ 1000000000 by omega) (fun s hs => by have := HSw15.out s hs; omega)).mono ?_
  rintro r w15 ⟨rfl, kw15⟩
  replace HB2 := hide ((HB2.out.alloc (.cells #[.string (bs N1), .string ⟨#[116]⟩] 9)).keep kw15 (by simp))
  replace HK2 := hide ((HK2.out.alloc (.cells #[.string (bs N1), .string ⟨#[116]⟩] 9)).trans' kw15)
  clear kw15
  go_wp2_with fail
  refine (reads_any (packB [bs N1, ⟨#[116]⟩]) w15 (fine_pack (l := [bs N1, ⟨#[116]⟩]) (by have := pack_few (l := [bs N1, ⟨#[116]⟩]) (by show (2 : Nat) ≤ 4; omega) HSw15.out; omega) (by show (2 : Nat) ≤ 4; omega) (fun s hs => by have := HSw15.out s hs; omega) (fun a ha => by have := HSw15.out a (List.mem_of_getElem? ha); omega))).mono ?_
  rintro r w16 ⟨rfl, kw16⟩
  replace HB2 := hide (HB2.out.keep kw16 (by simp))
  replace HK2 := hide (HK2.out.trans' kw16)
  clear kw16
  have c17 : w16.cell? ⟨bx, 17, none⟩ = some (.string e.x) := HB2.out.cell 17
  go_wp2_with fail
  refine (rpack_any (some ⟨w16.heap.size, 0, none⟩) 2 [bs N2, e.x] _ (Src.built w16 9 #[.string (bs N2), .string e.x] 1 2 rfl _ rfl) (by have := pack2_le N2 e.x HP2.out (by have := HE.out.x; omega); have := HE.out.x; omega) (show (2 : Nat) ≤ 1000000000 by omega) (fun s hs => by
    simp only [List.mem_cons, List.not_mem_nil, or_false] at hs
    rcases hs with rfl | rfl
    · rw [bs_size]; have := HP2.out; omega
    · have := HE.out.x; omega)).mono ?_
  rintro r w17 ⟨rfl, kw17⟩
  replace HB2 := hide ((HB2.out.alloc (.cells #[.string (bs N2), .string e.x] 9)).keep kw17 (by simp))
  replace HK2 := hide ((HK2.out.alloc (.cells #[.string (bs N2), .string e.x] 9)).trans' kw17)
  clear kw17
  go_wp2_with fail
  refine (reads_any (packB [bs N2, e.x]) w17 (fine_pack (l := [bs N2, e.x]) (by have := pack2_le N2 e.x HP2.out (by have := HE.out.x; omega); have := HE.out.x; omega) (by show (2 : Nat) ≤ 4; omega) (fun s hs => by
    simp only [List.mem_cons, List.not_mem_nil, or_false] at hs
    rcases hs with rfl | rfl
    · rw [bs_size]; have := HP2.out; omega
    · have := HE.out.x; omega) (fun a ha => by
    injection ha with ha
    subst ha
    rw [bs_size]; have := HP2.out; omega))).mono ?_
  rintro r w18 ⟨rfl, kw18⟩
  replace HB2 := hide (HB2.out.keep kw18 (by simp))
  replace HK2 := hide (HK2.out.trans' kw18)
  clear kw18
  clear c17
  have HSw19 := hide (show ∀ s ∈ [bs N2, ⟨#[]⟩, ⟨#[]⟩], s.size ≤ 3000 by
    intro s hs
    simp only [List.mem_cons, List.not_mem_nil, or_false] at hs
    have h1 := HP.out
    have h2 := HP2.out
    rcases hs with rfl | rfl | rfl
    · rw [bs_size]; omega
    · show (0 : Nat) ≤ 3000; omega
    · show (0 : Nat) ≤ 3000; omega)
  go_wp2_with fail
  refine (rpack_any (some ⟨w18.heap.size, 0, none⟩) 3 [bs N2, ⟨#[]⟩, ⟨#[]⟩] _ (Src.built w18 9 #[.string (bs N2), .string ⟨#[]⟩, .string ⟨#[]⟩] 1 3 rfl _ rfl) (by have := pack_few (l := [bs N2, ⟨#[]⟩, ⟨#[]⟩]) (by show (3 : Nat) ≤ 4; omega) HSw19.out; omega) (show (3 : Nat) ≤ 1000000000 by omega) (fun s hs => by have := HSw19.out s hs; omega)).mono ?_
  rintro r w19 ⟨rfl, kw19⟩
  replace HB2 := hide ((HB2.out.alloc (.cells #[.string (bs N2), .string ⟨#[]⟩, .string ⟨#[]⟩] 9)).keep kw19 (by simp))
  replace HK2 := hide ((HK2.out.alloc (.cells #[.string (bs N2), .string ⟨#[]⟩, .string ⟨#[]⟩] 9)).trans' kw19)
  clear kw19
  go_wp2_with fail
  refine (reads_any (packB [bs N2, ⟨#[]⟩, ⟨#[]⟩]) w19 (fine_pack (l := [bs N2, ⟨#[]⟩, ⟨#[]⟩]) (by have := pack_few (l := [bs N2, ⟨#[]⟩, ⟨#[]⟩]) (by show (3 : Nat) ≤ 4; omega) HSw19.out; omega) (by show (3 : Nat) ≤ 4; omega) (fun s hs => by have := HSw19.out s hs; omega) (fun a ha => by have := HSw19.out a (List.mem_of_getElem? ha); omega))).mono ?_
  rintro r w20 ⟨rfl, kw20⟩
  replace HB2 := hide (HB2.out.keep kw20 (by simp))
  replace HK2 := hide (HK2.out.trans' kw20)
  clear kw20
  have HSw21 := hide (show ∀ s ∈ [bs N2], s.size ≤ 3000 by
    intro s hs
    simp only [List.mem_cons, List.not_mem_nil, or_false] at hs
    have h1 := HP.out
    have h2 := HP2.out
    rcases hs with rfl
    · rw [bs_size]; omega)
  go_wp2_with fail
  refine (rpack_any (some ⟨w20.heap.size, 0, none⟩) 1 [bs N2] _ (Src.built w20 9 #[.string (bs N2)] 1 1 rfl _ rfl) (by have := pack_few (l := [bs N2]) (by show (1 : Nat) ≤ 4; omega) HSw21.out; omega) (show (1 : Nat) ≤ 1000000000 by omega) (fun s hs => by have := HSw21.out s hs; omega)).mono ?_
  rintro r w21 ⟨rfl, kw21⟩
  replace HB2 := hide ((HB2.out.alloc (.cells #[.string (bs N2)] 9)).keep kw21 (by simp))
  replace HK2 := hide ((HK2.out.alloc (.cells #[.string (bs N2)] 9)).trans' kw21)
  clear kw21
  go_wp2_with fail
  refine (reads_any (packB [bs N2]) w21 (fine_pack (l := [bs N2]) (by have := pack_few (l := [bs N2]) (by show (1 : Nat) ≤ 4; omega) HSw21.out; omega) (by show (1 : Nat) ≤ 4; omega) (fun s hs => by have := HSw21.out s hs; omega) (fun a ha => by have := HSw21.out a (List.mem_of_getElem? ha); omega))).mono ?_
  rintro r w22 ⟨rfl, kw22⟩
  replace HB2 := hide (HB2.out.keep kw22 (by simp))
  replace HK2 := hide (HK2.out.trans' kw22)
  clear kw22
  have hadd := fun W => run_string_add_sum (P := Try.prog) (w := W) (bs N2) ⟨#[120]⟩ (by rw [bs_size]; have h9 : (⟨#[120]⟩ : ByteArray).size = 1 := rfl; have := HP2.out; omega)
  rw [bs_x] at hadd
  have hbs : (bs N2).size = N2.length := bs_size N2
  have hfl : N2.length ≤ 2000 := HP2.out
  have HSw23 := hide (show ∀ s ∈ [bs (N2 ++ [120]), ⟨#[]⟩], s.size ≤ 3000 by
    intro s hs
    simp only [List.mem_cons, List.not_mem_nil, or_false] at hs
    have h1 := HP.out
    have h2 := HP2.out
    rcases hs with rfl | rfl
    · rw [bs_size, List.length_append, List.length_singleton]; omega
    · show (0 : Nat) ≤ 3000; omega)
  go_wp2_with fail
  refine (rpack_any (some ⟨w22.heap.size, 0, none⟩) 2 [bs (N2 ++ [120]), ⟨#[]⟩] _ (Src.built w22 9 #[.string (bs (N2 ++ [120])), .string ⟨#[]⟩] 1 2 rfl _ rfl) (by have := pack_few (l := [bs (N2 ++ [120]), ⟨#[]⟩]) (by show (2 : Nat) ≤ 4; omega) HSw23.out; omega) (show (2 : Nat) ≤ 1000000000 by omega) (fun s hs => by have := HSw23.out s hs; omega)).mono ?_
  rintro r w23 ⟨rfl, kw23⟩
  replace HB2 := hide ((HB2.out.alloc (.cells #[.string (bs (N2 ++ [120])), .string ⟨#[]⟩] 9)).keep kw23 (by simp))
  replace HK2 := hide ((HK2.out.alloc (.cells #[.string (bs (N2 ++ [120])), .string ⟨#[]⟩] 9)).trans' kw23)
  clear kw23
  go_wp2_with fail
  refine (reads_any (packB [bs (N2 ++ [120]), ⟨#[]⟩]) w23 (fine_pack (l := [bs (N2 ++ [120]), ⟨#[]⟩]) (by have := pack_few (l := [bs (N2 ++ [120]), ⟨#[]⟩]) (by show (2 : Nat) ≤ 4; omega) HSw23.out; omega) (by show (2 : Nat) ≤ 4; omega) (fun s hs => by have := HSw23.out s hs; omega) (fun a ha => by have := HSw23.out a (List.mem_of_getElem? ha); omega))).mono ?_
  rintro r w24 ⟨rfl, kw24⟩
  replace HB2 := hide (HB2.out.keep kw24 (by simp))
  replace HK2 := hide (HK2.out.trans' kw24)
  clear kw24
  go_wp2
  go_ret
  exact ⟨rfl, HK2.out⟩
end
/-! Openers for JournalReads: three numbers; a bound on the number of integers. -/
section
open Go.ChangeShapes Go.WideShapes Go.RowKit Go.Deep
variable {H : Type} {enc : TypeId × Value → H} {w : World} {base b0 : Nat} {spare : Nat → Bool} {held : Bool} {r : Reach} {v : Value} {d : DataW H} {p : List MemPlace}
theorem cells_three {cs : List Value} {v u x : Value} (hl : cs.length = 3) (h : cs[0]? = some v) (h' : cs[1]? = some u) (h'' : cs[2]? = some x) : cs = [v, u, x] := by
  match cs, hl with
  | [a, b, c], _ => simp at h h' h''; simp [h, h', h'']
set_option maxRecDepth 100000 in
theorem open_threeI (hok : Value.okWide Try.prog w r b0 34 v) (h : DataW.Trod enc Try.prog w base spare held 34 v d p) (hz : ∀ m ∈ d.weights Try.prog 34, m ≤ reachBytes) : ∃ x y z, v = .agg #[.int .i64 x, .int .i64 y, .int .i64 z] := by
  obtain ⟨cs, rfl, hl, hy⟩ := open_agg 2 (.inr ⟨_, _, Try.underlying34⟩) plain34 hok h hz
  rw [cells34] at hl
  rw [flat34] at hy
  obtain ⟨u0, e0, f0⟩ := hy (0, 3) (by simp)
  obtain ⟨u1, e1, f1⟩ := hy (1, 3) (by simp)
  obtain ⟨u2, e2, f2⟩ := hy (2, 3) (by simp)
  obtain ⟨x, rfl, w0⟩ := f0.int Try.underlying3
  obtain ⟨y, rfl, w1⟩ := f1.int Try.underlying3
  obtain ⟨z, rfl, w2⟩ := f2.int Try.underlying3
  rw [cells_three hl e0 e1 e2]
  exact ⟨x, y, z, rfl⟩
set_option maxRecDepth 100000 in
theorem open_intsF (hok : Value.okWide Try.prog w r b0 35 v) (h : DataW.Trod enc Try.prog w base spare held 35 v d p) (hz : ∀ m ∈ d.weights Try.prog 35, m ≤ reachBytes) : ∃ A l c, v = .slice A l.length c ∧ CameI w A c l ∧ l.length * 8 ≤ 140737488351232 := by
  obtain ⟨A, l, c, rfl, hc⟩ := open_ints hok h hz
  obtain ⟨A', len, cap, css, hv, hlen, hsrc, hb, hcs⟩ := open_rows 1 Try.underlying35 plain3 hok h hz
  injection hv with _ hv _
  rw [bytes3] at hb
  exact ⟨A, l, c, rfl, hc, by rw [hv]; simpa [reachBytes] using hb⟩
end
end Go.Proofs.Ytcfglfnncpcfoaa

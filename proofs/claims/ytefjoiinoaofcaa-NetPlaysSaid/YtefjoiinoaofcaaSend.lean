/- The contract of Send. -/
import Derived.Test.YtefjoiinoaofcaaSmall
namespace Go.Proofs.Ytefjoiinoaofcaa
open Go.RowKit

def sentN (N : NS) (a b n : Int) (x : ByteArray) (t : Int) (k : Nat) : NS := { N with S := addC N.S a b n x t N.sent k, sent := N.sent + 1 }
theorem sentN_ok {N : NS} (h : N.ok) (hf : N.sent < 100000) (a b n : Int) (x : ByteArray) (t : Int) (k : Nat) (hk : k ≤ 8) : (sentN N a b n x t k).ok := by
  refine ⟨addC_sorted h.sorted h.before _, fun p hp => ?_, ?_, by simp [sentN]; omega, h.scr⟩
  · simp only [sentN] at hp ⊢
    rw [mem_addC] at hp
    rcases hp with hp | ⟨j, _, rfl⟩
    · have := h.before p hp; omega
    · simp; omega
  · simp only [sentN, addC_length]
    have := h.many; omega
theorem sentN_new {N : NS} (h : N.ok) (a b n : Int) (x : ByteArray) (t : Int) (k : Nat) : New ⟨a, b, n, x, t + k, N.sent⟩ (sentN N a b n x t k).S := addC_new h.before k
theorem sentN_succ (N : NS) (a b n : Int) (x : ByteArray) (t : Int) (k : Nat) : sentN N a b n x t (k + 1) = { sentN N a b n x t k with S := ins ⟨a, b, n, x, t + k, N.sent⟩ (sentN N a b n x t k).S } := rfl

/-- The number of sent messages goes up. -/
theorem NetAt.count {w w2 : World} {g : Nat} {F : List Nat} {N : NS} {vs vw : Value} {L : List Par} (h : NetAt w g F N vs vw L) (hk : Keeps [] w w2) (hf : N.sent < 100000) :
    IsNet (w2.setCell ⟨g, 3, none⟩ (.int .i64 (N.sent + 1))) g F { N with sent := N.sent + 1 } ∧ Keeps F w (w2.setCell ⟨g, 3, none⟩ (.int .i64 (N.sent + 1))) := by
  have h2 := h.keep hk (apart_nil F)
  have k3 : Keeps [g] w2 (w2.setCell ⟨g, 3, none⟩ (.int .i64 (N.sent + 1))) := (Keeps.refl _ _).setCell (.inl (by simp)) _
  have n1 : vs.ownBlock ≠ some g := h.scr.bk_ne h.blk (by decide)
  have n2 : vw.ownBlock ≠ some g := h.wai.bk_ne h.blk (by decide)
  refine ⟨⟨vs, vw, L, ?_, h.gin, h2.scr.keep k3 (fun b hb hm => ?_), h2.wai.keep k3 (fun b hb hm => ?_), h.sin, h.win, h2.all.keep k3, h.bag, ?_⟩, (hk.nil.setCell (.inl h.gin) _)⟩
  · have := h2.blk.set 3 (.int .i64 (N.sent + 1))
    simpa using this
  · rw [List.mem_singleton] at hm; subst hm; exact n1 hb
  · rw [List.mem_singleton] at hm; subst hm; exact n2 hb
  · have o := h.ok
    exact ⟨o.sorted, fun p hp => by have := o.before p hp; simp; omega, by have := o.many; simp; omega, by simp; omega, o.scr⟩

def msgV (a b n : Int) (x : ByteArray) : Value := .agg #[.int .i64 a, .int .i64 b, .int .i64 n, .string x]

set_option maxRecDepth 10000 in
set_option maxHeartbeats 1600000 in
theorem send_drop (g : Nat) (F : List Nat) (N : NS) (now a b n : Int) (x : ByteArray) (w : World) (h : IsNet w g F N) (hf : N.sent < 100000) (hdr : N.drops b = true) :
    Calls Try.prog 14 #[.pointer (some ⟨g, 0, none⟩), .int .i64 now, msgV a b n x] w fun e w' => e = .returned (.tuple #[]) ∧ IsNet w' g F { N with sent := N.sent + 1 } ∧ Keeps F w w' := by
  obtain ⟨vs, vw, L, hd⟩ := h
  have hg := hd.blk.lt
  have hcase : N.tr.lost = true ∨ (N.tr.lost = false ∧ b < 0) ∨ (N.tr.lost = false ∧ ¬ b < 0 ∧ N.nodes ≤ b) := by
    unfold NS.drops at hdr
    cases hl : N.tr.lost
    · rw [hl] at hdr; simp at hdr
      by_cases h0 : b < 0
      · exact .inr (.inl ⟨rfl, h0⟩)
      · exact .inr (.inr ⟨rfl, h0, by omega⟩)
    · exact .inl rfl
  have kbox := (Keeps.refl [] w).alloc (.cells #[.int .i64 a, .int .i64 b, .int .i64 n, .string x] 31)
  have ht := trouble_any g F N (w.alloc (.cells #[.int .i64 a, .int .i64 b, .int .i64 n, .string x] 31)) (IsNet.keep0 ⟨vs, vw, L, hd⟩ kbox)
  have bmsg : Bk (w.alloc (.cells #[.int .i64 a, .int .i64 b, .int .i64 n, .string x] 31)) w.heap.size 31 #[.int .i64 a, .int .i64 b, .int .i64 n, .string x] := Bk.new _ _ _
  generalize htr : N.tr = t at *
  have HT := hide ht
  have HD := hide hd
  have HC := hide hcase
  have HB := hide bmsg
  have HKB := hide kbox
  clear ht hd hcase hdr bmsg kbox htr
  unfold msgV
  go_enter Try.func14, Try.ntmps14
  go_wp2_with fail
  refine HT.out.mono ?_
  rintro e w1 ⟨rfl, hk1⟩
  have hb1 := HB.out.keep hk1 (by simp)
  have hk01 := HKB.out.trans' hk1
  have hd1 := HD.out.keep hk01 (apart_nil F)
  have hs1 := hk01.size
  have c0 := hd1.blk.cell 0
  have c3 := hd1.blk.cell 3
  have f3 := hd1.blk.free 3
  have m1 := hb1.cell 1
  simp at c0 c3 m1
  have hz : w.heap.size < w1.heap.size := hb1.lt
  have hgl : g < w1.heap.size := by omega
  have hne : g ≠ w.heap.size := by omega
  have HF := hide (HD.out.count hk01 hf)
  clear hb1 hd1 HT HB HKB hk1 hk01
  unfold Tr.cells
  rcases HC.out with hl | ⟨hl, h0⟩ | ⟨hl, h0, h1⟩
  · rw [hl]
    clear HC hl
    go_wp2_with fail
    go_quiet (fail)
    go_wp2_with fail
    exact bodyPost_ret (v := .tuple #[]) (by simp [results, Try.results14, go_sem]) rfl ⟨rfl, HF.out.1.keep0 (((Keeps.refl [] _).alloc _).drewN nq), (HF.out.2.alloc _).drewN nq⟩
  · rw [hl]
    have d0 : decide (b < 0) = true := by simpa using h0
    clear HC hl
    go_wp2_with fail
    go_quiet (fail)
    go_wp2_with fail
    exact bodyPost_ret (v := .tuple #[]) (by simp [results, Try.results14, go_sem]) rfl ⟨rfl, HF.out.1.keep0 (((Keeps.refl [] _).alloc _).drewN nq), (HF.out.2.alloc _).drewN nq⟩
  · rw [hl]
    have d0 : decide (b < 0) = false := by simpa using h0
    have d1 : decide (N.nodes ≤ b) = true := by simpa using h1
    clear HC hl
    go_wp2_with fail
    go_quiet (fail)
    go_wp2_with fail
    exact bodyPost_ret (v := .tuple #[]) (by simp [results, Try.results14, go_sem]) rfl ⟨rfl, HF.out.1.keep0 (((Keeps.refl [] _).alloc _).drewN nq), (HF.out.2.alloc _).drewN nq⟩

set_option maxRecDepth 10000 in
set_option maxHeartbeats 1600000 in
theorem send_keep (g : Nat) (F : List Nat) (N : NS) (now a b n : Int) (x : ByteArray) (w : World) (h : IsNet w g F N) (hf : N.sent < 100000) (hdr : N.drops b = false) (hn1 : -1000000000000000000 ≤ now) (hn2 : now ≤ 1000000000000000000) (hdl : N.tr.delay ≤ 1000000000000000000) :
    Calls Try.prog 14 #[.pointer (some ⟨g, 0, none⟩), .int .i64 now, msgV a b n x] w fun e w' => e = .returned (.tuple #[]) ∧ ∃ F', IsNet w' g F' (sentN N a b n x (now + max N.tr.delay 0) (copiesOf N.tr)) ∧ Adds w F F' ∧ Keeps F w w' := by
  obtain ⟨vs, vw, L, hd⟩ := h
  have hg := hd.blk.lt
  obtain ⟨hl, h0, h1⟩ : N.tr.lost = false ∧ ¬ b < 0 ∧ ¬ N.nodes ≤ b := by
    unfold NS.drops at hdr
    cases hl : N.tr.lost
    · rw [hl] at hdr; simp at hdr
      exact ⟨rfl, by omega, by omega⟩
    · rw [hl] at hdr; simp at hdr
  have hN : ∀ k : Nat, sentN N a b n x (now + max N.tr.delay 0) k = sentN N a b n x (now + max N.tr.delay 0) k := fun _ => rfl
  have kbox := (Keeps.refl [] w).alloc (.cells #[.int .i64 a, .int .i64 b, .int .i64 n, .string x] 31)
  have ht := trouble_any g F N (w.alloc (.cells #[.int .i64 a, .int .i64 b, .int .i64 n, .string x] 31)) (IsNet.keep0 ⟨vs, vw, L, hd⟩ kbox)
  have bmsg : Bk (w.alloc (.cells #[.int .i64 a, .int .i64 b, .int .i64 n, .string x] 31)) w.heap.size 31 #[.int .i64 a, .int .i64 b, .int .i64 n, .string x] := Bk.new _ _ _
  generalize htr : N.tr = t at *
  have HT := hide ht
  have HD := hide hd
  have HB := hide bmsg
  have HKB := hide kbox
  clear ht hd hdr bmsg kbox hN
  unfold msgV
  go_enter Try.func14, Try.ntmps14
  go_wp2_with fail
  refine HT.out.mono ?_
  rintro e w1 ⟨rfl, hk1⟩
  have hb1 := HB.out.keep hk1 (by simp)
  have hk01 := HKB.out.trans' hk1
  have hd1 := HD.out.keep hk01 (apart_nil F)
  have hs1 := hk01.size
  have c0 := hd1.blk.cell 0
  have c3 := hd1.blk.cell 3
  have f3 := hd1.blk.free 3
  have m1 := hb1.cell 1
  simp at c0 c3 m1
  have hz : w.heap.size < w1.heap.size := hb1.lt
  have hgl : g < w1.heap.size := by omega
  have hne : g ≠ w.heap.size := by omega
  have HF := hide (HD.out.count hk01 hf)
  have HB1 := hide hb1
  clear hb1 hd1 HT HB HKB hk1 hk01
  unfold Tr.cells
  rw [hl]
  have d0 : decide (b < 0) = false := by simpa using h0
  have d1 : decide (N.nodes ≤ b) = false := by simpa using h1
  obtain ⟨d, hd0⟩ : ∃ d : Int, (if t.delay < 0 then 0 else t.delay) = d := ⟨_, rfl⟩
  have hdv : d = max t.delay 0 := by rw [← hd0]; split <;> omega
  obtain ⟨m, hm0⟩ : ∃ m : Int, (if t.copies < 1 then 1 else t.copies) = m := ⟨_, rfl⟩
  obtain ⟨cc, hcc⟩ : ∃ cc : Nat, (if 8 < m then 8 else m) = (cc : Int) := ⟨copiesOf t, by unfold copiesOf; split at hm0 <;> split <;> omega⟩
  have hcv : cc = copiesOf t := by unfold copiesOf; split at hm0 <;> split at hcc <;> omega
  have HDV := hide hdv
  have HCV := hide hcv
  have hc8 : cc ≤ 8 := by rw [hcv]; exact (copiesOf_le t).1
  have hd1 : 0 ≤ d := by omega
  have hd2 : d ≤ 1000000000000000000 := by omega
  clear hl hdv hcv htr hdl
  go_wp2_with fail
  go_quiet (fail)
  go_wp2_with fail
  have hst : IsNet (((w1.setCell ⟨g, 3, none⟩ (.int .i64 (N.sent + 1))).alloc (.cells #[.bool false, .int .i64 t.copies, .int .i64 t.delay] 42)).drewN nq) g F (sentN N a b n x (now + d) 0) ∧
      Keeps F w (((w1.setCell ⟨g, 3, none⟩ (.int .i64 (N.sent + 1))).alloc (.cells #[.bool false, .int .i64 t.copies, .int .i64 t.delay] 42)).drewN nq) ∧
      Bk (((w1.setCell ⟨g, 3, none⟩ (.int .i64 (N.sent + 1))).alloc (.cells #[.bool false, .int .i64 t.copies, .int .i64 t.delay] 42)).drewN nq) w.heap.size 31 #[.int .i64 a, .int .i64 b, .int .i64 n, .string x] ∧
      Bk (((w1.setCell ⟨g, 3, none⟩ (.int .i64 (N.sent + 1))).alloc (.cells #[.bool false, .int .i64 t.copies, .int .i64 t.delay] 42)).drewN nq) w1.heap.size 42 #[.bool false, .int .i64 t.copies, .int .i64 t.delay] := by
    refine ⟨HF.out.1.keep0 (((Keeps.refl [] _).alloc _).drewN nq), (HF.out.2.alloc _).drewN nq, ?_, ?_⟩
    · exact ((HB1.out.far (p := ⟨g, 3, none⟩) (by simp; omega) _).alloc _)
    · have h1 : Bk ((w1.setCell ⟨g, 3, none⟩ (.int .i64 (N.sent + 1))).alloc (.cells #[.bool false, .int .i64 t.copies, .int .i64 t.delay] 42)) w1.heap.size 42 #[.bool false, .int .i64 t.copies, .int .i64 t.delay] := by
        have := Bk.new (w1.setCell ⟨g, 3, none⟩ (.int .i64 (N.sent + 1))) 42 #[.bool false, .int .i64 t.copies, .int .i64 t.delay]
        simpa using this
      exact h1
  have hall := HD.out.all
  have bm0 : w.heap.size ∉ F := fun hm => Nat.lt_irrefl _ (hall _ hm)
  have bt0 : w1.heap.size ∉ F := fun hm => by have := hall _ hm; omega
  have hokN := HD.out.ok
  have HST := hide hst
  have HOK := hide hokN
  clear hst hall hokN HF HB1 HD c0 c3 f3 m1 hz hgl hne hs1 hg hm0 hcc
  have hd0' : (if t.delay < 0 then (0 : Int) else t.delay) = d := hd0
  generalize ((w1.setCell ⟨g, 3, none⟩ (.int .i64 (N.sent + 1))).alloc (.cells #[.bool false, .int .i64 t.copies, .int .i64 t.delay] 42)).drewN nq = W at HST ⊢
  generalize w.heap.size = bm at bm0 HST ⊢
  generalize w1.heap.size = bt at bt0 HST ⊢
  go_loopw [44] (fun iv wr => ∃ (k : Nat) (F' : List Nat), iv = .int .i64 k ∧ k ≤ cc ∧ Hid (IsNet wr g F' (sentN N a b n x (now + d) k) ∧ Adds W F F' ∧ Keeps F W wr)) (fun iv _ => cc - (intOf iv).toNat)
  case atStart => exact ⟨0, F, rfl, Nat.zero_le _, hide ⟨HST.out.1, Adds.refl _ _, Keeps.refl _ _⟩⟩
  case round =>
    obtain ⟨k, F', rfl, hk, HR⟩ := hrel
    by_cases hlt : k < cc
    · have hbm := HST.out.2.2.1.keep HR.out.2.2 bm0
      have hbt := HST.out.2.2.2.keep HR.out.2.2 bt0
      have q0 := hbm.cell 0
      have q1 := hbm.cell 1
      have q2 := hbm.cell 2
      have q3 := hbm.cell 3
      have q4 := hbt.cell 2
      simp at q0 q1 q2 q3 q4
      have hp := hpush_any g F' (sentN N a b n x (now + d) k) ⟨a, b, n, x, now + d + k, N.sent⟩ wr.drew (HR.out.1.keep0 (Keeps.refl [] wr).drew) (sentN_new HOK.out a b n x (now + d) k) (by rw [← sentN_succ]; exact sentN_ok HOK.out hf a b n x (now + d) (k + 1) (by omega))
      unfold Par.cells at hp
      have HP := hide hp
      have bmF : bm ∉ F' := fun hm => by
        rcases HR.out.2.1 bm hm with h | h
        · exact bm0 h
        · exact absurd HST.out.2.2.1.lt (Nat.not_lt.2 h)
      have btF : bt ∉ F' := fun hm => by
        rcases HR.out.2.1 bt hm with h | h
        · exact bt0 h
        · exact absurd HST.out.2.2.2.lt (Nat.not_lt.2 h)
      clear hp hbm hbt
      have v1 : IntKind.i64.wrap (now + d) = now + d := IntWalk.i64_in _ (by omega)
      have v2 : IntKind.i64.wrap (now + d + (k : Int)) = now + d + k := IntWalk.i64_in _ (by omega)
      go_wp2_with fail
      go_region_held3 (fun w' => w'.cell? ⟨bm, 0, none⟩ = some (.int .i64 a) ∧ w'.cell? ⟨bm, 1, none⟩ = some (.int .i64 b) ∧ w'.cell? ⟨bm, 2, none⟩ = some (.int .i64 n) ∧ w'.cell? ⟨bm, 3, none⟩ = some (.string x) ∧ w'.cell? ⟨bt, 2, none⟩ = some (.int .i64 t.delay))
        (first
          | go_keep
          | (go_split_ands; exact ⟨hk2.cellF (by assumption) bmF, hk2.cellF (by assumption) bmF, hk2.cellF (by assumption) bmF, hk2.cellF (by assumption) bmF, hk2.cellF (by assumption) btF⟩)
          | fail)
        (first
          | (go_at_call 23; refine (queue_any g _).mono ?_; rintro e w2 ⟨rfl, rfl⟩)
          | (go_at_call 22; refine HP.out.mono ?_; rintro e w2 ⟨rfl, F2, hn2', ha2, hk2⟩))
      all_goals
        have HN2 := hide hn2'
        have HA2 := hide ha2
        have HK2 := hide hk2
        clear hn2' ha2 hk2 HP v1 v2 q0 q1 q2 q3 q4
        go_wp2_with fail
        go_roundw
        case rel =>
          refine ⟨k + 1, F2, by go_num, by omega, hide ⟨by rw [sentN_succ]; exact HN2.out, ?_, ?_⟩⟩
          · exact HR.out.2.1.trans HA2.out (HR.out.2.2.drew).size
          · exact (HR.out.2.2.drew).trans HK2.out HR.out.2.1
        case measure =>
          simp [intOf]; omega
    · go_wp2_with fail
      go_end0
      have hkc : k = cc := by omega
      subst hkc
      refine ⟨rfl, F', ?_, (Adds.refl w F).trans HR.out.2.1 HST.out.2.1.size, HST.out.2.1.trans' HR.out.2.2⟩
      rw [← HCV.out, ← HDV.out]
      exact HR.out.1
end Go.Proofs.Ytefjoiinoaofcaa

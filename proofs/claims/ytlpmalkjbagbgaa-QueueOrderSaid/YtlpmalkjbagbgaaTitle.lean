/- The title of a record: For's function, the reference's Title. -/
import Derived.Test.YtlpmalkjbagbgaaIds
namespace Go.Proofs.Ytlpmalkjbagbgaa
open Go.RowKit Go.Shelf
structure Sm where
  rs : Int
  rn : Int
  ts : Int
  tn : Int
deriving DecidableEq, Inhabited
def sc (s : Sm) : List Value := [.int .i64 s.rs, .int .i64 s.rn, .int .i64 s.ts, .int .i64 s.tn]
abbrev svl (s : Sm) : Value := .agg #[.int .i64 s.rs, .int .i64 s.rn, .int .i64 s.ts, .int .i64 s.tn]
def scs (T : List Sm) : List Value := T.flatMap sc
theorem scs_drop : ∀ (L : List Sm) (m : Nat), (scs L).drop (m * 4) = scs (L.drop m)
  | [], m => by simp [scs]
  | a :: t, 0 => by simp [scs]
  | a :: t, m + 1 => by
    have := scs_drop t m
    simp only [scs, List.flatMap_cons, List.drop_succ_cons] at this ⊢
    have hl : (sc a).length = 4 := rfl
    rw [List.drop_append, hl, show (m + 1) * 4 - 4 = m * 4 by omega, this, List.drop_eq_nil_of_le (by simp [hl]; omega), List.nil_append]
theorem scs_at (L : List Sm) (k : Nat) (hk : k < L.length) (i : Nat) (v : Value) (hi : (sc L[k])[i]? = some v) : (scs L)[k * 4 + i]? = some v := by
  have h1 : (scs L).drop (k * 4) = sc L[k] ++ scs (L.drop (k + 1)) := by
    rw [scs_drop, List.drop_eq_getElem_cons hk]
    rfl
  rw [← List.getElem?_drop, h1, List.getElem?_append_left (List.getElem?_eq_some_iff.1 hi).1]
  exact hi
abbrev TS (w : World) (v : Value) (T : List Sm) : Prop := Src w 4 v T.length (scs T)
theorem sm_cells {w : World} {b o : Nat} {L : List Sm} (hcell : ∀ j u, (scs L)[j]? = some u → w.cell? ⟨b, o + j, none⟩ = some u) (k : Nat) (hk : k < L.length) :
    w.cell? ⟨b, o + k * 4, none⟩ = some (.int .i64 L[k].rs) ∧ w.cell? ⟨b, o + k * 4 + 1, none⟩ = some (.int .i64 L[k].rn) ∧ w.cell? ⟨b, o + k * 4 + 2, none⟩ = some (.int .i64 L[k].ts) ∧ w.cell? ⟨b, o + k * 4 + 3, none⟩ = some (.int .i64 L[k].tn) := by
  have h : ∀ i v, (sc L[k])[i]? = some v → w.cell? ⟨b, o + k * 4 + i, none⟩ = some v := fun i v hi => by
    have := hcell _ _ (scs_at L k hk i v hi)
    rw [← Nat.add_assoc] at this
    exact this
  exact ⟨h 0 _ rfl, h 1 _ rfl, h 2 _ rfl, h 3 _ rfl⟩
def isRec (s n : Int) (x : Sm) : Bool := decide (x.rs = s ∧ x.rn = n)
/-- The title of a record. -/
def titleOf (s n : Int) : List Sm → Int × Int
  | [] => (s, n)
  | x :: t => if isRec s n x then (x.ts, x.tn) else titleOf s n t
def firstS (p : Sm → Bool) (k : Nat) : List Sm → Int
  | [] => -1
  | a :: t => if p a then k else firstS p (k + 1) t
theorem title_first (s n : Int) : ∀ (T : List Sm) (k : Nat), (firstS (isRec s n) k T = -1 ∧ titleOf s n T = (s, n)) ∨ ∃ m, ∃ h : m < T.length, firstS (isRec s n) k T = ((k + m : Nat) : Int) ∧ titleOf s n T = (T[m].ts, T[m].tn)
  | [], k => .inl ⟨rfl, rfl⟩
  | a :: t, k => by
    unfold firstS titleOf
    by_cases hb : isRec s n a = true
    · exact .inr ⟨0, by simp, by simp [hb], by simp [hb]⟩
    · rcases title_first s n t (k + 1) with ⟨h1, h2⟩ | ⟨m, h0, h1, h2⟩
      · exact .inl ⟨by simp [hb, h1], by simp [hb, h2]⟩
      · exact .inr ⟨m + 1, by simpa using h0, by simp [hb, h1]; omega, by simp [hb, h2]⟩
/-- A predicate over titles, in every world that keeps w. -/
def PredS (g : Nat) (lb : Array Value) (p : Sm → Bool) (w : World) : Prop :=
  (∀ args w, (callFunc g args).run Try.prog w = .ok (.enter g args) w) ∧ ∀ (W : World) (x : Sm), Keeps [] w W → Calls Try.prog g (#[svl x] ++ lb) W fun e w' => e = .returned (.bool (p x)) ∧ Keeps [] W w'
theorem Try.guard24 : Try.prog.eqGuardType Try.prog.depth 24 = false := by kernel_rfl
theorem isRec_pred (s n : Int) (b : Nat) (w : World) (h0 : w.cell? ⟨b, 0, none⟩ = some (.int .i64 s)) (h1 : w.cell? ⟨b, 1, none⟩ = some (.int .i64 n)) : PredS 34 #[.pointer (some ⟨b, 0, none⟩)] (isRec s n) w :=
  ⟨enters_of Try.func34 (by kernel_rfl) rfl, fun W x hb => by
    have hc0 := hb.cell h0
    have hc1 := hb.cell h1
    have hbz : b < W.heap.size := World.block_lt_of_cell? W _ hc0
    have hne : b ≠ W.heap.size := by omega
    have hg := Try.guard24
    have hE : ∀ w, (Op.equalIn 10000 24 (.agg #[.int .i64 x.rs, .int .i64 x.rn]) (.agg #[.int .i64 s, .int .i64 n])).run Try.prog w = .ok (isRec s n x) w := fun w => eq24 9998 _ _ _ _ w
    show Calls Try.prog 34 #[.agg #[.int .i64 x.rs, .int .i64 x.rn, .int .i64 x.ts, .int .i64 x.tn], .pointer (some ⟨b, 0, none⟩)] W _
    go_enter Try.func34, Try.ntmps34
    go_wp2
    go_ret
    exact ⟨rfl, (Keeps.refl [] W).alloc _⟩⟩
set_option maxHeartbeats 1000000 in
theorem index_sm (g : Nat) (lb : Array Value) (p : Sm → Bool) (A : Option Addr) (c : Nat) (L : List Sm) (w : World) (hL : L.length ≤ 64) (hs : TS w (.slice A L.length c) L) (hp : PredS g lb p w) :
    Calls Try.prog 33 #[.slice A L.length c, .func (.func g) #[] lb] w fun e w' => e = .returned (.int .i64 (firstS p 0 L)) ∧ Keeps [] w w' := by
  obtain ⟨eg, hp⟩ := hp
  go_enter Try.func33, Try.ntmps33
  go_wp2
  go_loopw [5, 8] (fun _ s8 wr => ∃ k : Nat, k ≤ L.length ∧ s8 = .int .i64 k ∧ Hid (Keeps [] w wr) ∧ Hid (firstS p 0 L = firstS p k (L.drop k))) (fun _ s8 _ => L.length - (intOf s8).toNat)
  case atStart => exact ⟨0, Nat.zero_le _, rfl, hide (Keeps.refl _ _), rfl⟩
  case round =>
    obtain ⟨k, hk, rfl, HK, HD⟩ := hrel
    by_cases hlt : k < L.length
    · have hltz : (k : Int) < (L.length : Int) := by omega
      have hk0 : (0 : Int) ≤ (k : Int) := by omega
      obtain ⟨b, o, rfl, hcell⟩ := (Src.keep hs HK.out (by simp)).headN (by omega) (by omega)
      obtain ⟨c0, c1, c2, c3⟩ := sm_cells hcell k hlt
      have hcall := hp wr L[k] HK.out
      have HR := hide (show firstS p k (L.drop k) = if p L[k] then (k : Int) else firstS p (k + 1) (L.drop (k + 1)) by rw [List.drop_eq_getElem_cons hlt]; rfl)
      clear hcell hs hp
      generalize L[k] = y at c0 c1 c2 c3 hcall HR
      cases hq : p y with
      | true =>
        rw [hq] at hcall
        go_wp2_with (go_at_fn g; refine hcall.mono ?_; rintro e w' ⟨rfl, hb'⟩)
        go_ret
        refine ⟨?_, HK.out.trans' hb'⟩
        rw [HD.out, HR.out, hq]
        rfl
      | false =>
        rw [hq] at hcall
        go_wp2_with (go_at_fn g; refine hcall.mono ?_; rintro e w' ⟨rfl, hb'⟩)
        go_roundw
        case measure => simp [intOf]; omega
        case rel =>
          refine ⟨k + 1, by omega, by go_num, hide (HK.out.trans' hb'), ?_⟩
          show firstS p 0 L = _
          rw [HD.out, HR.out, hq]
          rfl
    · have hltz : ¬ (k : Int) < (L.length : Int) := by omega
      obtain rfl : k = L.length := by omega
      go_wp2
      go_ret
      refine ⟨?_, HK.out⟩
      rw [HD.out, List.drop_length]
      rfl
set_option maxHeartbeats 1000000 in
theorem of_any (s n : Int) (b : Nat) (A : Option Addr) (c : Nat) (T : List Sm) (w : World) (hT : T.length ≤ 64) (hb : w.cell? ⟨b, 0, none⟩ = some (.slice A T.length c)) (hs : TS w (.slice A T.length c) T) :
    Calls Try.prog 32 #[.agg #[.int .i64 s, .int .i64 n], .pointer (some ⟨b, 0, none⟩)] w fun e w' => e = .returned (.agg #[.int .i64 (titleOf s n T).1, .int .i64 (titleOf s n T).2]) ∧ Keeps [] w w' := by
  have HK := hide (((Keeps.refl [] w).alloc (.cells #[.int .i64 s, .int .i64 n] 24)).alloc (.cells #[.int .i64 0, .int .i64 0] 24))
  have hb1 : b < w.heap.size := World.block_lt_of_cell? w _ hb
  have hne : b ≠ w.heap.size := by omega
  have hne1 : b ≠ w.heap.size + 1 := by omega
  go_enter Try.func32, Try.ntmps32
  go_wp2_with fail
  have hB : Bk ((w.alloc (.cells #[.int .i64 s, .int .i64 n] 24)).alloc (.cells #[.int .i64 0, .int .i64 0] 24)) w.heap.size 24 #[.int .i64 s, .int .i64 n] := (Bk.new w 24 _).alloc _
  have hR : Bk ((w.alloc (.cells #[.int .i64 s, .int .i64 n] 24)).alloc (.cells #[.int .i64 0, .int .i64 0] 24)) (w.heap.size + 1) 24 #[.int .i64 0, .int .i64 0] := by
    have := Bk.new (w.alloc (.cells #[.int .i64 s, .int .i64 n] 24)) 24 #[.int .i64 0, .int .i64 0]
    simpa using this
  generalize (w.alloc (.cells #[.int .i64 s, .int .i64 n] 24)).alloc (.cells #[.int .i64 0, .int .i64 0] 24) = w0 at HK hB hR ⊢
  have HS0 := hide (Src.keep hs HK.out (by simp))
  have hb0 := HK.out.cell hb
  have HP := hide (isRec_pred s n w.heap.size w0 (hB.cell 0) (hB.cell 1))
  refine (index_sm 34 _ _ A c T w0 hT HS0.out HP.out).mono ?_
  rintro e w1 ⟨rfl, hk1⟩
  replace hB := hB.keep hk1 (by simp)
  replace hR := hR.keep hk1 (by simp)
  replace hb0 := hk1.cell hb0
  replace HK := hide (HK.out.trans' hk1)
  replace HS0 := hide (Src.keep HS0.out hk1 (by simp))
  clear hk1 HP hb hs
  have r0 := hR.cell 0
  have r1 := hR.cell 1
  have f0 := hR.free 0
  have f1 := hR.free 1
  have b0 := hB.cell 0
  have b1 := hB.cell 1
  simp at r0 r1 b0 b1
  have HF := hide (show Bk w1 (w.heap.size + 1) 24 #[.int .i64 0, .int .i64 0] from hR)
  clear hB hR
  have hlo : w.heap.size ≤ w.heap.size + 1 := by omega
  rcases title_first s n T 0 with ⟨h1, h2⟩ | ⟨m, hm, h1, h2⟩
  · rw [h1]
    have H2 := hide h2
    clear h1 h2
    go_wp2
    have hR2 := (HF.out.set 0 (.int .i64 (s))).set 1 (.int .i64 (n))
    have q0 := hR2.cell 0
    have q1 := hR2.cell 1
    simp at q0 q1
    refine bodyPost_ret (v := .agg #[.int .i64 (s), .int .i64 (n)]) (by simp [results, Try.results32, go_sem, q0, q1]) rfl ⟨by rw [H2.out], (HK.out.setCell (.inr (by simp)) _).setCell (.inr (by simp)) _⟩
  · rw [h1, Nat.zero_add]
    have H2 := hide h2
    clear h1 h2
    have hm0 : ¬ ((m : Int) < 0) := by omega
    have hm1 : (0 : Int) ≤ (m : Int) := by omega
    have hm2 : (m : Int) < (T.length : Int) := by omega
    obtain ⟨b2, o2, rfl, hcell⟩ := HS0.out.headN (by omega) (by omega)
    obtain ⟨c0, c1, c2, c3⟩ := sm_cells hcell m hm
    clear hcell
    generalize T[m] = y at c0 c1 c2 c3 H2
    go_wp2
    have hR2 := (HF.out.set 0 (.int .i64 (y.ts))).set 1 (.int .i64 (y.tn))
    have q0 := hR2.cell 0
    have q1 := hR2.cell 1
    simp at q0 q1
    refine bodyPost_ret (v := .agg #[.int .i64 (y.ts), .int .i64 (y.tn)]) (by simp [results, Try.results32, go_sem, q0, q1]) rfl ⟨by rw [H2.out], (HK.out.setCell (.inr (by simp)) _).setCell (.inr (by simp)) _⟩
end Go.Proofs.Ytlpmalkjbagbgaa

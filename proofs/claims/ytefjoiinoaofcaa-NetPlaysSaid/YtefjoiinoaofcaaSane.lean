/- The law's sanity returns true. -/
import Derived.Test.YtefjoiinoaofcaaScript
namespace Go.Proofs.Ytefjoiinoaofcaa
open Go.RowKit

def scr0 : List Tr := [⟨false, 0, 5⟩, ⟨true, 0, 0⟩, ⟨false, 2, 0⟩]
def tm0 : List Int := [10, 11, 12, 12]
def wn0 : List Int := [2, 12, 2, 13, 0, 15, 3, 17]
def iv (l : List Int) : List Value := l.map (Value.int .i64)
def stS : Nat → NS
  | 0 => NS.new 2 scr0
  | k + 1 => sendS (stS k) (tm0.getD k 0) 0 1 k ⟨#[]⟩
def stL : List Par := [⟨0, 1, 2, ⟨#[]⟩, 12, 2⟩, ⟨0, 1, 2, ⟨#[]⟩, 13, 2⟩, ⟨0, 1, 0, ⟨#[]⟩, 15, 0⟩, ⟨0, 1, 3, ⟨#[]⟩, 17, 3⟩]
theorem stS_four : stS 4 = ⟨2, scr0, stL, 4⟩ := by kernel_rfl
theorem stS_sent : ∀ k, (stS k).sent = k
  | 0 => rfl
  | k + 1 => by
    show (sendS (stS k) _ _ _ _ _).sent = _
    unfold sendS
    split <;> simp [stS_sent k]
theorem stS_scr : ∀ k, (stS k).scr = scr0
  | 0 => rfl
  | k + 1 => by
    show (sendS (stS k) _ _ _ _ _).scr = _
    unfold sendS
    split <;> simp [stS_scr k]
/-- Delays of a script's troubles. -/
theorem tr_delay (N : NS) (B : Int) (hB : 1 ≤ B) (h : ∀ t ∈ N.scr, t.delay ≤ B) : N.tr.delay ≤ B := by
  unfold NS.tr
  split
  · exact hB
  · rename_i h0
    have : N.sent % N.scr.length < N.scr.length := Nat.mod_lt _ (by omega)
    rw [tr_pos _ _ this]
    exact h _ (List.getElem_mem _)
def stN (k : Nat) : NS := ⟨2, scr0, stL.drop k, 4⟩

/-- A block beside a net stays, whatever the net does. -/
theorem Bk.beside {w w' : World} {t : Nat} {ty : TypeId} {cs : Array Value} {F F' : List Nat} (hb : Bk w t ty cs) (hn : t ∉ F) (ha : Adds w F F') (hk : Keeps F w w') : Bk w' t ty cs ∧ t ∉ F' :=
  ⟨hb.keep hk hn, fun hm => (ha t hm).elim hn (fun h => by have := hb.lt; omega)⟩

/-- A net all of which is new since w, and a block beside it. -/
def Side (w wr : World) (g : Nat) (N : NS) (t : Nat) (ty : TypeId) (cs : Array Value) : Prop := ∃ F, IsNet wr g F N ∧ Adds w [] F ∧ Keeps [] w wr ∧ Bk wr t ty cs ∧ t ∉ F
theorem Side.send {w wr : World} {g : Nat} {N : NS} {t : Nat} {ty : TypeId} {cs : Array Value} (h : Side w wr g N t ty cs) (now a b n : Int) (x : ByteArray) (hf : N.sent < 100000)
    (hb : N.drops b = false → -1000000000000000000 ≤ now ∧ now ≤ 1000000000000000000 ∧ N.tr.delay ≤ 1000000000000000000) :
    Calls Try.prog 14 #[.pointer (some ⟨g, 0, none⟩), .int .i64 now, msgV a b n x] wr fun e w' => e = .returned (.tuple #[]) ∧ Side w w' g (sendS N now a b n x) t ty cs := by
  obtain ⟨F, h1, h2, h3, h4, h5⟩ := h
  refine (send_any g F N now a b n x wr h1 hf hb).mono ?_
  rintro e w' ⟨he, F', hn, ha, hk⟩
  obtain ⟨hK, hA⟩ := own_step h3 h2 ha hk
  obtain ⟨k1, k2⟩ := h4.beside h5 ha hk
  exact ⟨he, F', hn, hA, hK, k1, k2⟩
theorem Side.keep {w wr w' : World} {g : Nat} {N : NS} {t : Nat} {ty : TypeId} {cs : Array Value} (h : Side w wr g N t ty cs) (k : Keeps [] wr w') : Side w w' g N t ty cs := by
  obtain ⟨F, h1, h2, h3, h4, h5⟩ := h
  exact ⟨F, h1.keep0 k, h2, h3.trans' k, h4.keep k (by simp), h5⟩
theorem Side.next {w wr : World} {g : Nat} {N : NS} {t : Nat} {ty : TypeId} {cs : Array Value} (h : Side w wr g N t ty cs) (q : Par) (S : List Par) (hS : N.S = q :: S) :
    Calls Try.prog 16 #[.pointer (some ⟨g, 0, none⟩)] wr fun e w' => e = .returned (.tuple #[msgV q.fr q.to q.num q.tx, .int .i64 q.time, .bool true]) ∧ Side w w' g { N with S := S } t ty cs := by
  obtain ⟨F, h1, h2, h3, h4, h5⟩ := h
  refine (next_some g F N q S wr h1 hS).mono ?_
  rintro e w' ⟨he, F', hn, ha, hk⟩
  obtain ⟨hK, hA⟩ := own_step h3 h2 ha hk
  obtain ⟨k1, k2⟩ := h4.beside h5 ha hk
  exact ⟨he, F', hn, hA, hK, k1, k2⟩
theorem Side.empty {w wr : World} {g : Nat} {N : NS} {t : Nat} {ty : TypeId} {cs : Array Value} (h : Side w wr g N t ty cs) (hS : N.S = []) :
    Calls Try.prog 16 #[.pointer (some ⟨g, 0, none⟩)] wr fun e w' => e = .returned (.tuple #[msgV 0 0 0 ⟨#[]⟩, .int .i64 0, .bool false]) ∧ Side w w' g N t ty cs := by
  have h' := h
  obtain ⟨F, h1, h2, h3, h4, h5⟩ := h
  refine (next_none g F N wr h1 hS).mono ?_
  rintro e w' ⟨he, _, hk⟩
  exact ⟨he, h'.keep hk⟩
theorem Side.waiting {w wr : World} {g : Nat} {N : NS} {t : Nat} {ty : TypeId} {cs : Array Value} (h : Side w wr g N t ty cs) (n : Nat) (hn : N.S.length = n) :
    Calls Try.prog 18 #[.pointer (some ⟨g, 0, none⟩)] wr fun e w' => e = .returned (.int .i64 n) ∧ wr = w' := by
  subst hn
  obtain ⟨F, h1, _⟩ := h
  exact waiting_any g F N wr h1
/-- Another block beside it. -/
theorem Side.other {w wr : World} {g : Nat} {N : NS} {t : Nat} {ty : TypeId} {cs : Array Value} (h : Side w wr g N t ty cs) (ty' : TypeId) (cs' : Array Value) : Side w (wr.alloc (.cells cs' ty')) g N wr.heap.size ty' cs' := by
  obtain ⟨F, h1, h2, h3, h4, h5⟩ := h
  exact ⟨F, h1.keep0 ((Keeps.refl [] _).alloc _), h2, h3.alloc _, Bk.new _ _ _, fun hm => Nat.lt_irrefl _ (h1.all _ hm)⟩
theorem MadeNet.side {w w' : World} {N : NS} {g : Nat} (h : MadeNet w N g w') (ty' : TypeId) (cs' : Array Value) : Side w (w'.alloc (.cells cs' ty')) g N w'.heap.size ty' cs' := by
  obtain ⟨F, h1, h2, h3⟩ := h
  exact ⟨F, h1.keep0 ((Keeps.refl [] _).alloc _), h2, h3.alloc _, Bk.new _ _ _, fun hm => Nat.lt_irrefl _ (h1.all _ hm)⟩

theorem tm_cell : ∀ k, k < 4 → (iv tm0).toArray[k]? = some (.int .i64 (tm0.getD k 0)) ∧ 0 ≤ tm0.getD k 0 ∧ tm0.getD k 0 ≤ 12
  | 0, _ => ⟨rfl, by decide, by decide⟩
  | 1, _ => ⟨rfl, by decide, by decide⟩
  | 2, _ => ⟨rfl, by decide, by decide⟩
  | 3, _ => ⟨rfl, by decide, by decide⟩
theorem stN_four : stN 0 = stS 4 := stS_four.symm
theorem stN_next : ∀ k, k < 4 → ∃ q, stL.drop k = q :: stL.drop (k + 1) ∧ (iv wn0).toArray[k * 2]? = some (.int .i64 q.num) ∧ (iv wn0).toArray[k * 2 + 1]? = some (.int .i64 q.time)
  | 0, _ => ⟨_, rfl, rfl, rfl⟩
  | 1, _ => ⟨_, rfl, rfl, rfl⟩
  | 2, _ => ⟨_, rfl, rfl, rfl⟩
  | 3, _ => ⟨_, rfl, rfl, rfl⟩
set_option maxRecDepth 100000 in
set_option maxHeartbeats 1600000 in
theorem sanity_any (w : World) : Calls Try.prog 10 #[] w fun e w' => e = .returned (.bool true) ∧ Keeps [] w w' := by
  go_enter Try.func10, Try.ntmps10
  go_wp2_with fail
  have hsrc : Src (w.alloc (.cells (trs scr0).toArray 42)) 3 (.slice (some ⟨w.heap.size, 0, none⟩) 3 3) 3 (trs scr0) := Src.built w 42 (trs scr0).toArray 3 3 rfl _ rfl
  have hk0 := (Keeps.refl [] w).alloc (.cells (trs scr0).toArray 42)
  have HK0 := hide hk0
  refine (new_any 2 _ _ scr0 _ hsrc (by decide)).mono ?_
  rintro e w1 ⟨g, rfl, hm1⟩
  have HM := hide (hm1.side 3 (iv tm0).toArray)
  clear hsrc hk0 hm1
  go_wp2_with fail
  have HM1 : Hid (Side (w.alloc (.cells (trs scr0).toArray 42)) (w1.alloc (.cells #[.int .i64 10, .int .i64 11, .int .i64 12, .int .i64 12] 3)) g (NS.new 2 scr0) w1.heap.size 3 (iv tm0).toArray) := HM
  clear HM
  generalize w1.alloc (.cells #[.int .i64 10, .int .i64 11, .int .i64 12, .int .i64 12] 3) = w2 at HM1 ⊢
  generalize w1.heap.size = t at HM1 ⊢
  go_loopw [3] (fun xv wr => ∃ k : Nat, xv = .int .i64 k ∧ k ≤ 4 ∧ Hid (Side (w.alloc (.cells (trs scr0).toArray 42)) wr g (stS k) t 3 (iv tm0).toArray)) (fun xv _ => 4 - (intOf xv).toNat)
  case atStart => exact ⟨0, rfl, by omega, HM1⟩
  case round =>
    obtain ⟨k, rfl, hk, HR⟩ := hrel
    by_cases hlt : k < 4
    · obtain ⟨x0, x1, x2⟩ := tm_cell k hlt
      have q0 : wr.cell? ⟨t, k, none⟩ = some (.int .i64 (tm0.getD k 0)) := by
        obtain ⟨_, _, _, _, hb, _⟩ := HR.out
        rw [hb.cell k, x0]
      have hs := HR.out.send (tm0.getD k 0) 0 1 k ⟨#[]⟩ (by rw [stS_sent]; omega) (fun _ => ⟨by omega, by omega, tr_delay _ _ (by omega) (by rw [stS_scr]; intro t ht; simp [scr0] at ht; rcases ht with rfl | rfl | rfl <;> decide)⟩)
      unfold msgV at hs
      have HS := hide hs
      have b1 : (0 : Int) ≤ (k : Int) := by omega
      have b2 : (k : Int) < 4 := by omega
      clear hs x0
      generalize htk : tm0.getD k 0 = tk at *
      have HTK := hide htk
      clear htk
      go_wp2_with fail
      refine HS.out.mono ?_
      rintro e w3 ⟨rfl, h3⟩
      have H3 := hide h3
      clear h3 HS q0
      go_wp2_with fail
      go_roundw
      case rel =>
        refine ⟨k + 1, by go_num, by omega, ?_⟩
        show Hid (Side _ _ g (sendS (stS k) (tm0.getD k 0) 0 1 k ⟨#[]⟩) t 3 _)
        rw [HTK.out]
        exact H3
      case measure => simp [intOf]; omega
    · have hk4 : k = 4 := by omega
      subst hk4
      have HO := hide (HR.out.other 56 (iv wn0).toArray)
      rw [stS_four] at HO
      clear HR HM1
      go_wp2_with fail
      have HO1 : Hid (Side (w.alloc (.cells (trs scr0).toArray 42)) (wr.alloc (.cells #[.int .i64 2, .int .i64 12, .int .i64 2, .int .i64 13, .int .i64 0, .int .i64 15, .int .i64 3, .int .i64 17] 56)) g (stN 0) wr.heap.size 56 (iv wn0).toArray) := HO
      clear HO
      generalize wr.alloc (.cells #[.int .i64 2, .int .i64 12, .int .i64 2, .int .i64 13, .int .i64 0, .int .i64 15, .int .i64 3, .int .i64 17] 56) = w4 at HO1 ⊢
      generalize wr.heap.size = t2 at HO1 ⊢
      refine (HO1.out.waiting 4 rfl).mono ?_
      rintro e w5 ⟨rfl, rfl⟩
      go_wp2_with fail
      go_loopw [5, 6] (fun ov xv wr => ∃ k : Nat, ov = .bool true ∧ xv = .int .i64 k ∧ k ≤ 4 ∧ Hid (Side (w.alloc (.cells (trs scr0).toArray 42)) wr g (stN k) t2 56 (iv wn0).toArray)) (fun _ xv _ => 4 - (intOf xv).toNat)
      case atStart => exact ⟨0, rfl, rfl, by omega, HO1⟩
      case round =>
        obtain ⟨k, rfl, rfl, hk, HR⟩ := hrel
        by_cases hlt : k < 4
        · obtain ⟨q, x0, x1, x2⟩ := stN_next k hlt
          have hs := HR.out.next q (stL.drop (k + 1)) x0
          unfold msgV at hs
          have HS := hide hs
          have b1 : (0 : Int) ≤ (k : Int) := by omega
          have b2 : (k : Int) < 4 := by omega
          have X1 := hide x1
          have X2 := hide x2
          clear hs x0 x1 x2
          go_wp2_with fail
          refine HS.out.mono ?_
          rintro e w3 ⟨rfl, h3⟩
          have q0 : w3.cell? ⟨t2, k * 2, none⟩ = some (.int .i64 q.num) := by
            obtain ⟨_, _, _, _, hb, _⟩ := h3
            rw [hb.cell, X1.out]
          have q1 : w3.cell? ⟨t2, k * 2 + 1, none⟩ = some (.int .i64 q.time) := by
            obtain ⟨_, _, _, _, hb, _⟩ := h3
            rw [hb.cell, X2.out]
          have hl := World.block_lt_of_cell? w3 _ q0
          have H3 := hide h3
          have e1 : (q.num == q.num) = true := by simp
          have e2 : (q.time == q.time) = true := by simp
          clear h3 HS
          go_wp2_with fail
          go_quiet (fail)
          go_wp2_with fail
          go_roundw
          case rel => exact ⟨k + 1, rfl, by go_num, by omega, hide (H3.out.keep (((Keeps.refl [] _).alloc _).drewN nq))⟩
          case measure => simp [intOf]; omega
        · have hk4 : k = 4 := by omega
          subst hk4
          have hs := HR.out.empty rfl
          unfold msgV at hs
          have HS := hide hs
          clear hs
          go_wp2_with fail
          refine HS.out.mono ?_
          rintro e w3 ⟨rfl, h3⟩
          have H3 := hide (h3.keep ((Keeps.refl [] _).alloc (.cells #[.int .i64 0, .int .i64 0, .int .i64 0, .string ⟨#[]⟩] 31)))
          clear h3 HS
          go_wp2_with fail
          have hs := H3.out.send 0 0 2 0 ⟨#[]⟩ (by decide) (fun _ => ⟨by omega, by omega, by decide⟩)
          unfold msgV at hs
          refine hs.mono ?_
          rintro e w4 ⟨rfl, h4⟩
          have H4 := hide h4
          clear h4 hs H3
          go_wp2_with fail
          refine (H4.out.waiting 0 rfl).mono ?_
          rintro e w5 ⟨rfl, rfl⟩
          go_wp2_with fail
          go_ret
          obtain ⟨_, _, _, hK, _⟩ := H4.out
          exact ⟨rfl, HK0.out.trans' hK⟩
end Go.Proofs.Ytefjoiinoaofcaa

/- Two logs of one kind, apart, with boxes beside them; a row of events in memory. -/
import Derived.Test.YtcfglfnncpcfoaaOlaw
import Derived.Test.YtcfglfnncpcfoaaPlays
namespace Go.Proofs.Ytcfglfnncpcfoaa
open Go.RowKit
def Du (w0 w : World) (g h : Nat) (S M : Lg) (B : List Bx) : Prop := ∃ F G, IsLg 66 w g F S ∧ IsLg 66 w h G M ∧ Apart F G ∧ Adds w0 [] F ∧ Adds w0 [] G ∧ Keeps [] w0 w ∧ ∀ b, b ∈ B → w0.heap.size ≤ b.1 ∧ Bk w b.1 b.2.1 b.2.2 ∧ b.1 ∉ F ∧ b.1 ∉ G
theorem Du.swap {w0 w : World} {g h : Nat} {S M : Lg} {B : List Bx} (d : Du w0 w g h S M B) : Du w0 w h g M S B := by
  obtain ⟨F, G, h1, h2, h3, h4, h5, h6, hB⟩ := d
  exact ⟨G, F, h2, h1, h3.symm, h5, h4, h6, fun b hb => ⟨(hB b hb).1, (hB b hb).2.1, (hB b hb).2.2.2, (hB b hb).2.2.1⟩⟩
theorem Du.keeps {w0 w : World} {g h : Nat} {S M : Lg} {B : List Bx} (d : Du w0 w g h S M B) : Keeps [] w0 w := by
  obtain ⟨F, G, _, _, _, _, _, k, _⟩ := d
  exact k
theorem Du.okL {w0 w : World} {g h : Nat} {S M : Lg} {B : List Bx} (d : Du w0 w g h S M B) : S.ok := by
  obtain ⟨F, G, h1, _⟩ := d
  exact h1.ok
theorem Du.okR {w0 w : World} {g h : Nat} {S M : Lg} {B : List Bx} (d : Du w0 w g h S M B) : M.ok := d.swap.okL
theorem Du.bk {w0 w : World} {g h : Nat} {S M : Lg} {B : List Bx} (d : Du w0 w g h S M B) {b : Bx} (hb : b ∈ B) : Bk w b.1 b.2.1 b.2.2 := by
  obtain ⟨F, G, _, _, _, _, _, _, hB⟩ := d
  exact (hB b hb).2.1
theorem Du.keep {w0 w w' : World} {g h : Nat} {S M : Lg} {B : List Bx} (d : Du w0 w g h S M B) (k : Keeps [] w w') : Du w0 w' g h S M B := by
  obtain ⟨F, G, h1, h2, h3, h4, h5, h6, hB⟩ := d
  exact ⟨F, G, h1.keep0 k, h2.keep0 k, h3, h4, h5, h6.trans' k, fun b hb => ⟨(hB b hb).1, (hB b hb).2.1.keep k (by simp), (hB b hb).2.2⟩⟩
theorem Du.less {w0 w : World} {g h : Nat} {S M : Lg} {B C : List Bx} (d : Du w0 w g h S M B) (hs : ∀ b, b ∈ C → b ∈ B) : Du w0 w g h S M C := by
  obtain ⟨F, G, h1, h2, h3, h4, h5, h6, hB⟩ := d
  exact ⟨F, G, h1, h2, h3, h4, h5, h6, fun b hb => hB b (hs b hb)⟩
theorem Du.box {w0 w : World} {g h : Nat} {S M : Lg} {B : List Bx} (d : Du w0 w g h S M B) (t : TypeId) (cs : Array Value) : Du w0 (w.alloc (.cells cs t)) g h S M ((w.heap.size, t, cs) :: B) := by
  have k : Keeps [] w (w.alloc (.cells cs t)) := (Keeps.refl [] w).alloc _
  obtain ⟨F, G, h1, h2, h3, h4, h5, h6, hB⟩ := d
  refine ⟨F, G, h1.keep0 k, h2.keep0 k, h3, h4, h5, h6.trans' k, fun b hb => ?_⟩
  rcases List.mem_cons.1 hb with rfl | hb
  · exact ⟨h6.size, Bk.new w t cs, fun hm => by have := h1.all _ hm; omega, fun hm => by have := h2.all _ hm; omega⟩
  · exact ⟨(hB b hb).1, (hB b hb).2.1.keep k (by simp), (hB b hb).2.2⟩
/-- A write into the first box. -/
theorem Du.put {w0 w w' : World} {g h : Nat} {S M : Lg} {B : List Bx} {bx : Nat} {t : TypeId} {cs cs' : Array Value} (d : Du w0 w g h S M ((bx, t, cs) :: B)) (hne : ∀ b, b ∈ B → b.1 ≠ bx) (k : Keeps [bx] w w') (hb' : Bk w' bx t cs') : Du w0 w' g h S M ((bx, t, cs') :: B) := by
  obtain ⟨F, G, h1, h2, h3, h4, h5, h6, hB⟩ := d
  have h0 := hB (bx, t, cs) (by simp)
  have aF : Apart F [bx] := fun i hi hm => by simp at hm; subst hm; exact h0.2.2.1 hi
  have aG : Apart G [bx] := fun i hi hm => by simp at hm; subst hm; exact h0.2.2.2 hi
  refine ⟨F, G, h1.keep k aF, h2.keep k aG, h3, h4, h5, h6.trans k (fun i hi => by simp at hi; subst hi; exact .inr h0.1), fun b hb => ?_⟩
  rcases List.mem_cons.1 hb with rfl | hb
  · exact ⟨h0.1, hb', h0.2.2⟩
  · have hq := hB b (by simp [hb])
    exact ⟨hq.1, hq.2.1.keep k (by simpa using hne b hb), hq.2.2⟩
theorem Du.left {w0 w w' : World} {g h : Nat} {S' M : Lg} {B : List Bx} {F G : List Nat} (h2 : IsLg 66 w h G M) (h3 : Apart F G) (h4 : Adds w0 [] F) (h5 : Adds w0 [] G) (h6 : Keeps [] w0 w)
    (hB : ∀ b, b ∈ B → w0.heap.size ≤ b.1 ∧ Bk w b.1 b.2.1 b.2.2 ∧ b.1 ∉ F ∧ b.1 ∉ G) (hs : Stp 66 g F w S' w') : Du w0 w' g h S' M B := by
  obtain ⟨F', a, b, c⟩ := hs
  refine ⟨F', G, a, h2.keep c h3.symm, h3.adds b h2.all, h4.trans b h6.size, h5, h6.trans c h4, fun x hx => ?_⟩
  have hq := hB x hx
  exact ⟨hq.1, hq.2.1.keep c hq.2.2.1, fun hm => (b _ hm).elim hq.2.2.1 (fun hh => by have := hq.2.1.lt; omega), hq.2.2.2⟩
theorem Du.takeL {w0 w : World} {g h : Nat} {S M : Lg} {B : List Bx} (d : Du w0 w g h S M B) (e : Ev) (he1 : -9223372036854775808 ≤ e.t) (he2 : e.t ≤ 9223372036854775807) :
    Calls Try.prog 27 #[.pointer (some ⟨g, 0, none⟩), ev e] w fun r w' => r = .returned (.int .i64 (takeE S e)) ∧ Du w0 w' g h (takeS S e) M B := by
  obtain ⟨F, G, h1, h2, h3, h4, h5, h6, hB⟩ := d
  exact (take_any g F S e w h1 he1 he2).mono fun r w' ⟨a, b⟩ => ⟨a, Du.left h2 h3 h4 h5 h6 hB b.stp⟩
theorem Du.takeR {w0 w : World} {g h : Nat} {S M : Lg} {B : List Bx} (d : Du w0 w g h S M B) (e : Ev) (he1 : -9223372036854775808 ≤ e.t) (he2 : e.t ≤ 9223372036854775807) :
    Calls Try.prog 27 #[.pointer (some ⟨h, 0, none⟩), ev e] w fun r w' => r = .returned (.int .i64 (takeE M e)) ∧ Du w0 w' g h S (takeS M e) B :=
  (d.swap.takeL e he1 he2).mono fun _ _ ⟨a, b⟩ => ⟨a, b.swap⟩
theorem Du.eventsL {w0 w : World} {g h : Nat} {S M : Lg} {B : List Bx} (d : Du w0 w g h S M B) : Calls Try.prog 25 #[.pointer (some ⟨g, 0, none⟩)] w fun r w' => ∃ v, r = .returned v ∧ EO w' v S.L ∧ New w v ∧ Keeps [] w w' := by
  obtain ⟨F, G, h1, _⟩ := d
  exact events_any g F S w h1
theorem Du.eventsR {w0 w : World} {g h : Nat} {S M : Lg} {B : List Bx} (d : Du w0 w g h S M B) : Calls Try.prog 25 #[.pointer (some ⟨h, 0, none⟩)] w fun r w' => ∃ v, r = .returned v ∧ EO w' v M.L ∧ New w v ∧ Keeps [] w w' := d.swap.eventsL
theorem Du.news {w w1 w2 : World} {g h : Nat} (h1 : IsLg 66 w1 g [g] Lg.new) (k1 : Keeps [] w w1) (hg : w.heap.size ≤ g) (h2 : IsLg 66 w2 h [h] Lg.new) (k2 : Keeps [] w1 w2) (hh : w1.heap.size ≤ h) : Du w w2 g h Lg.new Lg.new [] := by
  refine ⟨[g], [h], h1.keep0 k2, h2, fun i hi hm => ?_, fun i hi => .inr (by simp at hi; omega), fun i hi => .inr (by simp at hi; have := k1.size; omega), k1.trans' k2, fun b hb => by cases hb⟩
  simp at hi hm
  have := h1.all g (by simp)
  omega
/-- A row of events: cells. -/
def RowE (cur : Array Value) (E : Nat → Ev) (n : Nat) : Prop := ∀ k, k < n → ∀ i v, (ec (E k))[i]? = some v → cur[k * 18 + i]? = some v
theorem RowE.set {cur : Array Value} {E : Nat → Ev} {n : Nat} (h : RowE cur E n) (hs : n * 18 ≤ cur.size) {i : Nat} (hi : i < n) (j : Nat) (hj : j < 18) (x : Value) (e : Ev) (he : ec e = (ec (E i)).set j x) : RowE (cur.setIfInBounds (i * 18 + j) x) (upd E i e) n := fun k hk a v hv => by
  have ha : a < 18 := by
    have := (List.getElem?_eq_some_iff.1 hv).1
    simpa using this
  rw [Array.getElem?_setIfInBounds]
  by_cases hki : k = i
  · subst hki
    rw [upd_self, he, List.getElem?_set] at hv
    by_cases haj : j = a
    · subst haj
      rw [if_pos rfl, if_pos (by omega)]
      rw [if_pos rfl, if_pos (by simpa using hj)] at hv
      exact hv
    · rw [if_neg haj] at hv
      rw [if_neg (by omega)]
      exact h k hk a v hv
  · rw [upd_ne _ _ hki] at hv
    rw [if_neg (by omega)]
    exact h k hk a v hv
/-- Two logs and a slice of n events, apart. -/
def Rz (w0 w : World) (g h : Nat) (S M : Lg) (A : Option Addr) (n : Nat) (E : Nat → Ev) : Prop :=
  (n = 0 ∧ Du w0 w g h S M []) ∨ ∃ b cur, A = some ⟨b, 0, none⟩ ∧ n * 18 ≤ cur.size ∧ RowE cur E n ∧ Du w0 w g h S M [(b, 27, cur)]
theorem Rz.du {w0 w : World} {g h : Nat} {S M : Lg} {A : Option Addr} {n : Nat} {E : Nat → Ev} (r : Rz w0 w g h S M A n E) : Du w0 w g h S M [] := by
  rcases r with ⟨_, d⟩ | ⟨b, cur, _, _, _, d⟩
  · exact d
  · exact d.less (fun b hb => by cases hb)
theorem Rz.keep {w0 w w' : World} {g h : Nat} {S M : Lg} {A : Option Addr} {n : Nat} {E : Nat → Ev} (r : Rz w0 w g h S M A n E) (k : Keeps [] w w') : Rz w0 w' g h S M A n E := by
  rcases r with ⟨h0, d⟩ | ⟨b, cur, h1, h2, h3, d⟩
  · exact .inl ⟨h0, d.keep k⟩
  · exact .inr ⟨b, cur, h1, h2, h3, d.keep k⟩
theorem Rz.takeL {w0 w : World} {g h : Nat} {S M : Lg} {A : Option Addr} {n : Nat} {E : Nat → Ev} (r : Rz w0 w g h S M A n E) (e : Ev) (he1 : -9223372036854775808 ≤ e.t) (he2 : e.t ≤ 9223372036854775807) :
    Calls Try.prog 27 #[.pointer (some ⟨g, 0, none⟩), ev e] w fun x w' => x = .returned (.int .i64 (takeE S e)) ∧ Rz w0 w' g h (takeS S e) M A n E := by
  rcases r with ⟨h0, d⟩ | ⟨b, cur, h1, h2, h3, d⟩
  · exact (d.takeL e he1 he2).mono fun x w' ⟨p, q⟩ => ⟨p, .inl ⟨h0, q⟩⟩
  · exact (d.takeL e he1 he2).mono fun x w' ⟨p, q⟩ => ⟨p, .inr ⟨b, cur, h1, h2, h3, q⟩⟩
theorem Rz.takeR {w0 w : World} {g h : Nat} {S M : Lg} {A : Option Addr} {n : Nat} {E : Nat → Ev} (r : Rz w0 w g h S M A n E) (e : Ev) (he1 : -9223372036854775808 ≤ e.t) (he2 : e.t ≤ 9223372036854775807) :
    Calls Try.prog 27 #[.pointer (some ⟨h, 0, none⟩), ev e] w fun x w' => x = .returned (.int .i64 (takeE M e)) ∧ Rz w0 w' g h S (takeS M e) A n E := by
  rcases r with ⟨h0, d⟩ | ⟨b, cur, h1, h2, h3, d⟩
  · exact (d.takeR e he1 he2).mono fun x w' ⟨p, q⟩ => ⟨p, .inl ⟨h0, q⟩⟩
  · exact (d.takeR e he1 he2).mono fun x w' ⟨p, q⟩ => ⟨p, .inr ⟨b, cur, h1, h2, h3, q⟩⟩
/-- One event of the row: its cells; it may be written. -/
theorem Rz.row {w0 w : World} {g h : Nat} {S M : Lg} {A : Option Addr} {n : Nat} {E : Nat → Ev} (r : Rz w0 w g h S M A n E) {k : Nat} (hk : k < n) :
    ∃ b, A = some ⟨b, 0, none⟩ ∧ EvAt w b (k * 18) (E k) ∧ (∀ i, w.frozen? ⟨b, i, none⟩ = false) ∧
      ∀ (j : Nat) (x : Value) (e : Ev), j < 18 → ec e = (ec (E k)).set j x → Rz w0 (w.setCell ⟨b, k * 18 + j, none⟩ x) g h S M A n (upd E k e) := by
  rcases r with ⟨h0, d⟩ | ⟨b, cur, h1, h2, h3, d⟩
  · omega
  · have hb : Bk w b 27 cur := d.bk (b := (b, 27, cur)) (by simp)
    refine ⟨b, h1, fun i v hv => ?_, fun i => hb.free i, fun j x e hj he => .inr ⟨b, _, h1, ?_, h3.set h2 hk j hj x e he, ?_⟩⟩
    · rw [hb.cell]
      exact h3 k hk i v hv
    · rw [Array.size_setIfInBounds]; exact h2
    · exact d.put (fun b hb => by cases hb) ((Keeps.refl [b] w).setCell (p := ⟨b, k * 18 + j, none⟩) (.inl (by simp)) x) (hb.set (k * 18 + j) x)
/-- From a slice that is new since the two logs. -/
theorem Rz.mk {w0 w1 w : World} {g h : Nat} {S M : Lg} {A : Option Addr} {n c : Nat} {L : List Ev} (d : Du w0 w1 g h S M []) (k : Keeps [] w1 w) (ho : Own w 27 18 (.slice A n c) n (ecs L)) (hn : New w1 (.slice A n c)) (hl : L.length = n) (z : Ev) : Rz w0 w g h S M A n (fun k => L.getD k z) := by
  rcases ho.2 with ⟨_, h0⟩ | ⟨b, cap, cur, hA, _, hb, hc, _, hs, ht⟩
  · exact .inl ⟨h0, d.keep k⟩
  · injection hA with hA _ hcc
    subst hA
    have hn' := hn b rfl
    refine .inr ⟨b, cur, rfl, by rw [hs]; exact Nat.mul_le_mul_right _ hc, fun j hj i v hv => ?_, ?_⟩
    · have hj' : j < L.length := by omega
      have e1 : L.getD j z = L[j] := by simp [List.getD, List.getElem?_eq_getElem hj']
      replace hv : (ec (L.getD j z))[i]? = some v := hv
      rw [e1] at hv
      have h1 := ecs_at L j hj' i v hv
      have hi : i < 18 := by
        have := (List.getElem?_eq_some_iff.1 hv).1
        simpa using this
      rw [← ht, List.getElem?_take, if_pos (by omega), Array.getElem?_toList] at h1
      exact h1
    · obtain ⟨F, G, h1, h2, h3, h4, h5, h6, _⟩ := d
      refine ⟨F, G, h1.keep0 k, h2.keep0 k, h3, h4, h5, h6.trans' k, fun x hx => ?_⟩
      simp at hx
      subst hx
      refine ⟨Nat.le_trans h6.size hn', hb, fun hm => ?_, fun hm => ?_⟩
      · have := h1.all _ hm
        omega
      · have := h2.all _ hm
        omega
end Go.Proofs.Ytcfglfnncpcfoaa

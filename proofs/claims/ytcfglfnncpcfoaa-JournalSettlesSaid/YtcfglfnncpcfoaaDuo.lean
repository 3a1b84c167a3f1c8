/- Two logs apart with boxes of their own beside them; a result beside them. -/
import Derived.Test.YtcfglfnncpcfoaaMade
import Derived.Test.YtcfglfnncpcfoaaRstl
namespace Go.Proofs.Ytcfglfnncpcfoaa
open Go.RowKit
/-- A box: block, type, cells. -/
abbrev Bx := Nat × TypeId × Array Value
/-- Two logs apart, new since w0, and boxes that lie in neither. -/
def Duo (w0 w : World) (g h : Nat) (S M : Lg) (B : List Bx) : Prop := ∃ F G, IsLg 66 w g F S ∧ IsLg 84 w h G M ∧ Apart F G ∧ Adds w0 [] F ∧ Adds w0 [] G ∧ Keeps [] w0 w ∧ ∀ b, b ∈ B → w0.heap.size ≤ b.1 ∧ Bk w b.1 b.2.1 b.2.2 ∧ b.1 ∉ F ∧ b.1 ∉ G
theorem Duo.keeps {w0 w : World} {g h : Nat} {S M : Lg} {B : List Bx} (d : Duo w0 w g h S M B) : Keeps [] w0 w := by
  obtain ⟨F, G, _, _, _, _, _, k, _⟩ := d
  exact k
theorem Duo.ok {w0 w : World} {g h : Nat} {S M : Lg} {B : List Bx} (d : Duo w0 w g h S M B) : S.ok := by
  obtain ⟨F, G, h1, _⟩ := d
  exact h1.ok
theorem Duo.bk {w0 w : World} {g h : Nat} {S M : Lg} {B : List Bx} (d : Duo w0 w g h S M B) {b : Bx} (hb : b ∈ B) : Bk w b.1 b.2.1 b.2.2 := by
  obtain ⟨F, G, _, _, _, _, _, _, hB⟩ := d
  exact (hB b hb).2.1
theorem Duo.keep {w0 w w' : World} {g h : Nat} {S M : Lg} {B : List Bx} (d : Duo w0 w g h S M B) (k : Keeps [] w w') : Duo w0 w' g h S M B := by
  obtain ⟨F, G, h1, h2, h3, h4, h5, h6, hB⟩ := d
  exact ⟨F, G, h1.keep0 k, h2.keep0 k, h3, h4, h5, h6.trans' k, fun b hb => ⟨(hB b hb).1, (hB b hb).2.1.keep k (by simp), (hB b hb).2.2⟩⟩
theorem Duo.less {w0 w : World} {g h : Nat} {S M : Lg} {B C : List Bx} (d : Duo w0 w g h S M B) (hs : ∀ b, b ∈ C → b ∈ B) : Duo w0 w g h S M C := by
  obtain ⟨F, G, h1, h2, h3, h4, h5, h6, hB⟩ := d
  exact ⟨F, G, h1, h2, h3, h4, h5, h6, fun b hb => hB b (hs b hb)⟩
theorem Duo.box {w0 w : World} {g h : Nat} {S M : Lg} {B : List Bx} (d : Duo w0 w g h S M B) (t : TypeId) (cs : Array Value) : Duo w0 (w.alloc (.cells cs t)) g h S M ((w.heap.size, t, cs) :: B) := by
  have k : Keeps [] w (w.alloc (.cells cs t)) := (Keeps.refl [] w).alloc _
  obtain ⟨F, G, h1, h2, h3, h4, h5, h6, hB⟩ := d
  refine ⟨F, G, h1.keep0 k, h2.keep0 k, h3, h4, h5, h6.trans' k, fun b hb => ?_⟩
  rcases List.mem_cons.1 hb with rfl | hb
  · exact ⟨h6.size, Bk.new w t cs, fun hm => by have := h1.all _ hm; omega, fun hm => by have := h2.all _ hm; omega⟩
  · exact ⟨(hB b hb).1, (hB b hb).2.1.keep k (by simp), (hB b hb).2.2⟩
/-- A write into the first box. -/
theorem Duo.put {w0 w w' : World} {g h : Nat} {S M : Lg} {B : List Bx} {bx : Nat} {t : TypeId} {cs cs' : Array Value} (d : Duo w0 w g h S M ((bx, t, cs) :: B)) (hne : ∀ b, b ∈ B → b.1 ≠ bx) (k : Keeps [bx] w w') (hb' : Bk w' bx t cs') : Duo w0 w' g h S M ((bx, t, cs') :: B) := by
  obtain ⟨F, G, h1, h2, h3, h4, h5, h6, hB⟩ := d
  have h0 := hB (bx, t, cs) (by simp)
  have aF : Apart F [bx] := fun i hi hm => by simp at hm; subst hm; exact h0.2.2.1 hi
  have aG : Apart G [bx] := fun i hi hm => by simp at hm; subst hm; exact h0.2.2.2 hi
  refine ⟨F, G, h1.keep k aF, h2.keep k aG, h3, h4, h5, h6.trans k (fun i hi => by simp at hi; subst hi; exact .inr h0.1), fun b hb => ?_⟩
  rcases List.mem_cons.1 hb with rfl | hb
  · exact ⟨h0.1, hb', h0.2.2⟩
  · have hq := hB b (by simp [hb])
    exact ⟨hq.1, hq.2.1.keep k (by simpa using hne b hb), hq.2.2⟩
theorem Duo.left {w0 w w' : World} {g h : Nat} {S' M : Lg} {B : List Bx} {F G : List Nat} (h2 : IsLg 84 w h G M) (h3 : Apart F G) (h4 : Adds w0 [] F) (h5 : Adds w0 [] G) (h6 : Keeps [] w0 w)
    (hB : ∀ b, b ∈ B → w0.heap.size ≤ b.1 ∧ Bk w b.1 b.2.1 b.2.2 ∧ b.1 ∉ F ∧ b.1 ∉ G) (hs : Stp 66 g F w S' w') : Duo w0 w' g h S' M B := by
  obtain ⟨F', a, b, c⟩ := hs
  refine ⟨F', G, a, h2.keep c h3.symm, h3.adds b h2.all, h4.trans b h6.size, h5, h6.trans c h4, fun x hx => ?_⟩
  have hq := hB x hx
  exact ⟨hq.1, hq.2.1.keep c hq.2.2.1, fun hm => (b _ hm).elim hq.2.2.1 (fun hh => by have := hq.2.1.lt; omega), hq.2.2.2⟩
theorem Duo.right {w0 w w' : World} {g h : Nat} {S M' : Lg} {B : List Bx} {F G : List Nat} (h1 : IsLg 66 w g F S) (h3 : Apart F G) (h4 : Adds w0 [] F) (h5 : Adds w0 [] G) (h6 : Keeps [] w0 w)
    (hB : ∀ b, b ∈ B → w0.heap.size ≤ b.1 ∧ Bk w b.1 b.2.1 b.2.2 ∧ b.1 ∉ F ∧ b.1 ∉ G) (hs : Stp 84 h G w M' w') : Duo w0 w' g h S M' B := by
  obtain ⟨G', a, b, c⟩ := hs
  refine ⟨F, G', h1.keep c h3, a, (h3.symm.adds b h1.all).symm, h4, h5.trans b h6.size, h6.trans c h5, fun x hx => ?_⟩
  have hq := hB x hx
  exact ⟨hq.1, hq.2.1.keep c hq.2.2.2, hq.2.2.1, fun hm => (b _ hm).elim hq.2.2.2 (fun hh => by have := hq.2.1.lt; omega)⟩
theorem Duo.take {w0 w : World} {g h : Nat} {S M : Lg} {B : List Bx} (d : Duo w0 w g h S M B) (e : Ev) (he1 : -9223372036854775808 ≤ e.t) (he2 : e.t ≤ 9223372036854775807) :
    Calls Try.prog 27 #[.pointer (some ⟨g, 0, none⟩), ev e] w fun r w' => r = .returned (.int .i64 (takeE S e)) ∧ Duo w0 w' g h (takeS S e) M B := by
  obtain ⟨F, G, h1, h2, h3, h4, h5, h6, hB⟩ := d
  exact (take_any g F S e w h1 he1 he2).mono fun r w' ⟨a, b⟩ => ⟨a, Duo.left h2 h3 h4 h5 h6 hB b.stp⟩
theorem Duo.rtake {w0 w : World} {g h : Nat} {S M : Lg} {B : List Bx} (d : Duo w0 w g h S M B) (e : Ev) (he1 : -9223372036854775808 ≤ e.t) (he2 : e.t ≤ 9223372036854775807) :
    Calls Try.prog 42 #[.pointer (some ⟨h, 0, none⟩), ev e] w fun r w' => r = .returned (.int .i64 (takeE M e)) ∧ Duo w0 w' g h S (takeS M e) B := by
  obtain ⟨F, G, h1, h2, h3, h4, h5, h6, hB⟩ := d
  exact (rtake_any h G M e w h2 he1 he2).mono fun r w' ⟨a, b⟩ => ⟨a, Duo.right h1 h3 h4 h5 h6 hB b.stp⟩
/-- With a result that lies in neither. -/
def Duv (w0 w : World) (g h : Nat) (S M : Lg) (B : List Bx) (v : Value) (L : List Ev) : Prop := ∃ F G, IsLg 66 w g F S ∧ IsLg 84 w h G M ∧ Apart F G ∧ Adds w0 [] F ∧ Adds w0 [] G ∧ Keeps [] w0 w ∧ (∀ b, b ∈ B → w0.heap.size ≤ b.1 ∧ Bk w b.1 b.2.1 b.2.2 ∧ b.1 ∉ F ∧ b.1 ∉ G) ∧ EO w v L ∧ ∀ b, v.ownBlock = some b → b ∉ G
theorem Duo.settle {w0 w : World} {g h : Nat} {S M : Lg} {B : List Bx} (d : Duo w0 w g h S M B) (x : Int) (hx1 : -9223372036854775808 ≤ x) (hx2 : x ≤ 9223372036854775807) :
    Calls Try.prog 28 #[.pointer (some ⟨g, 0, none⟩), .int .i64 x] w fun r w' => ∃ v, r = .returned v ∧ Duv w0 w' g h (settleS S x) M B v (settleR S x) := by
  obtain ⟨F, G, h1, h2, h3, h4, h5, h6, hB⟩ := d
  refine (settle_any g F S x w h1 hx1 hx2).mono fun r w' ⟨v, a, e, n, F', l, ad, k, ho⟩ => ⟨v, a, F', G, l, h2.keep k h3.symm, h3.adds ad h2.all, h4.trans ad h6.size, h5, h6.trans k h4, fun y hy => ?_, e, fun b hb hm => ?_⟩
  · have hq := hB y hy
    exact ⟨hq.1, hq.2.1.keep k hq.2.2.1, fun hm => (ad _ hm).elim hq.2.2.1 (fun hh => by have := hq.2.1.lt; omega), hq.2.2.2⟩
  · have h7 := n b hb
    have h8 := h2.all _ hm
    omega
theorem Duv.rsettle {w0 w : World} {g h : Nat} {S M : Lg} {B : List Bx} {v : Value} {L : List Ev} (d : Duv w0 w g h S M B v L) (x : Int) (hx1 : -9223372036854775808 ≤ x) (hx2 : x ≤ 9223372036854775807) :
    Calls Try.prog 30 #[.pointer (some ⟨h, 0, none⟩), .int .i64 x] w fun r w' => ∃ u, r = .returned u ∧ Duo w0 w' g h S (settleS M x) B ∧ EO w' v L ∧ EO w' u (settleR M x) := by
  obtain ⟨F, G, h1, h2, h3, h4, h5, h6, hB, e, ho⟩ := d
  exact (rsettle_any h G M x w h2 hx1 hx2).mono fun r w' ⟨u, a, b⟩ => ⟨u, a, Duo.right h1 h3 h4 h5 h6 hB b.stp, e.keep (by obtain ⟨_, _, _, _, _, k, _⟩ := b; exact k) ho, b.1⟩
theorem Duv.keeps {w0 w : World} {g h : Nat} {S M : Lg} {B : List Bx} {v : Value} {L : List Ev} (d : Duv w0 w g h S M B v L) : Keeps [] w0 w := by
  obtain ⟨F, G, _, _, _, _, _, k, _⟩ := d
  exact k
theorem Duv.bk {w0 w : World} {g h : Nat} {S M : Lg} {B : List Bx} {v : Value} {L : List Ev} (d : Duv w0 w g h S M B v L) {b : Bx} (hb : b ∈ B) : Bk w b.1 b.2.1 b.2.2 := by
  obtain ⟨F, G, _, _, _, _, _, _, hB, _⟩ := d
  exact (hB b hb).2.1
theorem Duo.settled {w0 w : World} {g h : Nat} {S M : Lg} {B : List Bx} (d : Duo w0 w g h S M B) : Calls Try.prog 29 #[.pointer (some ⟨g, 0, none⟩)] w fun r w' => r = .returned (.int .i64 ((S.op : Int) - 1)) ∧ w = w' := by
  obtain ⟨F, G, h1, _⟩ := d
  exact settled_any g F S w h1
theorem Duo.rsettled {w0 w : World} {g h : Nat} {S M : Lg} {B : List Bx} (d : Duo w0 w g h S M B) : Calls Try.prog 43 #[.pointer (some ⟨h, 0, none⟩)] w fun r w' => r = .returned (.int .i64 ((M.op : Int) - 1)) ∧ w = w' := by
  obtain ⟨F, G, _, h2, _⟩ := d
  exact rsettled_any h G M w h2
theorem settleR_len (S : Lg) (h : S.ok) (x : Int) : (settleR S x).length ≤ 100000 := by
  have := h.len
  unfold settleR
  split
  · simp
  · rw [List.length_take]
    omega
end Go.Proofs.Ytcfglfnncpcfoaa

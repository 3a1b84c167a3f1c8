/- Two logs apart and a slice of events that lies in neither and may be written. -/
import Derived.Test.YtcfglfnncpcfoaaStat
namespace Go.Proofs.Ytcfglfnncpcfoaa
open Go.RowKit
def Rw (w0 w : World) (g h : Nat) (S M : Lg) (B : List Bx) (A : Option Addr) (n : Nat) : Prop :=
  (n = 0 ∧ Duo w0 w g h S M B) ∨ ∃ b cur, A = some ⟨b, 0, none⟩ ∧ n * 18 ≤ cur.size ∧ (∀ x, x ∈ B → x.1 ≠ b) ∧ Duo w0 w g h S M ((b, 27, cur) :: B)
theorem Rw.duo {w0 w : World} {g h : Nat} {S M : Lg} {B : List Bx} {A : Option Addr} {n : Nat} (r : Rw w0 w g h S M B A n) : Duo w0 w g h S M B := by
  rcases r with ⟨_, d⟩ | ⟨b, cur, _, _, _, d⟩
  · exact d
  · exact d.less sub1
theorem Rw.row {w0 w : World} {g h : Nat} {S M : Lg} {B : List Bx} {A : Option Addr} {n k : Nat} (r : Rw w0 w g h S M B A n) (hk : k < n) : ∃ b cur, A = some ⟨b, 0, none⟩ ∧ Bk w b 27 cur ∧ k * 18 + 18 ≤ cur.size ∧ ∀ new : Array Value, new.size = cur.size → Rw w0 (w.setRow b new) g h S M B A n := by
  rcases r with ⟨h0, _⟩ | ⟨b, cur, hA, hn, hne, d⟩
  · omega
  · refine ⟨b, cur, hA, d.bk (b := (b, 27, cur)) (by simp), by omega, fun new hs => .inr ⟨b, new, hA, by omega, hne, ?_⟩⟩
    have hb : Bk w b 27 cur := d.bk (b := (b, 27, cur)) (by simp)
    exact d.put hne ((Keeps.refl [b] w).setRow (g := b) (.inl (by simp)) new) (row_bk hb new)
/-- A result that is new since a world with the boxes and lies in neither log. -/
theorem Rw.mk {w0 w : World} {g h : Nat} {S M : Lg} {B : List Bx} {A : Option Addr} {n c : Nat} {xs : List Value} {F G : List Nat} (h1 : IsLg 66 w g F S) (h2 : IsLg 84 w h G M) (h3 : Apart F G) (h4 : Adds w0 [] F) (h5 : Adds w0 [] G) (h6 : Keeps [] w0 w)
    (hB : ∀ b, b ∈ B → w0.heap.size ≤ b.1 ∧ Bk w b.1 b.2.1 b.2.2 ∧ b.1 ∉ F ∧ b.1 ∉ G) (ho : Own w 27 18 (.slice A n c) n xs) (hv : ∀ b, (Value.slice A n c).ownBlock = some b → b ∉ F ∧ b ∉ G ∧ w0.heap.size ≤ b ∧ ∀ x, x ∈ B → x.1 ≠ b) : Rw w0 w g h S M B A n := by
  rcases ho.2 with ⟨_, h0⟩ | ⟨b, cap, cur, hA, _, hb, hc, _, hs, _⟩
  · exact .inl ⟨h0, F, G, h1, h2, h3, h4, h5, h6, hB⟩
  · injection hA with hA _ hcc
    subst hA
    have hv' := hv b rfl
    refine .inr ⟨b, cur, rfl, by rw [hs]; exact Nat.mul_le_mul_right _ hc, hv'.2.2.2, F, G, h1, h2, h3, h4, h5, h6, fun x hx => ?_⟩
    rcases List.mem_cons.1 hx with rfl | hx
    · exact ⟨hv'.2.2.1, hb, hv'.1, hv'.2.1⟩
    · exact hB x hx
theorem Duo.eventsW {w0 w : World} {g h : Nat} {S M : Lg} {B : List Bx} (d : Duo w0 w g h S M B) : Calls Try.prog 25 #[.pointer (some ⟨g, 0, none⟩)] w fun r w' => ∃ A c, r = .returned (.slice A S.L.length c) ∧ Rw w0 w' g h S M B A S.L.length := by
  obtain ⟨F, G, h1, h2, h3, h4, h5, h6, hB⟩ := d
  refine (events_any g F S w h1).mono fun r w' ⟨v, a, e, n, k⟩ => ?_
  obtain ⟨A, c, rfl⟩ := Own.slice e
  exact ⟨A, c, a, Rw.mk (h1.keep0 k) (h2.keep0 k) h3 h4 h5 (h6.trans' k) (fun b hb => ⟨(hB b hb).1, (hB b hb).2.1.keep k (by simp), (hB b hb).2.2⟩) e
    (fun b hb => ⟨fun hm => by have := n b hb; have := h1.all _ hm; omega, fun hm => by have := n b hb; have := h2.all _ hm; omega, Nat.le_trans h6.size (n b hb), fun x hx he => by have := n b hb; have := (hB x hx).2.1.lt; omega⟩)⟩
/-- With a result that lies in neither and in no box. -/
def Dvw (w0 w : World) (g h : Nat) (S M : Lg) (B : List Bx) (v : Value) (L : List Ev) : Prop := ∃ F G, IsLg 66 w g F S ∧ IsLg 84 w h G M ∧ Apart F G ∧ Adds w0 [] F ∧ Adds w0 [] G ∧ Keeps [] w0 w ∧ (∀ b, b ∈ B → w0.heap.size ≤ b.1 ∧ Bk w b.1 b.2.1 b.2.2 ∧ b.1 ∉ F ∧ b.1 ∉ G) ∧ EO w v L ∧ ∀ b, v.ownBlock = some b → b ∉ F ∧ b ∉ G ∧ w0.heap.size ≤ b ∧ ∀ x, x ∈ B → x.1 ≠ b
theorem Duo.settleW {w0 w : World} {g h : Nat} {S M : Lg} {B : List Bx} (d : Duo w0 w g h S M B) (x : Int) (hx1 : -9223372036854775808 ≤ x) (hx2 : x ≤ 9223372036854775807) :
    Calls Try.prog 28 #[.pointer (some ⟨g, 0, none⟩), .int .i64 x] w fun r w' => ∃ v, r = .returned v ∧ Dvw w0 w' g h (settleS S x) M B v (settleR S x) := by
  obtain ⟨F, G, h1, h2, h3, h4, h5, h6, hB⟩ := d
  refine (settle_any g F S x w h1 hx1 hx2).mono fun r w' ⟨v, a, e, n, F', l, ad, k, ho⟩ => ⟨v, a, F', G, l, h2.keep k h3.symm, h3.adds ad h2.all, h4.trans ad h6.size, h5, h6.trans k h4, fun y hy => ?_, e, fun b hb => ⟨ho b hb, fun hm => ?_, Nat.le_trans h6.size (n b hb), fun y hy he => ?_⟩⟩
  · have hq := hB y hy
    exact ⟨hq.1, hq.2.1.keep k hq.2.2.1, fun hm => (ad _ hm).elim hq.2.2.1 (fun hh => by have := hq.2.1.lt; omega), hq.2.2.2⟩
  · have h7 := n b hb
    have h8 := h2.all _ hm
    omega
  · have h7 := n b hb
    have h8 := (hB y hy).2.1.lt
    omega
theorem Dvw.rsettle {w0 w : World} {g h : Nat} {S M : Lg} {B : List Bx} {v : Value} {L : List Ev} (d : Dvw w0 w g h S M B v L) (x : Int) (hx1 : -9223372036854775808 ≤ x) (hx2 : x ≤ 9223372036854775807) :
    Calls Try.prog 30 #[.pointer (some ⟨h, 0, none⟩), .int .i64 x] w fun r w' => ∃ u, r = .returned u ∧ Dvw w0 w' g h S (settleS M x) B v L ∧ EO w' u (settleR M x) := by
  obtain ⟨F, G, h1, h2, h3, h4, h5, h6, hB, e, ho⟩ := d
  refine (rsettle_any h G M x w h2 hx1 hx2).mono fun r w' ⟨u, a, f, n, G', l, ad, k, _⟩ => ⟨u, a, ⟨F, G', h1.keep k h3, l, (h3.symm.adds ad h1.all).symm, h4, h5.trans ad h6.size, h6.trans k h5, fun y hy => ?_, e.keep k (fun b hb => (ho b hb).2.1), fun b hb => ⟨(ho b hb).1, fun hm => (ad _ hm).elim (ho b hb).2.1 (fun hh => ?_), (ho b hb).2.2⟩⟩, f⟩
  · have hq := hB y hy
    exact ⟨hq.1, hq.2.1.keep k hq.2.2.2, hq.2.2.1, fun hm => (ad _ hm).elim hq.2.2.2 (fun hh => by have := hq.2.1.lt; omega)⟩
  · have := e.lt _ hb
    omega
theorem Dvw.rw_ {w0 w : World} {g h : Nat} {S M : Lg} {B : List Bx} {A : Option Addr} {c : Nat} {L : List Ev} (d : Dvw w0 w g h S M B (.slice A L.length c) L) : Rw w0 w g h S M B A L.length := by
  obtain ⟨F, G, h1, h2, h3, h4, h5, h6, hB, e, ho⟩ := d
  exact Rw.mk h1 h2 h3 h4 h5 h6 hB e ho
end Go.Proofs.Ytcfglfnncpcfoaa

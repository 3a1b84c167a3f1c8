/- A log that is new since a world; two logs apart. -/
import Derived.Test.YtcfglfnncpcfoaaTake
import Derived.Test.YtcfglfnncpcfoaaRtake
namespace Go.Proofs.Ytcfglfnncpcfoaa
open Go.RowKit
/-- A log that is new since w0; nothing old has turned. -/
def Sn (T : TypeId) (w0 w : World) (g : Nat) (S : Lg) : Prop := ∃ F, IsLg T w g F S ∧ Adds w0 [] F ∧ Keeps [] w0 w
/-- Two logs apart, new since w0. -/
def Pr (T U : TypeId) (w0 w : World) (g h : Nat) (S M : Lg) : Prop := ∃ F G, IsLg T w g F S ∧ IsLg U w h G M ∧ Apart F G ∧ Adds w0 [] F ∧ Adds w0 [] G ∧ Keeps [] w0 w
/-- A step of one log. -/
def Stp (T : TypeId) (g : Nat) (F : List Nat) (w : World) (S' : Lg) (w' : World) : Prop := ∃ F', IsLg T w' g F' S' ∧ Adds w F F' ∧ Keeps F w w'
theorem Took.stp {T : TypeId} {w w' : World} {g : Nat} {F : List Nat} {S : Lg} {e : Ev} (h : Took T w g F S e w') : Stp T g F w (takeS S e) w' := h
theorem Settled.stp {T : TypeId} {w w' : World} {g : Nat} {F : List Nat} {S : Lg} {x : Int} {v : Value} (h : Settled T w g F S x v w') : Stp T g F w (settleS S x) w' := by
  obtain ⟨_, _, F', h1, h2, h3, _⟩ := h
  exact ⟨F', h1, h2, h3⟩
theorem Sn.step {T : TypeId} {w0 w w' : World} {g : Nat} {S' : Lg} {F : List Nat} (ha : Adds w0 [] F) (k : Keeps [] w0 w) (h : Stp T g F w S' w') : Sn T w0 w' g S' := by
  obtain ⟨F', h1, h2, h3⟩ := h
  exact ⟨F', h1, ha.trans h2 k.size, k.trans h3 ha⟩
theorem Sn.keep {T : TypeId} {w0 w w' : World} {g : Nat} {S : Lg} (h : Sn T w0 w g S) (k : Keeps [] w w') : Sn T w0 w' g S := by
  obtain ⟨F, h1, h2, h3⟩ := h
  exact ⟨F, h1.keep0 k, h2, h3.trans' k⟩
theorem Sn.keeps {T : TypeId} {w0 w : World} {g : Nat} {S : Lg} (h : Sn T w0 w g S) : Keeps [] w0 w := by
  obtain ⟨F, h1, h2, h3⟩ := h
  exact h3
theorem Sn.ok {T : TypeId} {w0 w : World} {g : Nat} {S : Lg} (h : Sn T w0 w g S) : S.ok := by
  obtain ⟨F, h1, h2, h3⟩ := h
  exact h1.ok
theorem Pr.left {T U : TypeId} {w0 w w' : World} {g h : Nat} {S' M : Lg} {F G : List Nat} (hm : IsLg U w h G M) (hap : Apart F G) (ha : Adds w0 [] F) (hb : Adds w0 [] G) (k : Keeps [] w0 w) (hs : Stp T g F w S' w') : Pr T U w0 w' g h S' M := by
  obtain ⟨F', h1, h2, h3⟩ := hs
  exact ⟨F', G, h1, hm.keep h3 hap.symm, hap.adds h2 hm.all, ha.trans h2 k.size, hb, k.trans h3 ha⟩
theorem Pr.right {T U : TypeId} {w0 w w' : World} {g h : Nat} {S M' : Lg} {F G : List Nat} (hm : IsLg T w g F S) (hap : Apart F G) (ha : Adds w0 [] F) (hb : Adds w0 [] G) (k : Keeps [] w0 w) (hs : Stp U h G w M' w') : Pr T U w0 w' g h S M' := by
  obtain ⟨G', h1, h2, h3⟩ := hs
  exact ⟨F, G', hm.keep h3 hap, h1, (hap.symm.adds h2 hm.all).symm, ha, hb.trans h2 k.size, k.trans h3 hb⟩
theorem Pr.keep {T U : TypeId} {w0 w w' : World} {g h : Nat} {S M : Lg} (hp : Pr T U w0 w g h S M) (k : Keeps [] w w') : Pr T U w0 w' g h S M := by
  obtain ⟨F, G, h1, h2, h3, h4, h5, h6⟩ := hp
  exact ⟨F, G, h1.keep0 k, h2.keep0 k, h3, h4, h5, h6.trans' k⟩
theorem Pr.keeps {T U : TypeId} {w0 w : World} {g h : Nat} {S M : Lg} (hp : Pr T U w0 w g h S M) : Keeps [] w0 w := by
  obtain ⟨F, G, h1, h2, h3, h4, h5, h6⟩ := hp
  exact h6
theorem Sn.take {w0 w : World} {g : Nat} {S : Lg} (h : Sn 66 w0 w g S) (e : Ev) (he1 : -9223372036854775808 ≤ e.t) (he2 : e.t ≤ 9223372036854775807) :
    Calls Try.prog 27 #[.pointer (some ⟨g, 0, none⟩), ev e] w fun r w' => r = .returned (.int .i64 (takeE S e)) ∧ Sn 66 w0 w' g (takeS S e) := by
  obtain ⟨F, h1, h2, h3⟩ := h
  exact (take_any g F S e w h1 he1 he2).mono fun r w' ⟨a, b⟩ => ⟨a, Sn.step h2 h3 b.stp⟩
theorem Sn.settle {w0 w : World} {g : Nat} {S : Lg} (h : Sn 66 w0 w g S) (x : Int) (hx1 : -9223372036854775808 ≤ x) (hx2 : x ≤ 9223372036854775807) :
    Calls Try.prog 28 #[.pointer (some ⟨g, 0, none⟩), .int .i64 x] w fun r w' => ∃ v, r = .returned v ∧ EO w' v (settleR S x) ∧ New w v ∧ Sn 66 w0 w' g (settleS S x) := by
  obtain ⟨F, h1, h2, h3⟩ := h
  exact (settle_any g F S x w h1 hx1 hx2).mono fun r w' ⟨v, a, b⟩ => ⟨v, a, b.1, b.2.1, Sn.step h2 h3 b.stp⟩
theorem Sn.events {w0 w : World} {g : Nat} {S : Lg} (h : Sn 66 w0 w g S) :
    Calls Try.prog 25 #[.pointer (some ⟨g, 0, none⟩)] w fun r w' => ∃ v, r = .returned v ∧ EO w' v S.L ∧ New w v ∧ Sn 66 w0 w' g S ∧ Keeps [] w w' := by
  have h' := h
  obtain ⟨F, h1, h2, h3⟩ := h
  exact (events_any g F S w h1).mono fun r w' ⟨v, a, b, c, d⟩ => ⟨v, a, b, c, h'.keep d, d⟩
theorem Sn.settled {w0 w : World} {g : Nat} {S : Lg} (h : Sn 66 w0 w g S) :
    Calls Try.prog 29 #[.pointer (some ⟨g, 0, none⟩)] w fun r w' => r = .returned (.int .i64 ((S.op : Int) - 1)) ∧ w = w' := by
  obtain ⟨F, h1, h2, h3⟩ := h
  exact settled_any g F S w h1
theorem Sn.new {w w' : World} (h : IsLg 66 w' w.heap.size [w.heap.size] Lg.new) (k : Keeps [] w w') : Sn 66 w w' w.heap.size Lg.new := ⟨_, h, fun i hi => .inr (by simp at hi; omega), k⟩
theorem new_sn (w : World) : Calls Try.prog 21 #[] w fun r w' => r = .returned (.pointer (some ⟨w.heap.size, 0, none⟩)) ∧ Sn 66 w w' w.heap.size Lg.new :=
  (new_any w).mono fun _ _ ⟨a, b, c⟩ => ⟨a, Sn.new b c⟩
/-- A store of a whole event over a block. -/
theorem wpList_store_ev {w : World} {ops : Array Oper} {rest : List Oper} {o : Oper} {a : Act} {Q : Exit → Act → World → Prop} (hgd : o.guard = none) (p y : Operand) (ho : o.op = .store 27 p y) (g : Nat) (e : Ev) (hp : a.eval p = .pointer (some ⟨g, 0, none⟩)) (hy : a.eval y = ev e) (t : TypeId) (cur : Array Value) (hg : Bk w g t cur) (hs : cur.size = 18)
    (h : wpList Try.prog ops Q rest (a.put o.dst undef) (w.setRow g (ec e).toArray)) : wpList Try.prog ops Q (o :: rest) a w := by
  have hst := run_storeCells_at Try.prog g 0 t (ec e) 0 cur w hg (by rw [ec_length, hs]; omega) (ec_one e)
  rw [Nat.add_zero, List.take_zero, List.nil_append, Nat.zero_add, ec_length, List.drop_eq_nil_of_le (by rw [Array.length_toList, hs]; exact Nat.le_refl _), List.append_nil] at hst
  refine wpList_plain hgd fun _ hK => ?_
  unfold Oper.wp execOp
  simp [ho, hp, hy, Instr.storeAt, Instr.sureAddr, storeVar, ev, Value.cells, hst]
  exact hK _ _ h
end Go.Proofs.Ytcfglfnncpcfoaa

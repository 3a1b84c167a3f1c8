/- Two logs of one kind and slices of events that lie in neither; plain laws on Settle. -/
import Derived.Test.YtcfglfnncpcfoaaDbl
namespace Go.Proofs.Ytcfglfnncpcfoaa
open Go.RowKit
def Sv (w0 w : World) (g h : Nat) (S M : Lg) (V : List (Value × List Ev)) : Prop := ∃ F G, IsLg 66 w g F S ∧ IsLg 66 w h G M ∧ Apart F G ∧ Adds w0 [] F ∧ Adds w0 [] G ∧ Keeps [] w0 w ∧ ∀ p, p ∈ V → EO w p.1 p.2 ∧ ∀ b, p.1.ownBlock = some b → b ∉ F ∧ b ∉ G ∧ w0.heap.size ≤ b
theorem Sv.of {w0 w : World} {g h : Nat} {S M : Lg} {B : List Bx} (d : Du w0 w g h S M B) : Sv w0 w g h S M [] := by
  obtain ⟨F, G, h1, h2, h3, h4, h5, h6, _⟩ := d
  exact ⟨F, G, h1, h2, h3, h4, h5, h6, fun p hp => by cases hp⟩
theorem Sv.du {w0 w : World} {g h : Nat} {S M : Lg} {V : List (Value × List Ev)} (d : Sv w0 w g h S M V) : Du w0 w g h S M [] := by
  obtain ⟨F, G, h1, h2, h3, h4, h5, h6, _⟩ := d
  exact ⟨F, G, h1, h2, h3, h4, h5, h6, fun p hp => by cases hp⟩
theorem Sv.eo {w0 w : World} {g h : Nat} {S M : Lg} {V : List (Value × List Ev)} (d : Sv w0 w g h S M V) {v : Value} {Q : List Ev} (hp : (v, Q) ∈ V) : EO w v Q := by
  obtain ⟨F, G, _, _, _, _, _, _, hV⟩ := d
  exact (hV _ hp).1
theorem Sv.less {w0 w : World} {g h : Nat} {S M : Lg} {V U : List (Value × List Ev)} (d : Sv w0 w g h S M V) (hs : ∀ p, p ∈ U → p ∈ V) : Sv w0 w g h S M U := by
  obtain ⟨F, G, h1, h2, h3, h4, h5, h6, hV⟩ := d
  exact ⟨F, G, h1, h2, h3, h4, h5, h6, fun p hp => hV p (hs p hp)⟩
theorem Sv.nil {w0 w : World} {g h : Nat} {S M : Lg} {V : List (Value × List Ev)} (d : Sv w0 w g h S M V) : Sv w0 w g h S M ((.slice none 0 0, []) :: V) := by
  obtain ⟨F, G, h1, h2, h3, h4, h5, h6, hV⟩ := d
  refine ⟨F, G, h1, h2, h3, h4, h5, h6, fun p hp => ?_⟩
  rcases List.mem_cons.1 hp with rfl | hp
  · exact ⟨eo_nil w, fun b hb => by simp [Value.ownBlock] at hb⟩
  · exact hV p hp
theorem Sv.keep {w0 w w' : World} {g h : Nat} {S M : Lg} {V : List (Value × List Ev)} (d : Sv w0 w g h S M V) (k : Keeps [] w w') : Sv w0 w' g h S M V := by
  obtain ⟨F, G, h1, h2, h3, h4, h5, h6, hV⟩ := d
  exact ⟨F, G, h1.keep0 k, h2.keep0 k, h3, h4, h5, h6.trans' k, fun p hp => ⟨(hV p hp).1.keep k (by simp), (hV p hp).2⟩⟩
theorem Sv.new {w0 w w' : World} {g h : Nat} {S M : Lg} {V : List (Value × List Ev)} (d : Sv w0 w g h S M V) (k : Keeps [] w w') {v : Value} {Q : List Ev} (e : EO w' v Q) (n : New w v) : Sv w0 w' g h S M ((v, Q) :: V) := by
  obtain ⟨F, G, h1, h2, h3, h4, h5, h6, hV⟩ := d
  refine ⟨F, G, h1.keep0 k, h2.keep0 k, h3, h4, h5, h6.trans' k, fun p hp => ?_⟩
  rcases List.mem_cons.1 hp with rfl | hp
  · refine ⟨e, fun b hb => ⟨fun hm => ?_, fun hm => ?_, Nat.le_trans h6.size (n b hb)⟩⟩
    · have := n b hb
      have := h1.all _ hm
      omega
    · have := n b hb
      have := h2.all _ hm
      omega
  · exact ⟨(hV p hp).1.keep k (by simp), (hV p hp).2⟩
theorem Sv.eventsL {w0 w : World} {g h : Nat} {S M : Lg} {V : List (Value × List Ev)} (d : Sv w0 w g h S M V) : Calls Try.prog 25 #[.pointer (some ⟨g, 0, none⟩)] w fun r w' => ∃ v, r = .returned v ∧ Sv w0 w' g h S M ((v, S.L) :: V) :=
  d.du.eventsL.mono fun _ _ ⟨v, a, b, c, k⟩ => ⟨v, a, d.new k b c⟩
theorem Sv.eventsR {w0 w : World} {g h : Nat} {S M : Lg} {V : List (Value × List Ev)} (d : Sv w0 w g h S M V) : Calls Try.prog 25 #[.pointer (some ⟨h, 0, none⟩)] w fun r w' => ∃ v, r = .returned v ∧ Sv w0 w' g h S M ((v, M.L) :: V) :=
  d.du.eventsR.mono fun _ _ ⟨v, a, b, c, k⟩ => ⟨v, a, d.new k b c⟩
theorem Sv.takeL {w0 w : World} {g h : Nat} {S M : Lg} {V : List (Value × List Ev)} (d : Sv w0 w g h S M V) (e : Ev) (he1 : -9223372036854775808 ≤ e.t) (he2 : e.t ≤ 9223372036854775807) :
    Calls Try.prog 27 #[.pointer (some ⟨g, 0, none⟩), ev e] w fun r w' => r = .returned (.int .i64 (takeE S e)) ∧ Sv w0 w' g h (takeS S e) M V := by
  obtain ⟨F, G, h1, h2, h3, h4, h5, h6, hV⟩ := d
  refine (take_any g F S e w h1 he1 he2).mono fun r w' ⟨a, b⟩ => ⟨a, ?_⟩
  obtain ⟨F', l, ad, k⟩ := b
  refine ⟨F', G, l, h2.keep k h3.symm, h3.adds ad h2.all, h4.trans ad h6.size, h5, h6.trans k h4, fun p hp => ?_⟩
  have hq := hV p hp
  refine ⟨hq.1.keep k (fun b hb => (hq.2 b hb).1), fun b hb => ⟨fun hm => (ad _ hm).elim (hq.2 b hb).1 (fun hh => ?_), (hq.2 b hb).2⟩⟩
  have := Own.lt hq.1 b hb
  omega
theorem Sv.settleL {w0 w : World} {g h : Nat} {S M : Lg} {V : List (Value × List Ev)} (d : Sv w0 w g h S M V) (x : Int) (hx1 : -9223372036854775808 ≤ x) (hx2 : x ≤ 9223372036854775807) :
    Calls Try.prog 28 #[.pointer (some ⟨g, 0, none⟩), .int .i64 x] w fun r w' => ∃ v, r = .returned v ∧ Sv w0 w' g h (settleS S x) M ((v, settleR S x) :: V) := by
  obtain ⟨F, G, h1, h2, h3, h4, h5, h6, hV⟩ := d
  refine (settle_any g F S x w h1 hx1 hx2).mono fun r w' ⟨v, a, e, n, F', l, ad, k, ho⟩ => ⟨v, a, F', G, l, h2.keep k h3.symm, h3.adds ad h2.all, h4.trans ad h6.size, h5, h6.trans k h4, fun p hp => ?_⟩
  rcases List.mem_cons.1 hp with rfl | hp
  · refine ⟨e, fun b hb => ⟨ho b hb, fun hm => ?_, Nat.le_trans h6.size (n b hb)⟩⟩
    have h7 := n b hb
    have h8 := h2.all _ hm
    omega
  · have hq := hV p hp
    refine ⟨hq.1.keep k (fun b hb => (hq.2 b hb).1), fun b hb => ⟨fun hm => (ad _ hm).elim (hq.2 b hb).1 (fun hh => ?_), (hq.2 b hb).2⟩⟩
    have := Own.lt hq.1 b hb
    omega
theorem Sv.settled {w0 w : World} {g h : Nat} {S M : Lg} {V : List (Value × List Ev)} (d : Sv w0 w g h S M V) : Calls Try.prog 29 #[.pointer (some ⟨g, 0, none⟩)] w fun r w' => r = .returned (.int .i64 ((S.op : Int) - 1)) ∧ w = w' := by
  obtain ⟨F, G, h1, _⟩ := d
  exact settled_any g F S w h1
/-- Behind an append to one of the slices. -/
theorem Sv.grown {w0 w w' : World} {g h : Nat} {S M : Lg} {V : List (Value × List Ev)} (d : Sv w0 w g h S M V) {v v' : Value} {Q R : List Ev} (hp : (v, Q) ∈ V) (e : EO w' v' R) (hg : w.grownBy w' v.ownBlock) (hb : v'.ownBlock = v.ownBlock ∨ v'.ownBlock = some w.heap.size) : Sv w0 w' g h S M [(v', R)] := by
  obtain ⟨F, G, h1, h2, h3, h4, h5, h6, hV⟩ := d
  have hq := (hV _ hp).2
  have k : Keeps v.ownBlock.toList w w' := Keeps.of_grown hg (fun k hk => by simp [hk])
  refine ⟨F, G, h1.keep k (fun i hi hm => ?_), h2.keep k (fun i hi hm => ?_), h3, h4, h5, h6.trans k (fun i hi => .inr ?_), fun p hp => ?_⟩
  · exact (hq i (by simpa using hm)).1 hi
  · exact (hq i (by simpa using hm)).2.1 hi
  · exact (hq i (by simpa using hi)).2.2
  · simp at hp
    subst hp
    refine ⟨e, fun b hb' => ?_⟩
    rcases hb with hb | hb
    · exact hq b (by rw [← hb]; exact hb')
    · have hb2 : v'.ownBlock = some b := hb'
      rw [hb] at hb2
      injection hb2 with hb2
      subst hb2
      refine ⟨fun hm => ?_, fun hm => ?_, h6.size⟩
      · have := h1.all _ hm
        omega
      · have := h2.all _ hm
        omega
/-- What a Settle gives has its time up to then, and the log is later. -/
theorem settle_late {S : Lg} (h : S.ok) {x : Int} {e : Ev} (he : e ∈ settleR S x) : e.t ≤ x ∧ e.t < (settleS S x).op := by
  unfold settleR at he
  unfold settleS
  by_cases hx : x < S.op
  · rw [if_pos hx] at he
    cases he
  · rw [if_neg hx] at he ⊢
    obtain ⟨i, hi, rfl⟩ := List.getElem_of_mem he
    rw [List.length_take] at hi
    rw [List.getElem_take]
    have hp := (cutN_parts _ _ (h.srt.mono_t x)).2 i (by omega)
    have h2 := hp.2 (by unfold upto at hi; omega)
    simp only [decide_eq_true_eq] at h2
    refine ⟨h2, ?_⟩
    show _ < (((x + 1).toNat : Nat) : Int)
    omega
theorem settle_step {S M : Lg} {Q : List Ev} {last x : Int} (hq : Q ++ S.L = M.L) (hl : (S.op : Int) = last + 1) : (Q ++ settleR S x) ++ (settleS S x).L = M.L ∧ ((settleS S x).op : Int) = max last x + 1 := by
  unfold settleR settleS
  by_cases hx : x < S.op
  · rw [if_pos hx, if_pos hx, List.append_nil]
    exact ⟨hq, by omega⟩
  · rw [if_neg hx, if_neg hx]
    refine ⟨?_, ?_⟩
    · show (Q ++ S.L.take _) ++ S.L.drop _ = _
      rw [List.append_assoc, List.take_append_drop]
      exact hq
    · show (((x + 1).toNat : Nat) : Int) = _
      omega
theorem wpList_store_i64 {w : World} {ops : Array Oper} {rest : List Oper} {o : Oper} {a : Act} {Q : Exit → Act → World → Prop} (hgd : o.guard = none) (p y : Operand) (ho : o.op = .store 3 p y) (b f : Nat) (x : Int) (u : Value) (hp : a.eval p = .pointer (some ⟨b, f, none⟩)) (hy : a.eval y = .int .i64 x) (hc : w.cell? ⟨b, f, none⟩ = some u) (hf : w.frozen? ⟨b, f, none⟩ = false)
    (h : wpList Try.prog ops Q rest (a.put o.dst undef) (w.setCell ⟨b, f, none⟩ (.int .i64 x))) : wpList Try.prog ops Q (o :: rest) a w := by
  refine wpList_plain hgd fun _ hK => ?_
  unfold Oper.wp execOp
  simp only [ho, hp, hy, Instr.storeAt, Instr.sureAddr, storeVar]
  go_simp
  exact hK _ _ h
theorem wpList_append_srcG {ops : Array Oper} {rest : List Oper} {o : Oper} {a : Act} {w : World} {Q : Exit → Act → World → Prop} (hw : Region.wanted o (yielded ops a.tmps) = true) (s x : Operand) (t : TypeId)
    (ho : o.op = .call { callee := .builtin .append, args := #[s, x], argTypes := #[t, t] })
    (e : TypeId) (i : TypeInfo) (z : Value) (sz bytes : Nat) (ht : Try.prog.underlying t = some (.slice e)) (hi : Try.prog.info? e = some i) (hz : i.zero = some z)
    (hsize : i.size = sz) (hby : i.bytes = bytes) (hzs : z.cells.size = sz) (hsz : 0 < sz)
    (v : Value) (n : Nat) (xs : List Value) (hs : a.eval s = v) (hown : Own w e sz v n xs)
    (y : Value) (m : Nat) (news : List Value) (hy : a.eval x = y) (hsrc : Src w sz y m news) (h1 : ∀ u ∈ news, u.oneCell' = true)
    (h63 : n + m ≤ maxLen) (hbytes : (n + m) * bytes ≤ 140737488355328)
    (h : ∀ v' w', Own w' e sz v' (n + m) (xs ++ news) → w.grownBy w' v.ownBlock → (v'.ownBlock = v.ownBlock ∨ v'.ownBlock = some w.heap.size) → wpList Try.prog ops Q rest (a.put o.dst v') w') :
    wpList Try.prog ops Q (o :: rest) a w :=
  wpList_step fun _ hK => by
    rw [if_pos hw]
    exact wp_append_src w s x t ho e i z sz bytes ht hi hz hsize hby hzs hsz v n xs hs hown y m news hy hsrc h1 h63 hbytes fun v' w' h2 h3 h4 => hK _ _ (h v' w' h2 h3 h4)
end Go.Proofs.Ytcfglfnncpcfoaa

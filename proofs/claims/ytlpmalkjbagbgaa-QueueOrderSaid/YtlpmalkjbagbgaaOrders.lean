/- The law QueueOrder. -/
import Derived.Test.YtlpmalkjbagbgaaChanges
import Derived.Test.YtlpmalkjbagbgaaOrder
import Derived.Test.YtlpmalkjbagbgaaOpen
import Derived.Deep.DeepCutAuto
import Derived.Deep.MidRow
namespace Go.Proofs.Ytlpmalkjbagbgaa
open Go.RowKit Go.Shelf
/-- append of whatever holds onto a slice literal without elements. -/
theorem wpList_copyall {ops : Array Oper} {rest : List Oper} {o : Oper} {a : Act} {Q : Exit → Act → World → Prop} (hgd : o.guard = none) (s x : Operand)
    (ho : o.op = .call { callee := .builtin .append, args := #[s, x], argTypes := #[22, 22] }) (w0 wr : World) (A : Option Addr) (c n : Nat) (M : List Hold) (hs : a.eval s = .slice (some ⟨wr.heap.size, 0, none⟩) 0 0) (hx : a.eval x = .slice A n c)
    (hn : M.length = n) (hk1 : Keeps [] w0 wr) (hM : HS wr (.slice A M.length c) M) (hl : M.length ≤ 200)
    (h : ∀ v' w', Hid (HO w' v' M) → Hid (New w0 v') → Hid (Keeps [] w0 w') → wpList Try.prog ops Q rest (a.put o.dst v') w') :
    wpList Try.prog ops Q (o :: rest) a (wr.alloc (.cells #[] 28)) := by
  subst hn
  obtain ⟨i0, hi, hz0, hz1, hz2⟩ := info_parts Try.info28b
  have hO : HO (wr.alloc (.cells #[] 28)) (.slice (some ⟨wr.heap.size, 0, none⟩) 0 0) [] := own_of (Bk.new wr 28 #[]) rfl (Nat.le_refl _) (Nat.zero_le _) rfl rfl
  refine wpList_append_src _ hgd _ _ _ ho 28 i0 _ 10 80 Try.und22 hi hz0 hz1 hz2 rfl (by omega) (.slice (some ⟨wr.heap.size, 0, none⟩) 0 0) _ _ hs hO (.slice A M.length c) M.length (hcs M) hx (Src.keep hM ((Keeps.refl [] wr).alloc _) (by simp)) (fun u hu => hcs_one M u hu) (by unfold maxLen; simp; omega) (by simp; omega) ?_
  intro v' w2 hown hgrow hblk
  obtain ⟨hK2, hN2⟩ := step_own (w := w0) (hk1.alloc _) (fun g hg => by simp [Value.ownBlock] at hg; have := hk1.size; omega) hgrow hblk
  refine h v' w2 ?_ hN2 hK2
  show Own w2 28 10 v' M.length (hcs M)
  simpa [show hcs [] = [] from rfl] using hown
/-- The holds as the law makes them. -/
def nrm (i : Nat) (h : Hold) : Hold := { h with id := (i : Int) + 1, item := if h.item < 0 then 0 else h.item }
def updX (M : List Hold) (k : Nat) : List Hold := (M.take k).mapIdx nrm ++ M.drop k
theorem updX_len (M : List Hold) (k : Nat) : (updX M k).length = M.length := by simp [updX]; omega
theorem updX_zero (M : List Hold) : updX M 0 = M := by simp [updX]
theorem updX_end (M : List Hold) : updX M M.length = M.mapIdx nrm := by simp [updX]
theorem updX_at {M : List Hold} {k : Nat} (hk : k < M.length) : ∃ h : k < (updX M k).length, (updX M k)[k] = M[k] := by
  refine ⟨by rw [updX_len]; exact hk, ?_⟩
  unfold updX
  rw [List.getElem_append_right (by simp; omega)]
  simp [Nat.min_eq_left (Nat.le_of_lt hk)]
theorem updX_set {M : List Hold} {k : Nat} (hk : k < M.length) : (updX M k).set k (nrm k M[k]) = updX M (k + 1) := by
  unfold updX
  rw [List.take_succ_eq_append_getElem hk, List.mapIdx_append, List.set_append_right _ _ (by simp; omega), List.drop_eq_getElem_cons hk]
  simp only [List.length_mapIdx, List.length_take, Nat.min_eq_left (Nat.le_of_lt hk), Nat.sub_self, List.set_cons_zero, List.append_assoc]
  simp
theorem X_ids (M : List Hold) : (M.mapIdx nrm).Pairwise fun a b => a.id ≠ b.id := by
  rw [List.pairwise_iff_getElem]
  intro i j hi hj hij
  simp only [List.getElem_mapIdx, nrm]
  omega
theorem X_ok (M : List Hold) : ∀ x ∈ M.mapIdx nrm, ¬ (x.id < 1 ∨ x.item < 0) := by
  intro x hx
  obtain ⟨i, hi, rfl⟩ := List.getElem_of_mem hx
  simp only [List.getElem_mapIdx, nrm]
  split <;> omega
abbrev OX (w : World) (A : Option Addr) (c : Nat) (M : List Hold) (k : Nat) : Prop := Own w 28 10 (.slice A M.length c) M.length (hcs (updX M k))
theorem OX.step {w0 wr : World} {g c k : Nat} {M : List Hold} {m : Int} (h : OX wr (some ⟨g, 0, none⟩) c M k) (hk : k < M.length) (hm : (if M[k].item < 0 then 0 else M[k].item) = m) (hK : Keeps [] w0 wr) (hg : w0.heap.size ≤ g) :
    OX ((wr.setCell ⟨g, k * 10, none⟩ (.int .i64 ((k : Int) + 1))).setCell ⟨g, k * 10 + 2, none⟩ (.int .i64 m)) (some ⟨g, 0, none⟩) c M (k + 1) ∧ Keeps [] w0 ((wr.setCell ⟨g, k * 10, none⟩ (.int .i64 ((k : Int) + 1))).setCell ⟨g, k * 10 + 2, none⟩ (.int .i64 m)) := by
  subst hm
  obtain ⟨hkk, hat⟩ := updX_at hk
  have h1 := Own.set h (k * 10 + 0) (.int .i64 ((k : Int) + 1))
  rw [hcs_set (updX M k) k hkk 0 _ { M[k] with id := (k : Int) + 1 } (by omega) (by rw [hat]; rfl)] at h1
  have h2 := Own.set h1 (k * 10 + 2) (.int .i64 (if M[k].item < 0 then 0 else M[k].item))
  rw [hcs_set _ k (by simpa using hkk) 2 _ (nrm k M[k]) (by omega) (by simp only [List.getElem_set_self]; rfl), List.set_set, updX_set hk] at h2
  exact ⟨h2, (hK.setCell (.inr hg) _).setCell (.inr hg) _⟩
theorem OX.cells {wr : World} {A : Option Addr} {c : Nat} {M : List Hold} {k : Nat} (h : OX wr A c M k) (hk : k < M.length) :
    ∃ g cur, A = some ⟨g, 0, none⟩ ∧ wr.cell? ⟨g, k * 10, none⟩ = some (.int .i64 M[k].id) ∧ wr.cell? ⟨g, k * 10 + 2, none⟩ = some (.int .i64 M[k].item) ∧ Bk wr g 28 cur := by
  obtain ⟨hkk, hat⟩ := updX_at hk
  obtain ⟨g, c', cur, hv, h1, h2, hbk, hsz, htk, hcell⟩ := Own.head h (by omega)
  injection hv with hv1 hv2 hv3
  obtain ⟨c0, c1, c2, -⟩ := hold_cells (b := g) (o := 0) (fun j u hu => by rw [Nat.zero_add]; exact hcell j u hu) k hkk
  rw [hat] at c0 c2
  simp only [Nat.zero_add] at c0 c2
  exact ⟨g, cur, hv1, c0, c2, hbk⟩
/-- Cells over a list, from a place on. -/
def setL : List Value → Nat → List Value → List Value
  | xs, _, [] => xs
  | xs, o, v :: r => setL (xs.set o v) (o + 1) r
theorem setL_mid : ∀ (vs q p r : List Value), q.length = vs.length → setL (p ++ q ++ r) p.length vs = p ++ vs ++ r
  | [], q, p, r, h => by
    obtain rfl : q = [] := List.eq_nil_of_length_eq_zero (by simpa using h)
    rfl
  | v :: vs, [], p, r, h => by simp at h
  | v :: vs, a :: q, p, r, h => by
    have e : (p ++ (a :: q) ++ r).set p.length v = (p ++ [v]) ++ q ++ r := by
      rw [List.append_assoc, List.set_append_right _ _ (by omega)]
      simp
    have ih := setL_mid vs q (p ++ [v]) r (by simpa using h)
    rw [setL, e]
    rw [List.length_append, List.length_singleton] at ih
    rw [ih]
    simp
theorem hcs_setL (L : List Hold) (k : Nat) (hk : k < L.length) (h' : Hold) : setL (hcs L) (k * 10) (hc h') = hcs (L.set k h') := by
  have e : hcs L = hcs (L.take k) ++ hc L[k] ++ hcs (L.drop (k + 1)) := by
    conv => lhs; rw [← List.take_append_drop k L, List.drop_eq_getElem_cons hk]
    rw [hcs_append, List.append_assoc]
    rfl
  have hl : (hcs (L.take k)).length = k * 10 := by simp [Nat.min_eq_left (Nat.le_of_lt hk)]
  rw [e, ← hl, setL_mid (hc h') (hc L[k]) _ _ rfl, List.set_eq_take_append_cons_drop, if_pos hk, hcs_append, List.append_assoc]
  rfl
theorem Own.setCells {e sz n c g : Nat} : ∀ (vs : List Value) (o : Nat) {w : World} {xs : List Value}, Own w e sz (.slice (some ⟨g, 0, none⟩) n c) n xs → Own (w.setCells g o vs) e sz (.slice (some ⟨g, 0, none⟩) n c) n (setL xs o vs)
  | [], _, _, _, h => h
  | v :: r, o, _, _, h => Own.setCells r (o + 1) (Own.set h o v)
theorem Keeps.setCells {F : List Nat} {a : World} {g : Nat} (hg : g ∈ F ∨ a.heap.size ≤ g) : ∀ (vs : List Value) (o : Nat) {w : World}, Keeps F a w → Keeps F a (w.setCells g o vs)
  | [], _, _, h => h
  | v :: r, o, _, h => Keeps.setCells hg r (o + 1) (h.setCell (p := ⟨g, o, none⟩) hg v)
theorem Try.size28 : (Try.prog.info? 28).map (·.size) = some 10 := by kernel_rfl
/-- A hold stored into a slice of the call's own, in a region that draws its order. -/
theorem step_store_hold {ops : Array Oper} {o : Oper} {a : Act} {K : Act → World → Prop} {Q : Exit → Act → World → Prop} {E : Prop} (hgd : o.guard = none) (x y : Operand) (ho : o.op = .store 28 x y) (w0 w : World) (g k c n : Nat) (L : List Hold) (h' : Hold)
    (hx : a.eval x = .pointer (some ⟨g, k * 10, none⟩)) (hy : a.eval y = .agg (hc h').toArray) (hO : Own w 28 10 (.slice (some ⟨g, 0, none⟩) n c) n (hcs L)) (hn : L.length = n) (hk : k < n) (hK : Keeps [] w0 w) (hg : w0.heap.size ≤ g)
    (h : ∀ w', Hid (Own w' 28 10 (.slice (some ⟨g, 0, none⟩) n c) n (hcs (L.set k h'))) → Hid (Keeps [] w0 w') → K (a.put o.dst undef) w') :
    if Region.wanted o (yielded ops a.tmps) = true then Oper.wp Try.prog o a w K Q else E := by
  have hw : Region.wanted o (yielded ops a.tmps) = true := by simp [Region.wanted, hgd]
  rw [if_pos hw]
  subst hn
  obtain ⟨g', c', cur, hv, h1, h2, hbk, hsz, htk, hcell⟩ := Own.head hO (by omega)
  injection hv with hv1 _ _
  injection hv1 with hv1
  injection hv1 with hv1 _ _
  subst hv1
  refine wp_store_mid 28 x y ho g (k * 10) (hc h').toArray hx hy (fun j hj => ⟨?_, hbk.free _⟩) (by rw [Try.size28]; rfl) (by simpa using fun u hu => hcs_one [h'] u (by simpa [hcs] using hu)) ?_
  · have hj' : j < 10 := by simpa using hj
    rw [hbk.cell, Array.getElem?_eq_getElem (by rw [hsz]; omega)]
    rfl
  · refine h _ ?_ (Keeps.setCells (.inr hg) _ _ hK)
    have := Own.setCells (hc h') (k * 10) hO
    rw [hcs_setL L k hk h'] at this
    exact this
end Go.Proofs.Ytlpmalkjbagbgaa

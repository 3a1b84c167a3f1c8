/- Arguments of a law, opened: a type made of integers, bools and strings alone (structs and arrays of these, however deep) is a list of such cells; a slice of such a type is a row of them. No condition. -/
import Derived.Test.YtppgddigcoojiaaMem
import Derived.ProofKit
import Derived.OpenShut
import Derived.ShutString
import Derived.ChangeOld
import Derived.SizedLaws
import Derived.Deep.Slices
namespace Go.Proofs.Ytppgddigcoojiaa
open Go.ChangeShapes Go.WideShapes Go.RowKit Go.Deep

/-- The cells of a value of a type, with their types. -/
def flat (P : Program) : Nat → TypeId → List (Nat × TypeId)
  | 0, t => [(0, t)]
  | n + 1, t => match P.underlying t with
    | some (.struct fs) => fs.toList.flatMap fun f => (flat P n f.type).map fun x => (f.offset + x.1, x.2)
    | some (.array k e) => (List.range k).flatMap fun i => (flat P n e).map fun x => (i * P.cellsOf e + x.1, x.2)
    | _ => [(0, t)]

/-- What a cell of a plain type holds. -/
def Leaf (P : Program) (t : TypeId) (v : Value) : Prop :=
  (∃ k n, P.underlying t = some (.int k) ∧ v = .int k n ∧ (Lit.int k n).wf = true) ∨ (∃ s, P.underlying t = some .string ∧ v = .string s ∧ s.size ≤ 140737488351232) ∨ (∃ b, P.underlying t = some .bool ∧ v = .bool b)

/-- Is it a plain type? -/
def plainT (P : Program) (t : TypeId) : Bool := match P.underlying t with | some (.int _) => true | some .string => true | some .bool => true | _ => false

section
variable {H : Type} {enc : TypeId × Value → H} {P : Program} {w : World} {base : Nat} {spare : Nat → Bool} {held : Bool}

theorem weightsAll_mem {e : TypeId} : ∀ {l : List (DataW H)} {i : Nat} {d : DataW H}, l[i]? = some d → ∀ n ∈ d.weights P e, n ∈ DataW.weightsAll P e l
  | x :: l, 0, d, h, n, hn => by
    simp at h; subst h
    simp [DataW.weightsAll, hn]
  | x :: l, i + 1, d, h, n, hn => by
    simp only [DataW.weightsAll, List.mem_append]
    exact .inr (weightsAll_mem (i := i) (by simpa using h) n hn)
  | [], i, d, h, n, hn => by simp at h

theorem leaf_of {t : TypeId} {fuel : Nat} {cs : List Value} {x : DataW H × List MemPlace} (hp : plainT P t = true) (h : DataW.trod enc P w base spare held fuel t cs = some x) (hz : ∀ n ∈ x.1.weights P t, n ≤ reachBytes) :
    ∃ v, cs = [v] ∧ Leaf P t v := by
  unfold plainT at hp
  split at hp
  · rename_i k hu
    obtain ⟨n, rfl, rfl, hw⟩ := DataW.trod_int hu h
    exact ⟨_, rfl, .inl ⟨k, n, hu, rfl, hw⟩⟩
  · rename_i hu
    obtain ⟨s, rfl, rfl, hw⟩ := DataW.trod_string hu h
    refine ⟨_, rfl, .inr (.inl ⟨s, hu, rfl, ?_⟩)⟩
    have := hz s.data.toList.length (by simp [DataW.weights])
    simpa [reachBytes] using this
  · rename_i hu
    obtain ⟨b, rfl, rfl⟩ := DataW.trod_bool hu h
    exact ⟨_, rfl, .inr (.inr ⟨b, hu, rfl⟩)⟩
  · cases hp

theorem flat_of : ∀ (n : Nat) {t : TypeId} {fuel : Nat} {cs : List Value} {x : DataW H × List MemPlace}, ((flat P n t).all fun y => plainT P y.2) = true → DataW.trod enc P w base spare held fuel t cs = some x →
    (∀ m ∈ x.1.weights P t, m ≤ reachBytes) → ∀ y ∈ flat P n t, ∃ v, cs[y.1]? = some v ∧ Leaf P y.2 v
  | 0, t, fuel, cs, x, hp, h, hz, y, hy => by
    simp only [flat, List.mem_singleton] at hy
    subst hy
    obtain ⟨v, rfl, hv⟩ := leaf_of (by simpa [flat] using hp) h hz
    exact ⟨v, rfl, hv⟩
  | n + 1, t, fuel, cs, x, hp, h, hz, y, hy => by
    unfold flat at hy hp
    split at hy
    · rename_i fs hu
      obtain ⟨xs, m, rfl, hx, hlen, hxl, hf⟩ := DataW.trod_struct hu h
      simp only [List.mem_flatMap, List.mem_map] at hy
      obtain ⟨f, hfm, z, hzm, rfl⟩ := hy
      obtain ⟨i, hi, hfi⟩ := List.getElem_of_mem hfm
      have hfi' : fs[i]? = some f := by simp at hi; simp [← hfi, hi]
      have hi' : i < xs.length := by rw [hxl]; simpa using hi
      have hfld := hf i f hfi'
      rw [List.getElem?_eq_getElem hi'] at hfld
      have hp' : ((flat P n f.type).all fun y => plainT P y.2) = true := by
        rw [List.all_eq_true] at hp ⊢
        intro q hq
        exact hp (f.offset + q.1, q.2) (by rw [hu]; exact List.mem_flatMap.2 ⟨f, hfm, List.mem_map.2 ⟨q, hq, rfl⟩⟩)
      obtain ⟨v, hv, hl⟩ := flat_of n hp' hfld (fun q hq => hz q (by
        rw [hx]
        simp only [DataW.weights, hu]
        exact DataW.weights_mem_each (j := i) (t := f.type) (d := xs[i].1) (by simp [hfi']) (by simp [hi']) q hq)) z hzm
      refine ⟨v, ?_, hl⟩
      rw [List.getElem?_take] at hv
      split at hv
      · rw [List.getElem?_drop] at hv; exact hv
      · cases hv
    · rename_i k e hu
      obtain ⟨xs, m, rfl, hx, hlen, hxl, hf⟩ := DataW.trod_array hu h
      simp only [List.mem_flatMap, List.mem_map, List.mem_range] at hy
      obtain ⟨i, hi, z, hzm, rfl⟩ := hy
      have hi' : i < xs.length := by rw [hxl]; exact hi
      have hfld := hf i hi
      rw [List.getElem?_eq_getElem hi'] at hfld
      have hp' : ((flat P n e).all fun y => plainT P y.2) = true := by
        rw [List.all_eq_true] at hp ⊢
        intro q hq
        exact hp (i * P.cellsOf e + q.1, q.2) (by rw [hu]; exact List.mem_flatMap.2 ⟨i, by simpa using hi, List.mem_map.2 ⟨q, hq, rfl⟩⟩)
      obtain ⟨v, hv, hl⟩ := flat_of n hp' hfld (fun q hq => hz q (by
        rw [hx]
        simp only [DataW.weights, hu]
        exact weightsAll_mem (i := i) (d := xs[i].1) (by simp [hi']) q hq)) z hzm
      refine ⟨v, ?_, hl⟩
      rw [List.getElem?_take] at hv
      split at hv
      · rw [List.getElem?_drop] at hv; exact hv
      · cases hv
    · simp only [List.mem_singleton] at hy
      subst hy
      have hp' : plainT P t = true := by
        rename_i h1 h2
        split at hp
        · rename_i fs hu; exact absurd hu (h1 fs)
        · rename_i k e hu; exact absurd hu (h2 k e)
        · simpa using hp
      obtain ⟨v, rfl, hv⟩ := leaf_of hp' h hz
      exact ⟨v, rfl, hv⟩

/-- A slice of plain cells that came in: its rows. -/
theorem open_rows {t e : TypeId} {v : Value} {d : DataW H} {p : List MemPlace} {r : Reach} {b0 : Nat} (n : Nat) (ht : P.underlying t = some (.slice e)) (hp : ((flat P n e).all fun y => plainT P y.2) = true)
    (hok : Value.okWide P w r b0 t v) (h : DataW.Trod enc P w base spare held t v d p) (hz : ∀ m ∈ d.weights P t, m ≤ reachBytes) :
    ∃ A len cap, ∃ css : List (List Value), v = .slice A len cap ∧ css.length = len ∧ Src w (P.cellsOf e) v len css.flatten ∧ len * P.bytesOf e ≤ reachBytes ∧
      ∀ cs ∈ css, cs.length = P.cellsOf e ∧ ∀ y ∈ flat P n e, ∃ u, cs[y.1]? = some u ∧ Leaf P y.2 u := by
  obtain ⟨A, len, cap, rfl⟩ := okWide_slice ht hok
  obtain ⟨fuel, hf⟩ := h
  rcases open_slice ht hf with ⟨hcs, _⟩ | ⟨a, len', cap', m, n', D, Pl, hcs, _, hl, _, hm, hx, hi⟩
  · simp [Value.cells] at hcs
    obtain ⟨rfl, rfl, rfl⟩ := hcs
    exact ⟨none, 0, 0, [], rfl, rfl, ⟨by simp, _, _, rfl, fun _ => rfl, fun _ h => by cases h⟩, by simp, by simp⟩
  · simp [Value.cells] at hcs
    obtain ⟨rfl, rfl, rfl⟩ := hcs
    simp only [Prod.mk.injEq] at hx
    have hlm : len ≤ m := by rw [hm]; split <;> omega
    have hch : ∀ i, ∃ cs : List Value, i < len → w.cells? base (a.add (i * P.cellsOf e)) (P.cellsOf e) = some cs ∧ DataW.trod enc P w base spare held n' e cs = some (D i, Pl i) := by
      intro i
      by_cases hil : i < len
      · obtain ⟨cs, h1, h2⟩ := hi i (by omega)
        exact ⟨cs, fun _ => ⟨h1, h2⟩⟩
      · exact ⟨[], fun h => absurd h hil⟩
    let C : Nat → List Value := fun i => Classical.choose (hch i)
    have hC : ∀ i, i < len → w.cells? base (a.add (i * P.cellsOf e)) (P.cellsOf e) = some (C i) ∧ DataW.trod enc P w base spare held n' e (C i) = some (D i, Pl i) := fun i => Classical.choose_spec (hch i)
    have hCl : ∀ i, i < len → (C i).length = P.cellsOf e := fun i hil => (World.cells?_some (hC i hil).1).2.1
    have hcell : ∀ (k j : Nat) (u : Value), k ≤ len → (((List.range k).map C).flatten)[j]? = some u → w.cell? (a.add j) = some u := by
      intro k
      induction k with
      | zero => intro j u _ hu; simp at hu
      | succ k ih =>
        intro j u hk hu
        have hfl : (((List.range k).map C).flatten).length = k * P.cellsOf e := by
          clear hu ih
          induction k with
          | zero => simp
          | succ k ih2 =>
            rw [List.range_succ, List.map_append, List.flatten_append, List.length_append, ih2 (by omega)]
            simp [hCl k (by omega), Nat.succ_mul]
        rw [List.range_succ, List.map_append, List.flatten_append] at hu
        rcases Nat.lt_or_ge j (k * P.cellsOf e) with hj | hj
        · rw [List.getElem?_append_left (by rw [hfl]; exact hj)] at hu
          exact ih j u (by omega) hu
        · rw [List.getElem?_append_right (by rw [hfl]; exact hj), hfl] at hu
          simp only [List.map_cons, List.map_nil, List.flatten_cons, List.flatten_nil, List.append_nil] at hu
          obtain ⟨_, hl1, hat⟩ := World.cells?_some (hC k (by omega)).1
          have hjl : j - k * P.cellsOf e < P.cellsOf e := by
            have := (List.getElem?_eq_some_iff.1 hu).1
            omega
          have := hat (j - k * P.cellsOf e) hjl
          rw [hu, Go.Deep.add_add, show k * P.cellsOf e + (j - k * P.cellsOf e) = j by omega] at this
          exact this
    have hwt : ∀ i, i < len → ∀ q ∈ (D i).weights P e, q ≤ reachBytes := fun i hil q hq => hz q (by
      rw [hx.1]
      simp only [DataW.weights, ht]
      exact List.mem_cons_of_mem _ (List.mem_append_left _ (weightsAll_mem (i := i) (d := D i) (by simp [hil]) q hq)))
    refine ⟨some a, len, cap, (List.range len).map C, rfl, by simp, ⟨?_, _, _, rfl, fun h => by (cases h), fun ad had j u hu => ?_⟩, ?_, ?_⟩
    · clear hcell hwt
      have : ∀ k, k ≤ len → (((List.range k).map C).flatten).length = k * P.cellsOf e := by
        intro k
        induction k with
        | zero => intro _; simp
        | succ k ih2 =>
          intro hk
          rw [List.range_succ, List.map_append, List.flatten_append, List.length_append, ih2 (by omega)]
          simp [hCl k (by omega), Nat.succ_mul]
      exact this len (Nat.le_refl _)
    · injection had with had
      subst had
      exact hcell len j u (Nat.le_refl _) hu
    · have := hz ((len + (m - len)) * P.bytesOf e) (by
        rw [hx.1]
        simp only [DataW.weights, ht]
        simp)
      exact Nat.le_trans (Nat.mul_le_mul_right _ (by omega)) this
    · intro cs hcs
      simp only [List.mem_map, List.mem_range] at hcs
      obtain ⟨i, hil, rfl⟩ := hcs
      exact ⟨hCl i hil, flat_of n hp (hC i hil).2 (hwt i hil)⟩

/-- One value made of plain cells. -/
theorem open_flat {t : TypeId} {v : Value} {d : DataW H} {p : List MemPlace} (n : Nat) (hp : ((flat P n t).all fun y => plainT P y.2) = true) (h : DataW.Trod enc P w base spare held t v d p) (hz : ∀ m ∈ d.weights P t, m ≤ reachBytes) :
    ∀ y ∈ flat P n t, ∃ u, v.cells.toList[y.1]? = some u ∧ Leaf P y.2 u := by
  obtain ⟨fuel, hf⟩ := h
  exact flat_of n hp hf hz
end

theorem Leaf.int {P : Program} {t : TypeId} {v : Value} {k : IntKind} (h : Leaf P t v) (ht : P.underlying t = some (.int k)) : ∃ n, v = .int k n ∧ (Lit.int k n).wf = true := by
  rcases h with ⟨k', n, hu, rfl, hw⟩ | ⟨s, hu, _⟩ | ⟨b, hu, _⟩
  · rw [ht] at hu; injection hu with hu; injection hu with hu; subst hu
    exact ⟨n, rfl, hw⟩
  · rw [ht] at hu; cases hu
  · rw [ht] at hu; cases hu
theorem Leaf.string {P : Program} {t : TypeId} {v : Value} (h : Leaf P t v) (ht : P.underlying t = some .string) : ∃ s, v = .string s ∧ s.size ≤ 140737488351232 := by
  rcases h with ⟨k', n, hu, _⟩ | ⟨s, hu, rfl, hs⟩ | ⟨b, hu, _⟩
  · rw [ht] at hu; cases hu
  · exact ⟨s, rfl, hs⟩
  · rw [ht] at hu; cases hu
theorem Leaf.bool {P : Program} {t : TypeId} {v : Value} (h : Leaf P t v) (ht : P.underlying t = some .bool) : ∃ b, v = .bool b := by
  rcases h with ⟨k', n, hu, _⟩ | ⟨s, hu, _⟩ | ⟨b, hu, rfl⟩
  · rw [ht] at hu; cases hu
  · rw [ht] at hu; cases hu
  · exact ⟨b, rfl⟩
section
variable {H : Type} {enc : TypeId × Value → H} {P : Program} {w : World} {base : Nat} {spare : Nat → Bool} {held : Bool} {t : TypeId} {v : Value} {d : DataW H} {p : List MemPlace} {r : Reach} {b0 : Nat}
theorem open_int1 {k : IntKind} (hu : P.underlying t = some (.int k)) (hok : Value.okWide P w r b0 t v) (h : DataW.Trod enc P w base spare held t v d p) : ∃ n, v = .int k n ∧ (Lit.int k n).wf = true := by
  obtain ⟨n, h1, _, _, h2⟩ := open_int hu hok h
  exact ⟨n, h1, h2⟩
theorem open_str1 (hu : P.underlying t = some .string) (hok : Value.okWide P w r b0 t v) (h : DataW.Trod enc P w base spare held t v d p) (hz : ∀ m ∈ d.weights P t, m ≤ reachBytes) : ∃ s, v = .string s ∧ s.size ≤ 140737488351232 := by
  obtain ⟨s, h1, h2, _, _⟩ := Go.ChangeMaps.open_string hu hok h
  refine ⟨s, h1, ?_⟩
  have := hz s.data.toList.length (by rw [h2]; simp [DataW.weights])
  simpa [reachBytes] using this
theorem open_agg (n : Nat) (hu : (∃ fs, P.underlying t = some (.struct fs)) ∨ ∃ k e, P.underlying t = some (.array k e)) (hp : ((flat P n t).all fun y => plainT P y.2) = true) (hok : Value.okWide P w r b0 t v) (h : DataW.Trod enc P w base spare held t v d p) (hz : ∀ m ∈ d.weights P t, m ≤ reachBytes) :
    ∃ cs : List Value, v = .agg cs.toArray ∧ cs.length = P.cellsOf t ∧ ∀ y ∈ flat P n t, ∃ u, cs[y.1]? = some u ∧ Leaf P y.2 u := by
  have hagg : ∃ cs, v = .agg cs ∧ cs.size = P.cellsOf t := by
    unfold Value.okWide at hok
    rcases hu with ⟨fs, hu⟩ | ⟨k, e, hu⟩
    · rw [hu] at hok
      obtain ⟨cs, h1, h2, _⟩ := hok
      exact ⟨cs, h1, h2⟩
    · rw [hu] at hok
      obtain ⟨cs, h1, h2, _⟩ := hok
      exact ⟨cs, h1, h2⟩
  obtain ⟨cs, rfl, hs⟩ := hagg
  exact ⟨cs.toList, by simp, by simpa using hs, open_flat n hp h hz⟩
end
theorem wf_i64 {n : Int} (h : (Lit.int .i64 n).wf = true) : -9223372036854775808 ≤ n ∧ n ≤ 9223372036854775807 := by
  have := bounds_i64 h
  omega

/-- Rows that are each of some form are a list of that form. -/
theorem rows_as {α : Type} (f : α → List Value) (ok : α → Prop) : ∀ (css : List (List Value)), (∀ cs ∈ css, ∃ a, cs = f a ∧ ok a) → ∃ l : List α, l.length = css.length ∧ css.flatten = l.flatMap f ∧ ∀ a ∈ l, ok a
  | [], _ => ⟨[], rfl, rfl, by simp⟩
  | c :: css, h => by
    obtain ⟨a, rfl, ha⟩ := h c (by simp)
    obtain ⟨l, h1, h2, h3⟩ := rows_as f ok css (fun cs hcs => h cs (by simp [hcs]))
    exact ⟨a :: l, by simp [h1], by simp [h2], fun b hb => by
      rw [List.mem_cons] at hb
      rcases hb with rfl | hb
      · exact ha
      · exact h3 b hb⟩
end Go.Proofs.Ytppgddigcoojiaa

/- The methods of parcels: Len, Less, Swap. -/
import Derived.Test.YtefjoiinoaofcaaNet
import Derived.Deep.QuietTactic
import Derived.BigQuiet
import Derived.RegionTactic
import Derived.BigRegion
import Derived.Outline
namespace Go.Proofs.Ytefjoiinoaofcaa
open Go.RowKit

theorem len_any (A : Option Addr) (n c : Nat) (w : World) : Calls Try.prog 43 #[.slice A n c] w fun e w' => e = .returned (.int .i64 n) ∧ w = w' := by
  go_enter Try.func43, Try.ntmps43
  go_wp2
  go_ret
  exact ⟨rfl, rfl⟩

set_option maxHeartbeats 400000 in
theorem less_any (v : Value) (L : List Par) (i j : Nat) (w : World) (h : Own w 67 6 v L.length (pcs L)) (hi : i < L.length) (hj : j < L.length) :
    Calls Try.prog 44 #[v, .int .i64 i, .int .i64 j] w fun e w' => e = .returned (.bool (lessB (at_ L i) (at_ L j))) ∧ ∃ n, w' = w.drewN n := by
  obtain ⟨g, c, cur, rfl, hc, hm, hb, hs, ht, hcell⟩ := h.head (by omega)
  have i4 := hcell _ _ (pcs_at L i hi).2.2.2.2.1
  have i5 := hcell _ _ (pcs_at L i hi).2.2.2.2.2
  have j4 := hcell _ _ (pcs_at L j hj).2.2.2.2.1
  have j5 := hcell _ _ (pcs_at L j hj).2.2.2.2.2
  clear hcell hb hs ht h
  have b1 : (0 : Int) ≤ (i : Int) := by omega
  have b2 : (i : Int) < (L.length : Int) := by omega
  have b3 : (0 : Int) ≤ (j : Int) := by omega
  have b4 : (j : Int) < (L.length : Int) := by omega
  generalize hp : at_ L i = p at *
  generalize hq : at_ L j = q at *
  clear hp hq
  by_cases he : p.time = q.time
  · have e1 : (p.time != q.time) = false := by simp [he]
    have hl : lessB p q = decide (p.sent < q.sent) := by simp [lessB, he]
    have HL := hide hl
    have HE := hide he
    clear hl he
    go_enter Try.func44, Try.ntmps44
    go_wp2
    go_quiet (fail)
    go_wp2
    go_quiet (fail)
    go_wp2
    go_ret
    rw [HL.out]
    exact ⟨rfl, _, World.drewN_drewN _ _ _⟩
  · have e1 : (p.time != q.time) = true := by simp [he]
    have hl : lessB p q = decide (p.time < q.time) := by simp [lessB, he]
    have HL := hide hl
    clear hl he
    go_enter Try.func44, Try.ntmps44
    go_wp2
    go_quiet (fail)
    go_wp2
    go_quiet (fail)
    go_wp2
    go_ret
    rw [HL.out]
    exact ⟨rfl, _, World.drewN_drewN _ _ _⟩


/-- A parcel stored at place i of block g. -/
def putP (w : World) (g o : Nat) (p : Par) : World :=
  (((((w.setCell ⟨g, o, none⟩ (.int .i64 p.fr)).setCell ⟨g, o + 1, none⟩ (.int .i64 p.to)).setCell ⟨g, o + 2, none⟩ (.int .i64 p.num)).setCell ⟨g, o + 3, none⟩ (.string p.tx)).setCell ⟨g, o + 4, none⟩ (.int .i64 p.time)).setCell ⟨g, o + 5, none⟩ (.int .i64 p.sent)
theorem putP_bk {w : World} {g o : Nat} {t : TypeId} {cur : Array Value} (p : Par) (h : Bk w g t cur) : Bk (putP w g o p) g t (set6 cur.toList o p).toArray := by
  have := (((((h.set o (.int .i64 p.fr)).set (o + 1) (.int .i64 p.to)).set (o + 2) (.int .i64 p.num)).set (o + 3) (.string p.tx)).set (o + 4) (.int .i64 p.time)).set (o + 5) (.int .i64 p.sent)
  have e : (set6 cur.toList o p).toArray = ((((((cur.setIfInBounds o (.int .i64 p.fr)).setIfInBounds (o + 1) (.int .i64 p.to)).setIfInBounds (o + 2) (.int .i64 p.num)).setIfInBounds (o + 3) (.string p.tx)).setIfInBounds (o + 4) (.int .i64 p.time)).setIfInBounds (o + 5) (.int .i64 p.sent)) := by
    apply Array.ext'
    simp [set6]
  rw [e]
  exact this
theorem set6_length (l : List Value) (o : Nat) (p : Par) : (set6 l o p).length = l.length := by simp [set6]
theorem putP_keeps {a w : World} {g o : Nat} (p : Par) {F : List Nat} (h : Keeps F a w) (hg : g ∈ F) : Keeps F a (putP w g o p) :=
  (((((h.setCell (.inl hg) _).setCell (.inl hg) _).setCell (.inl hg) _).setCell (.inl hg) _).setCell (.inl hg) _).setCell (.inl hg) _
theorem swap_own {w : World} {g c : Nat} {L : List Par} {i j : Nat} {cur : Array Value} (hi : i < L.length) (hj : j < L.length) (hc : L.length ≤ c) (hm : c ≤ 9223372036854775807) (hb : Bk w g 67 cur) (hs : cur.size = c * 6) (ht : cur.toList.take (L.length * 6) = pcs L) :
    Own (putP (putP w g (i * 6) (at_ L j)) g (j * 6) (at_ L i)).drew 67 6 (.slice (some ⟨g, 0, none⟩) L.length c) L.length (pcs (sw L i j)) := by
  have h2 := (putP_bk (o := j * 6) (at_ L i) (putP_bk (o := i * 6) (at_ L j) hb)).drew
  refine own_of h2 (by rw [pcs_length, sw_length]) hc (le_maxLen hm) ?_ ?_
  · rw [List.size_toArray, set6_length, List.toList_toArray, set6_length, Array.length_toList, hs]
  · rw [List.toList_toArray, List.toList_toArray, set6_take, set6_take, ht, set6_pcs L i _ hi, set6_pcs _ j _ (by simpa using hj)]
    rfl
set_option maxHeartbeats 400000 in
theorem swap_any (v : Value) (L : List Par) (i j : Nat) (w : World) (h : Own w 67 6 v L.length (pcs L)) (hi : i < L.length) (hj : j < L.length) :
    Calls Try.prog 45 #[v, .int .i64 i, .int .i64 j] w fun e w' => e = .returned (.tuple #[]) ∧ Own w' 67 6 v L.length (pcs (sw L i j)) ∧ Keeps v.ownBlock.toList w w' := by
  obtain ⟨g, c, cur, rfl, hc, hm, hb, hs, ht, hcell⟩ := h.head (by omega)
  obtain ⟨i0, i1, i2, i3, i4, i5⟩ := pcs_at L i hi
  obtain ⟨j0, j1, j2, j3, j4, j5⟩ := pcs_at L j hj
  replace i0 := hcell _ _ i0
  replace i1 := hcell _ _ i1
  replace i2 := hcell _ _ i2
  replace i3 := hcell _ _ i3
  replace i4 := hcell _ _ i4
  replace i5 := hcell _ _ i5
  replace j0 := hcell _ _ j0
  replace j1 := hcell _ _ j1
  replace j2 := hcell _ _ j2
  replace j3 := hcell _ _ j3
  replace j4 := hcell _ _ j4
  replace j5 := hcell _ _ j5
  have fr := fun k => hb.free k
  have b1 : (0 : Int) ≤ (i : Int) := by omega
  have b2 : (i : Int) < (L.length : Int) := by omega
  have b3 : (0 : Int) ≤ (j : Int) := by omega
  have b4 : (j : Int) < (L.length : Int) := by omega
  have HO := hide (swap_own hi hj hc hm hb hs ht)
  have HK := hide ((putP_keeps (g := g) (at_ L i) (o := j * 6) (putP_keeps (g := g) (at_ L j) (o := i * 6) (Keeps.refl [g] w) (List.mem_singleton_self g)) (List.mem_singleton_self g)).drew)
  clear hb hs ht h hcell
  by_cases hij : i = j
  · subst hij
    go_enter Try.func45, Try.ntmps45
    go_wp2
    go_region
    all_goals
      go_end0
      exact ⟨rfl, HO.out, HK.out⟩
  · go_enter Try.func45, Try.ntmps45
    go_wp2
    go_region
    all_goals
      go_end0
      exact ⟨rfl, HO.out, HK.out⟩
end Go.Proofs.Ytefjoiinoaofcaa

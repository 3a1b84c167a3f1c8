/- A log's state as plain data, how it lies in memory, and the contracts of the small functions. -/
import Derived.Test.YtcfglfnncpcfoaaSrt
import Derived.Test.YtcfglfnncpcfoaaInsw
import Derived.Deep.Slices
import Derived.Test.YtcfglfnncpcfoaaUnp
namespace Go.Proofs.Ytcfglfnncpcfoaa
open Go.RowKit
/-- The state of a log: its events in order, and the first time that is open. -/
structure Lg where
  L : List Ev
  op : Nat
def Lg.new : Lg := ⟨[], 0⟩
structure Lg.ok (S : Lg) : Prop where
  srt : Srt S.L
  len : S.L.length ≤ 20000
  op : S.op ≤ 9223372036854775808
  low : ∀ e ∈ S.L, (S.op : Int) ≤ e.t
theorem Lg.new_ok : Lg.new.ok := ⟨List.Pairwise.nil, by simp [Lg.new], by simp [Lg.new], by simp [Lg.new]⟩
/-- Block g (of type T) is a log in state S, all of whose memory lies in the blocks F. -/
structure LgAt (T : TypeId) (w : World) (g : Nat) (F : List Nat) (S : Lg) (v : Value) : Prop where
  blk : Bk w g T #[v, .int .u64 (S.op : Int)]
  own : EO w v S.L
  gin : g ∈ F
  vin : ∀ b, v.ownBlock = some b → b ∈ F
  ne : v.ownBlock ≠ some g
  all : In w F
  ok : S.ok
def IsLg (T : TypeId) (w : World) (g : Nat) (F : List Nat) (S : Lg) : Prop := ∃ v, LgAt T w g F S v
theorem IsLg.keep {T : TypeId} {w w' : World} {g : Nat} {F G : List Nat} {S : Lg} (h : IsLg T w g F S) (k : Keeps G w w') (ha : Apart F G) : IsLg T w' g F S := by
  obtain ⟨v, h⟩ := h
  exact ⟨v, h.blk.keep k (ha g h.gin), h.own.keep k (fun b hb => ha b (h.vin b hb)), h.gin, h.vin, h.ne, h.all.keep k, h.ok⟩
theorem IsLg.keep0 {T : TypeId} {w w' : World} {g : Nat} {F : List Nat} {S : Lg} (h : IsLg T w g F S) (k : Keeps [] w w') : IsLg T w' g F S := h.keep k (apart_nil F)
theorem IsLg.all {T : TypeId} {w : World} {g : Nat} {F : List Nat} {S : Lg} (h : IsLg T w g F S) : In w F := by obtain ⟨v, h⟩ := h; exact h.all
theorem IsLg.ok {T : TypeId} {w : World} {g : Nat} {F : List Nat} {S : Lg} (h : IsLg T w g F S) : S.ok := by obtain ⟨v, h⟩ := h; exact h.ok
theorem IsLg.gin {T : TypeId} {w : World} {g : Nat} {F : List Nat} {S : Lg} (h : IsLg T w g F S) : g ∈ F := by obtain ⟨v, h⟩ := h; exact h.gin
theorem eo_nil (w : World) : EO w (.slice none 0 0) [] := World.ownsRow_nil _ _ _ _
theorem New.back {w w1 : World} {v : Value} {F : List Nat} (h : New w1 v) (k : Keeps F w w1) : New w v := fun g hg => Nat.le_trans k.size (h g hg)
theorem step_new {w wr w' : World} {v v' : Value} (hK : Keeps [] w wr) (hn : New w v) (hg : wr.grownBy w' v.ownBlock) (hb : v'.ownBlock = v.ownBlock ∨ v'.ownBlock = some wr.heap.size) : Keeps [] w w' ∧ New w v' := by
  refine ⟨hK.trans (Keeps.of_grown (F := v.ownBlock.toList) hg (fun k hk => by simp [hk])) (fun i hi => .inr (hn i (by simpa using hi))), fun g hg' => ?_⟩
  rcases hb with h | h
  · exact hn g (h ▸ hg')
  · rw [h] at hg'
    cases hg'
    exact hK.size
theorem src_zero (w : World) (sz : Nat) (A : Option Addr) (c : Nat) : Src w sz (.slice A 0 c) 0 [] := ⟨by simp, A, c, rfl, fun _ => rfl, fun ad _ j u h => by simp at h⟩
theorem ES.front {w : World} {A : Option Addr} {c : Nat} {L : List Ev} (h : ES w (.slice A L.length c) L) (m : Nat) (hm : m ≤ L.length) : Src w 18 (.slice A m c) m (ecs (L.take m)) := by
  obtain ⟨hl, A', c', hA, hnil, hc⟩ := h
  injection hA with hA _ hcc
  subst hA hcc
  refine ⟨by rw [ecs_length, List.length_take, Nat.min_eq_left hm], _, _, rfl, fun h0 => by have := hnil h0; omega, fun ad had j u hu => hc ad had j u ?_⟩
  rw [← ecs_take, List.getElem?_take] at hu
  split at hu
  · exact hu
  · cases hu
theorem ES.back {w : World} {ad : Addr} {c : Nat} {L : List Ev} (h : ES w (.slice (some ad) L.length c) L) (m : Nat) : Src w 18 (.slice (some (ad.add (m * 18))) (L.length - m) (c - m)) (L.length - m) (ecs (L.drop m)) := by
  obtain ⟨hl, A', c', hA, hnil, hcc⟩ := h
  injection hA with hA _ hcc'
  subst hA
  refine ⟨by rw [ecs_length, List.length_drop], _, _, rfl, fun h0 => (by cases h0), fun ad' had j u hu => ?_⟩
  injection had with had
  subst had
  rw [Go.Deep.add_add]
  refine hcc _ rfl _ u ?_
  rw [← ecs_drop, List.getElem?_drop] at hu
  exact hu
set_option maxRecDepth 100000 in
/-- slices.Clone. -/
theorem clone_any (A : Option Addr) (n c : Nat) (L : List Ev) (w : World) (hn : L.length = n) (hs : Src w 18 (.slice A n c) n (ecs L)) (hL : L.length ≤ 100000) :
    Calls Try.prog 44 #[.slice A n c] w fun r w' => ∃ v, r = .returned v ∧ Own w' 27 18 v n (ecs L) ∧ New w v ∧ Keeps [] w w' := by
  subst hn
  obtain ⟨i0, hi, hz0, hz1, hz2⟩ := info_parts Try.info27b
  have HI := hide (And.intro hi (And.intro hz0 (And.intro hz1 hz2)))
  have HE := hide (show Own (w.alloc (.cells #[] 27)) 27 18 (.slice (some ⟨w.heap.size, 0, none⟩) 0 0) 0 [] from own_of (Bk.new w 27 #[]) rfl (Nat.le_refl _) (by unfold maxLen; omega) rfl rfl)
  have HN := hide (show New w (.slice (some ⟨w.heap.size, 0, none⟩) 0 0) from fun g hg => by
    have : w.heap.size = g := by simpa [Value.ownBlock] using hg
    omega)
  have HA := hide ((Keeps.refl [] w).alloc (.cells #[] 27))
  have HS := hide (show ES (w.alloc (.cells #[] 27)) (.slice A L.length c) L from Src.keep hs HA.out (by simp))
  have HZ := hide (show A = none → L = [] from fun h => by
    obtain ⟨hl, A', c', hA, hnil, _⟩ := hs
    injection hA with hA _ _
    exact List.eq_nil_of_length_eq_zero (hnil (by rw [← hA]; exact h)))
  clear hi hz0 hz1 hz2 hs
  cases A with
  | none =>
    have hl := HZ.out rfl
    subst hl
    clear HE HN HS HZ
    have heq := fun (W : World) => Lib.run_eql_slice_nil (P := Try.prog) W 55 27 none 0 c 0 0 Try.underlying55
    simp only [Option.isNone_none] at heq
    go_enter Try.func44, Try.ntmps44
    go_wp2
    go_ret
    exact ⟨_, rfl, eo_nil _, new_nil _, Keeps.refl _ _⟩
  | some ad =>
    have heq := fun (W : World) => Lib.run_eql_slice_nil (P := Try.prog) W 55 27 (some ad) L.length c 0 0 Try.underlying55
    simp only [Option.isNone_some] at heq
    go_enter Try.func44, Try.ntmps44
    go_wp2_with (with_reducible refine Halt.append ?_)
    refine Halt.on ?_
    refine wpList_append_src _ rfl _ _ _ rfl 27 i0 _ 18 152 Try.underlying55 HI.out.1 HI.out.2.1 HI.out.2.2.1 HI.out.2.2.2 rfl (by omega) (.slice (some ⟨w.heap.size, 0, none⟩) 0 0) 0 [] rfl HE.out (.slice (some ad) L.length c) L.length (ecs L) rfl HS.out (ecs_one L) (by unfold maxLen; omega) (by omega) ?_
    intro v w2 hown hgrow hblk
    obtain ⟨hK2, hN2⟩ := step_new HA.out HN.out hgrow hblk
    rw [Nat.zero_add, List.nil_append] at hown
    have HR := hide (And.intro hown (And.intro hN2 hK2))
    clear hown hgrow hblk hK2 hN2
    go_wp2
    go_ret
    exact ⟨_, rfl, HR.out.1, HR.out.2.1, HR.out.2.2⟩
theorem new_any (w : World) : Calls Try.prog 21 #[] w fun r w' => r = .returned (.pointer (some ⟨w.heap.size, 0, none⟩)) ∧ IsLg 66 w' w.heap.size [w.heap.size] Lg.new ∧ Keeps [] w w' := by
  go_enter Try.func21, Try.ntmps21
  go_wp2
  go_ret
  refine ⟨rfl, ⟨.slice none 0 0, ?_⟩, (Keeps.refl _ _).alloc _⟩
  exact ⟨Bk.new _ _ _, eo_nil _, by simp, by simp [Value.ownBlock], by simp [Value.ownBlock], by simp [In], Lg.new_ok⟩
theorem rnew_any (w : World) : Calls Try.prog 22 #[] w fun r w' => r = .returned (.pointer (some ⟨w.heap.size, 0, none⟩)) ∧ IsLg 84 w' w.heap.size [w.heap.size] Lg.new ∧ Keeps [] w w' := by
  go_enter Try.func22, Try.ntmps22
  go_wp2
  go_ret
  refine ⟨rfl, ⟨.slice none 0 0, ?_⟩, (Keeps.refl _ _).alloc _⟩
  exact ⟨Bk.new _ _ _, eo_nil _, by simp, by simp [Value.ownBlock], by simp [Value.ownBlock], by simp [In], Lg.new_ok⟩
theorem settled_any (g : Nat) (F : List Nat) (S : Lg) (w : World) (h : IsLg 66 w g F S) : Calls Try.prog 29 #[.pointer (some ⟨g, 0, none⟩)] w fun r w' => r = .returned (.int .i64 ((S.op : Int) - 1)) ∧ w = w' := by
  obtain ⟨v, h⟩ := h
  have c1 := h.blk.cell 1
  have ho := h.ok.op
  simp at c1
  clear h
  obtain ⟨n, hn⟩ : ∃ n : Nat, n = S.op := ⟨_, rfl⟩
  rw [← hn] at c1 ho
  have HN := hide hn
  clear hn
  have hw : IntKind.i64.wrap (IntKind.u64.wrap ((n : Int) - 1)) = (n : Int) - 1 := by rw [IntKind.wrap_u64, IntKind.wrap_i64]; omega
  obtain ⟨m, hm⟩ : ∃ m, IntKind.u64.wrap ((n : Int) - 1) = m := ⟨_, rfl⟩
  rw [hm] at hw
  go_enter Try.func29, Try.ntmps29
  go_wp2
  go_ret
  exact ⟨by rw [← HN.out]; rfl, rfl⟩
theorem rsettled_any (g : Nat) (F : List Nat) (S : Lg) (w : World) (h : IsLg 84 w g F S) : Calls Try.prog 43 #[.pointer (some ⟨g, 0, none⟩)] w fun r w' => r = .returned (.int .i64 ((S.op : Int) - 1)) ∧ w = w' := by
  obtain ⟨v, h⟩ := h
  have c1 := h.blk.cell 1
  have ho := h.ok.op
  simp at c1
  clear h
  obtain ⟨n, hn⟩ : ∃ n : Nat, n = S.op := ⟨_, rfl⟩
  rw [← hn] at c1 ho
  have HN := hide hn
  clear hn
  have hw : IntKind.i64.wrap (IntKind.u64.wrap ((n : Int) - 1)) = (n : Int) - 1 := by rw [IntKind.wrap_u64, IntKind.wrap_i64]; omega
  obtain ⟨m, hm⟩ : ∃ m, IntKind.u64.wrap ((n : Int) - 1) = m := ⟨_, rfl⟩
  rw [hm] at hw
  go_enter Try.func43, Try.ntmps43
  go_wp2
  go_ret
  exact ⟨by rw [← HN.out]; rfl, rfl⟩
set_option maxRecDepth 100000 in
theorem events_any (g : Nat) (F : List Nat) (S : Lg) (w : World) (h : IsLg 66 w g F S) : Calls Try.prog 25 #[.pointer (some ⟨g, 0, none⟩)] w fun r w' => ∃ v, r = .returned v ∧ EO w' v S.L ∧ New w v ∧ Keeps [] w w' := by
  obtain ⟨v, h⟩ := h
  obtain ⟨A, c, rfl⟩ := Own.slice h.own
  have c0 := h.blk.cell 0
  simp at c0
  have HS := hide (clone_any A S.L.length c S.L w rfl (Own.src h.own) (by have := h.ok.len; omega))
  clear h
  go_enter Try.func25, Try.ntmps25
  go_wp2_with fail
  refine HS.out.mono ?_
  rintro r w2 ⟨v, rfl, h1, h2, h3⟩
  obtain ⟨A2, c2, rfl⟩ := Own.slice h1
  have HR := hide (And.intro h1 (And.intro h2 h3))
  clear h1 h2 h3
  go_wp2
  go_ret
  exact ⟨_, rfl, HR.out.1, HR.out.2.1, HR.out.2.2⟩
set_option maxRecDepth 100000 in
theorem revents_any (g : Nat) (F : List Nat) (S : Lg) (w : World) (h : IsLg 84 w g F S) : Calls Try.prog 26 #[.pointer (some ⟨g, 0, none⟩)] w fun r w' => ∃ v, r = .returned v ∧ EO w' v S.L ∧ New w v ∧ Keeps [] w w' := by
  obtain ⟨v, h⟩ := h
  obtain ⟨A, c, rfl⟩ := Own.slice h.own
  have hb := h.blk.alloc (.cells #[] 27)
  have c0 := hb.cell 0
  simp only [List.size_toArray, List.length_cons, List.length_nil, Nat.zero_add, Nat.reduceAdd, Nat.reduceLT, getElem?_pos, List.getElem_toArray, List.getElem_cons_zero] at c0
  obtain ⟨i0, hi, hz0, hz1, hz2⟩ := info_parts Try.info27b
  have HI := hide (And.intro hi (And.intro hz0 (And.intro hz1 hz2)))
  have HE := hide (show Own (w.alloc (.cells #[] 27)) 27 18 (.slice (some ⟨w.heap.size, 0, none⟩) 0 0) 0 [] from own_of (Bk.new w 27 #[]) rfl (Nat.le_refl _) (by unfold maxLen; omega) rfl rfl)
  have HN := hide (show New w (.slice (some ⟨w.heap.size, 0, none⟩) 0 0) from fun g hg => by
    have : w.heap.size = g := by simpa [Value.ownBlock] using hg
    omega)
  have HA := hide ((Keeps.refl [] w).alloc (.cells #[] 27))
  have HS := hide (show ES (w.alloc (.cells #[] 27)) (.slice A S.L.length c) S.L from Src.keep (Own.src h.own) HA.out (by simp))
  have hlen := h.ok.len
  clear h hi hz0 hz1 hz2 hb
  go_enter Try.func26, Try.ntmps26
  go_wp2_with (with_reducible refine Halt.append ?_)
  refine Halt.on ?_
  refine wpList_append_src _ rfl _ _ _ rfl 27 i0 _ 18 152 Try.underlying55 HI.out.1 HI.out.2.1 HI.out.2.2.1 HI.out.2.2.2 rfl (by omega) (.slice (some ⟨w.heap.size, 0, none⟩) 0 0) 0 [] rfl HE.out (.slice A S.L.length c) S.L.length (ecs S.L) rfl HS.out (ecs_one S.L) (by unfold maxLen; omega) (by omega) ?_
  intro v w2 hown hgrow hblk
  obtain ⟨hK2, hN2⟩ := step_new HA.out HN.out hgrow hblk
  rw [Nat.zero_add, List.nil_append] at hown
  have HR := hide (And.intro hown (And.intro hN2 hK2))
  clear hown hgrow hblk hK2 hN2
  go_wp2
  go_ret
  exact ⟨_, rfl, HR.out.1, HR.out.2.1, HR.out.2.2⟩
end Go.Proofs.Ytcfglfnncpcfoaa

/- Nets that are new since a world: one, or two beside each other. The walk of NetNone. -/
import Derived.Test.YtefjoiinoaofcaaSane
namespace Go.Proofs.Ytefjoiinoaofcaa
open Go.RowKit

theorem MadeNet.keep {w wr w' : World} {g : Nat} {N : NS} (h : MadeNet w N g wr) (k : Keeps [] wr w') : MadeNet w N g w' := by
  obtain ⟨F, h1, h2, h3⟩ := h
  exact ⟨F, h1.keep0 k, h2, h3.trans' k⟩
theorem MadeNet.keeps {w wr : World} {g : Nat} {N : NS} (h : MadeNet w N g wr) : Keeps [] w wr := by
  obtain ⟨F, h1, h2, h3⟩ := h
  exact h3
theorem MadeNet.ok {w wr : World} {g : Nat} {N : NS} (h : MadeNet w N g wr) : N.ok := by
  obtain ⟨F, h1, h2, h3⟩ := h
  exact h1.ok
theorem MadeNet.send {w wr : World} {g : Nat} {N : NS} (h : MadeNet w N g wr) (now a b n : Int) (x : ByteArray) (hf : N.sent < 100000)
    (hb : N.drops b = false → -1000000000000000000 ≤ now ∧ now ≤ 1000000000000000000 ∧ N.tr.delay ≤ 1000000000000000000) :
    Calls Try.prog 14 #[.pointer (some ⟨g, 0, none⟩), .int .i64 now, msgV a b n x] wr fun e w' => e = .returned (.tuple #[]) ∧ MadeNet w (sendS N now a b n x) g w' := by
  obtain ⟨F, h1, h2, h3⟩ := h
  refine (send_any g F N now a b n x wr h1 hf hb).mono ?_
  rintro e w' ⟨he, F', hn, ha, hk⟩
  obtain ⟨hK, hA⟩ := own_step h3 h2 ha hk
  exact ⟨he, F', hn, hA, hK⟩
theorem MadeNet.next {w wr : World} {g : Nat} {N : NS} (h : MadeNet w N g wr) (q : Par) (S : List Par) (hS : N.S = q :: S) :
    Calls Try.prog 16 #[.pointer (some ⟨g, 0, none⟩)] wr fun e w' => e = .returned (.tuple #[msgV q.fr q.to q.num q.tx, .int .i64 q.time, .bool true]) ∧ MadeNet w { N with S := S } g w' := by
  obtain ⟨F, h1, h2, h3⟩ := h
  refine (next_some g F N q S wr h1 hS).mono ?_
  rintro e w' ⟨he, F', hn, ha, hk⟩
  obtain ⟨hK, hA⟩ := own_step h3 h2 ha hk
  exact ⟨he, F', hn, hA, hK⟩
theorem MadeNet.empty {w wr : World} {g : Nat} {N : NS} (h : MadeNet w N g wr) (hS : N.S = []) :
    Calls Try.prog 16 #[.pointer (some ⟨g, 0, none⟩)] wr fun e w' => e = .returned (.tuple #[msgV 0 0 0 ⟨#[]⟩, .int .i64 0, .bool false]) ∧ MadeNet w N g w' := by
  have h' := h
  obtain ⟨F, h1, h2, h3⟩ := h
  refine (next_none g F N wr h1 hS).mono ?_
  rintro e w' ⟨he, _, hk⟩
  exact ⟨he, h'.keep hk⟩
theorem MadeNet.waiting {w wr : World} {g : Nat} {N : NS} (h : MadeNet w N g wr) (n : Nat) (hn : N.S.length = n) :
    Calls Try.prog 18 #[.pointer (some ⟨g, 0, none⟩)] wr fun e w' => e = .returned (.int .i64 n) ∧ wr = w' := by
  subst hn
  obtain ⟨F, h1, _⟩ := h
  exact waiting_any g F N wr h1
theorem MadeNet.old {w0 w wr : World} {g : Nat} {N : NS} (h : MadeNet w N g wr) (k : Keeps [] w0 w) : MadeNet w0 N g wr := by
  obtain ⟨F, h1, h2, h3⟩ := h
  exact ⟨F, h1, (Adds.refl w0 []).trans h2 k.size, k.trans' h3⟩

/-- Two nets, beside each other, both new since w. -/
def Two (w wr : World) (g : Nat) (N : NS) (h : Nat) (M : NS) : Prop := ∃ F G, IsNet wr g F N ∧ IsNet wr h G M ∧ Apart F G ∧ Adds w [] F ∧ Adds w [] G ∧ Keeps [] w wr
theorem Two.symm {w wr : World} {g h : Nat} {N M : NS} (t : Two w wr g N h M) : Two w wr h M g N := by
  obtain ⟨F, G, h1, h2, h3, h4, h5, h6⟩ := t
  exact ⟨G, F, h2, h1, h3.symm, h5, h4, h6⟩
theorem Two.keep {w wr w' : World} {g h : Nat} {N M : NS} (t : Two w wr g N h M) (k : Keeps [] wr w') : Two w w' g N h M := by
  obtain ⟨F, G, h1, h2, h3, h4, h5, h6⟩ := t
  exact ⟨F, G, h1.keep0 k, h2.keep0 k, h3, h4, h5, h6.trans' k⟩
theorem Two.keeps {w wr : World} {g h : Nat} {N M : NS} (t : Two w wr g N h M) : Keeps [] w wr := by
  obtain ⟨F, G, h1, h2, h3, h4, h5, h6⟩ := t
  exact h6
theorem Two.ok {w wr : World} {g h : Nat} {N M : NS} (t : Two w wr g N h M) : N.ok := by
  obtain ⟨F, G, h1, h2, h3, h4, h5, h6⟩ := t
  exact h1.ok
theorem Two.send {w wr : World} {g h : Nat} {N M : NS} (t : Two w wr g N h M) (now a b n : Int) (x : ByteArray) (hf : N.sent < 100000)
    (hb : N.drops b = false → -1000000000000000000 ≤ now ∧ now ≤ 1000000000000000000 ∧ N.tr.delay ≤ 1000000000000000000) :
    Calls Try.prog 14 #[.pointer (some ⟨g, 0, none⟩), .int .i64 now, msgV a b n x] wr fun e w' => e = .returned (.tuple #[]) ∧ Two w w' g (sendS N now a b n x) h M := by
  obtain ⟨F, G, h1, h2, h3, h4, h5, h6⟩ := t
  refine (send_any g F N now a b n x wr h1 hf hb).mono ?_
  rintro e w' ⟨he, F', hn, ha, hk⟩
  obtain ⟨hK, hA⟩ := own_step h6 h4 ha hk
  exact ⟨he, F', G, hn, h2.keep hk h3.symm, h3.adds ha h2.all, hA, h5, hK⟩
theorem Two.next {w wr : World} {g h : Nat} {N M : NS} (t : Two w wr g N h M) (q : Par) (S : List Par) (hS : N.S = q :: S) :
    Calls Try.prog 16 #[.pointer (some ⟨g, 0, none⟩)] wr fun e w' => e = .returned (.tuple #[msgV q.fr q.to q.num q.tx, .int .i64 q.time, .bool true]) ∧ Two w w' g { N with S := S } h M := by
  obtain ⟨F, G, h1, h2, h3, h4, h5, h6⟩ := t
  refine (next_some g F N q S wr h1 hS).mono ?_
  rintro e w' ⟨he, F', hn, ha, hk⟩
  obtain ⟨hK, hA⟩ := own_step h6 h4 ha hk
  exact ⟨he, F', G, hn, h2.keep hk h3.symm, h3.adds ha h2.all, hA, h5, hK⟩
theorem Two.empty {w wr : World} {g h : Nat} {N M : NS} (t : Two w wr g N h M) (hS : N.S = []) :
    Calls Try.prog 16 #[.pointer (some ⟨g, 0, none⟩)] wr fun e w' => e = .returned (.tuple #[msgV 0 0 0 ⟨#[]⟩, .int .i64 0, .bool false]) ∧ Two w w' g N h M := by
  have t' := t
  obtain ⟨F, G, h1, h2, h3, h4, h5, h6⟩ := t
  refine (next_none g F N wr h1 hS).mono ?_
  rintro e w' ⟨he, _, hk⟩
  exact ⟨he, t'.keep hk⟩
theorem Two.waiting {w wr : World} {g h : Nat} {N M : NS} (t : Two w wr g N h M) (n : Nat) (hn : N.S.length = n) :
    Calls Try.prog 18 #[.pointer (some ⟨g, 0, none⟩)] wr fun e w' => e = .returned (.int .i64 n) ∧ wr = w' := by
  subst hn
  obtain ⟨F, G, h1, _⟩ := t
  exact waiting_any g F N wr h1
/-- A second net is made. -/
theorem MadeNet.two {w w1 w2 : World} {g h : Nat} {N M : NS} (a : MadeNet w N g w1) (b : MadeNet w1 M h w2) : Two w w2 g N h M := by
  obtain ⟨F, h1, h2, h3⟩ := a
  obtain ⟨G, k1, k2, k3⟩ := b
  exact ⟨F, G, h1.keep0 k3, k1, apart_new h1.all k2, h2, (Adds.refl w []).trans k2 h3.size, h3.trans' k3⟩
theorem zero_net (w : World) : MadeNet w (NS.new 0 []) w.heap.size (w.alloc (.cells #[.int .i64 0, .slice none 0 0, .slice none 0 0, .int .i64 0] 53)) :=
  ⟨[w.heap.size], ⟨.slice none 0 0, .slice none 0 0, [], Bk.new _ _ _, by simp, World.ownsRow_nil _ _ _ _, World.ownsRow_nil _ _ _ _, by simp [Value.ownBlock], by simp [Value.ownBlock], by simp [In], Bag.nil, NS.new_ok 0 [] (by simp)⟩, adds_one w, (Keeps.refl [] w).alloc _⟩

theorem none_drops (N : NS) (b : Int) (h : N.nodes ≤ 0) : N.drops b = true := by
  unfold NS.drops
  simp
  omega
theorem none_send (N : NS) (h : N.nodes ≤ 0) (now a b n : Int) (x : ByteArray) : sendS N now a b n x = { N with sent := N.sent + 1 } := by
  unfold sendS
  rw [if_pos (none_drops N b h)]

set_option maxRecDepth 100000 in
set_option maxHeartbeats 1600000 in
theorem none_walk (a b n : Int) (x : ByteArray) (now : Int) (A : Option Addr) (c : Nat) (l : List Tr) (w : World) (hl : Src w 3 (.slice A l.length c) l.length (trs l)) (hlen : l.length ≤ 9223372036854775807) :
    Calls Try.prog 9 #[msgV a b n x, .int .i64 now, .slice A l.length c] w fun e w' => e = .returned (.bool true) ∧ Keeps [] w w' := by
  have kb := (Keeps.refl [] w).alloc (.cells #[.int .i64 a, .int .i64 b, .int .i64 n, .string x] 31)
  have hl0 := hl.keep kb (by simp)
  have bm : Bk (w.alloc (.cells #[.int .i64 a, .int .i64 b, .int .i64 n, .string x] 31)) w.heap.size 31 #[.int .i64 a, .int .i64 b, .int .i64 n, .string x] := Bk.new _ _ _
  have HL := hide hl0
  have HKB := hide kb
  have HB := hide bm
  clear hl hl0 kb bm
  unfold msgV
  go_enter Try.func9, Try.ntmps9
  go_wp2_with fail
  generalize w.alloc (.cells #[.int .i64 a, .int .i64 b, .int .i64 n, .string x] 31) = w0 at HL HKB HB ⊢
  generalize w.heap.size = bb at HB ⊢
  refine (sanity_any _).mono ?_
  rintro e w1 ⟨rfl, hk1⟩
  have HZ := hide (zero_net w1)
  have HK1 := hide hk1
  clear hk1
  go_wp2_with fail
  generalize w1.alloc (.cells #[.int .i64 0, .slice none 0 0, .slice none 0 0, .int .i64 0] 53) = w2 at HZ ⊢
  generalize w1.heap.size = g at HZ ⊢
  refine (script_any A c l _ (HL.out.keep (HK1.out.trans' HZ.out.keeps) (by simp)) hlen).mono ?_
  rintro e w3 ⟨v, rfl, hv, hk3, _⟩
  obtain ⟨A3, c3, rfl⟩ := hv.slice
  have hsrc := hv.src
  have HK3 := hide hk3
  clear hv hk3
  go_wp2_with fail
  refine (new_any (-3) A3 c3 (scrL l) w3 hsrc (by have := scrL_length l; omega)).mono ?_
  rintro e w4 ⟨h, rfl, hm4⟩
  have HT := hide ((HZ.out.keep HK3.out).two hm4)
  have HB1 := hide (HB.out.keep HK1.out (by simp))
  have hb4 := HB1.out.keep HT.out.keeps (by simp)
  have q0 := hb4.cell 0
  have q1 := hb4.cell 1
  have q2 := hb4.cell 2
  have q3 := hb4.cell 3
  simp at q0 q1 q2 q3
  clear hm4 hsrc HZ HK3 HL HB hb4
  go_wp2_with fail
  clear q0 q1 q2 q3
  have hs := send_nil now a b n x w4
  unfold msgV at hs
  refine hs.mono ?_
  rintro e w5 ⟨rfl, hk5⟩
  have HT5 := hide (HT.out.keep hk5)
  have hb5 := HB1.out.keep HT5.out.keeps (by simp)
  have q0 := hb5.cell 0
  have q1 := hb5.cell 1
  have q2 := hb5.cell 2
  have q3 := hb5.cell 3
  simp at q0 q1 q2 q3
  clear hk5 hs HT hb5
  go_wp2_with fail
  have hs := HT5.out.send now a b n x (by decide) (fun hd => by rw [none_drops _ b (by decide)] at hd; cases hd)
  rw [none_send _ (by decide)] at hs
  unfold msgV at hs
  refine hs.mono ?_
  rintro e w6 ⟨rfl, h6⟩
  have HT6 := hide h6.symm
  have hb6 := HB1.out.keep h6.keeps (by simp)
  clear q0 q1 q2 q3
  have q0 := hb6.cell 0
  have q1 := hb6.cell 1
  have q2 := hb6.cell 2
  have q3 := hb6.cell 3
  simp at q0 q1 q2 q3
  clear h6 hs hb6 HT5
  go_wp2_with fail
  have hs := HT6.out.send now a b n x (by simp [NS.new]) (fun hd => by rw [none_drops _ b (by simp [NS.new])] at hd; cases hd)
  rw [none_send _ (by simp [NS.new])] at hs
  unfold msgV at hs
  refine hs.mono ?_
  rintro e w7 ⟨rfl, h7⟩
  have HT7 := hide h7.symm
  clear h7 hs q0 q1 q2 q3 HT6 HB1
  go_wp2_with fail
  have hs := next_nil w7
  unfold msgV at hs
  refine hs.mono ?_
  rintro e w8 ⟨rfl, hk8⟩
  have HT8 := hide ((HT7.out.keep hk8).keep ((Keeps.refl [] _).alloc (.cells #[.int .i64 0, .int .i64 0, .int .i64 0, .string ⟨#[]⟩] 31)))
  clear hk8 hs HT7
  go_wp2_with fail
  have hs := HT8.out.empty rfl
  unfold msgV at hs
  refine hs.mono ?_
  rintro e w9 ⟨rfl, h9⟩
  have HT9 := hide ((h9.keep ((Keeps.refl [] _).alloc (.cells #[.int .i64 0, .int .i64 0, .int .i64 0, .string ⟨#[]⟩] 31))).symm)
  clear h9 hs HT8
  go_wp2_with fail
  have hs := HT9.out.empty rfl
  unfold msgV at hs
  refine hs.mono ?_
  rintro e w10 ⟨rfl, h10⟩
  have HT10 := hide ((h10.keep ((Keeps.refl [] _).alloc (.cells #[.int .i64 0, .int .i64 0, .int .i64 0, .string ⟨#[]⟩] 31))).symm)
  clear h10 hs HT9
  go_wp2_with fail
  refine (waiting_nil _).mono ?_
  rintro e w11 ⟨rfl, rfl⟩
  go_wp2_with fail
  refine (HT10.out.waiting 0 rfl).mono ?_
  rintro e w11 ⟨rfl, rfl⟩
  go_wp2_with fail
  refine (HT10.out.symm.waiting 0 rfl).mono ?_
  rintro e w11 ⟨rfl, rfl⟩
  go_wp2_with fail
  go_ret
  exact ⟨rfl, (HKB.out.trans' HK1.out).trans' HT10.out.keeps⟩
end Go.Proofs.Ytefjoiinoaofcaa

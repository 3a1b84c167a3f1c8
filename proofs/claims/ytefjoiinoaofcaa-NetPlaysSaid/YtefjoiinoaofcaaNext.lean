/- Send in one contract; Next; the methods of a nil net. -/
import Derived.Test.YtefjoiinoaofcaaSend
namespace Go.Proofs.Ytefjoiinoaofcaa
open Go.RowKit

theorem send_any (g : Nat) (F : List Nat) (N : NS) (now a b n : Int) (x : ByteArray) (w : World) (h : IsNet w g F N) (hf : N.sent < 100000)
    (hb : N.drops b = false → -1000000000000000000 ≤ now ∧ now ≤ 1000000000000000000 ∧ N.tr.delay ≤ 1000000000000000000) :
    Calls Try.prog 14 #[.pointer (some ⟨g, 0, none⟩), .int .i64 now, msgV a b n x] w fun e w' => e = .returned (.tuple #[]) ∧ ∃ F', IsNet w' g F' (sendS N now a b n x) ∧ Adds w F F' ∧ Keeps F w w' := by
  cases hd : N.drops b with
  | true =>
    refine (send_drop g F N now a b n x w h hf hd).mono ?_
    rintro e w' ⟨he, h1, h2⟩
    refine ⟨he, F, ?_, Adds.refl _ _, h2⟩
    unfold sendS
    rw [if_pos hd]
    exact h1
  | false =>
    obtain ⟨b1, b2, b3⟩ := hb hd
    refine (send_keep g F N now a b n x w h hf hd b1 b2 b3).mono ?_
    rintro e w' ⟨he, F', h1, h2, h3⟩
    refine ⟨he, F', ?_, h2, h3⟩
    unfold sendS
    rw [if_neg (by rw [hd]; simp)]
    exact h1

set_option maxHeartbeats 400000 in
theorem next_none (g : Nat) (F : List Nat) (N : NS) (w : World) (h : IsNet w g F N) (h0 : N.S = []) :
    Calls Try.prog 16 #[.pointer (some ⟨g, 0, none⟩)] w fun e w' => e = .returned (.tuple #[msgV 0 0 0 ⟨#[]⟩, .int .i64 0, .bool false]) ∧ IsNet w' g F N ∧ Keeps [] w w' := by
  have HN := hide h
  obtain ⟨vs, vw, L, hd⟩ := h
  obtain ⟨A, c, hv⟩ := hd.wt.slice
  have hL : L.length = 0 := by rw [hd.bag.length, h0]; rfl
  have kb := (Keeps.refl [] w).alloc (.cells #[.int .i64 0, .int .i64 0, .int .i64 0, .string ⟨#[]⟩] 31)
  have hml := m_len ⟨g, 2, none⟩ A 0 c (w.alloc (.cells #[.int .i64 0, .int .i64 0, .int .i64 0, .string ⟨#[]⟩] 31)) (by
    have := kb.cell hd.wt.cell
    rw [this, hv, hL])
  have HK := hide kb
  clear hd hv hL h0 kb
  unfold msgV
  go_enter Try.func16, Try.ntmps16
  go_wp2_with fail
  refine (queue_any g _).mono ?_
  rintro e w1 ⟨rfl, rfl⟩
  go_wp2_with fail
  refine (len_any A 0 c _).mono ?_
  rintro e w1 ⟨rfl, rfl⟩
  go_wp2_with fail
  exact bodyPost_ret (v := .tuple #[.agg #[.int .i64 0, .int .i64 0, .int .i64 0, .string ⟨#[]⟩], .int .i64 0, .bool false]) (by simp [results, Try.results16, go_sem]) rfl ⟨rfl, HN.out.keep0 HK.out, HK.out⟩

theorem next_end {w w0 w2 : World} {g : Nat} {F F2 : List Nat} {N : NS} (k0 : Keeps [] w w0) (hn : IsNet w2 g F2 N) (ha : Adds w0 F F2) (hk : Keeps F w0 w2) (hF : w.heap.size ∉ F) (v0 v1 v2 v3 : Value) (o : Obj) (hz : w.heap.size < w0.heap.size := by simp) :
    ∃ F', IsNet ((((((w2.setCell ⟨w.heap.size, 0, none⟩ v0).setCell ⟨w.heap.size, 1, none⟩ v1).setCell ⟨w.heap.size, 2, none⟩ v2).setCell ⟨w.heap.size, 3, none⟩ v3).alloc o).drew) g F' N ∧ Adds w F F' ∧
      Keeps F w ((((((w2.setCell ⟨w.heap.size, 0, none⟩ v0).setCell ⟨w.heap.size, 1, none⟩ v1).setCell ⟨w.heap.size, 2, none⟩ v2).setCell ⟨w.heap.size, 3, none⟩ v3).alloc o).drew) := by
  have kk : Keeps [w.heap.size] w2 ((((((w2.setCell ⟨w.heap.size, 0, none⟩ v0).setCell ⟨w.heap.size, 1, none⟩ v1).setCell ⟨w.heap.size, 2, none⟩ v2).setCell ⟨w.heap.size, 3, none⟩ v3).alloc o).drew) :=
    ((((((Keeps.refl _ _).setCell (.inl (by simp)) _).setCell (.inl (by simp)) _).setCell (.inl (by simp)) _).setCell (.inl (by simp)) _).alloc o).drew
  have hF2 : Apart F2 [w.heap.size] := fun i hi hm => by
    rw [List.mem_singleton] at hm
    subst hm
    rcases ha _ hi with h | h
    · exact hF h
    · omega
  exact ⟨F2, hn.keep kk hF2, (Adds.refl w F).trans ha k0.size, (k0.nil.trans' hk).trans kk (fun i hi => .inr (by simp at hi; omega))⟩

set_option maxHeartbeats 800000 in
theorem next_some (g : Nat) (F : List Nat) (N : NS) (q : Par) (S : List Par) (w : World) (h : IsNet w g F N) (hS : N.S = q :: S) :
    Calls Try.prog 16 #[.pointer (some ⟨g, 0, none⟩)] w fun e w' => e = .returned (.tuple #[msgV q.fr q.to q.num q.tx, .int .i64 q.time, .bool true]) ∧ ∃ F', IsNet w' g F' { N with S := S } ∧ Adds w F F' ∧ Keeps F w w' := by
  have kb := (Keeps.refl [] w).alloc (.cells #[.int .i64 0, .int .i64 0, .int .i64 0, .string ⟨#[]⟩] 31)
  have HN := hide (h.keep0 kb)
  obtain ⟨vs, vw, L, hd⟩ := h
  obtain ⟨A, c, hv⟩ := hd.wt.slice
  have hL : L.length = S.length + 1 := by rw [hd.bag.length, hS]; rfl
  have hml := m_len ⟨g, 2, none⟩ A (S.length + 1) c (w.alloc (.cells #[.int .i64 0, .int .i64 0, .int .i64 0, .string ⟨#[]⟩] 31)) (by
    have := kb.cell hd.wt.cell
    rw [this, hv, hL])
  have HK := hide kb
  have HS := hide hS
  have bres : Bk (w.alloc (.cells #[.int .i64 0, .int .i64 0, .int .i64 0, .string ⟨#[]⟩] 31)) w.heap.size 31 #[.int .i64 0, .int .i64 0, .int .i64 0, .string ⟨#[]⟩] := Bk.new _ _ _
  have hnF : w.heap.size ∉ F := fun hm => Nat.lt_irrefl _ (hd.all _ hm)
  have HB := hide bres
  have hne : (((S.length + 1 : Nat) : Int) == 0) = false := by simp; omega
  have hta := assert67
  clear hd hv hL hS kb bres
  unfold msgV
  go_enter Try.func16, Try.ntmps16
  go_wp2_with fail
  refine (queue_any g _).mono ?_
  rintro e w1 ⟨rfl, rfl⟩
  go_wp2_with fail
  refine (len_any A (S.length + 1) c _).mono ?_
  rintro e w1 ⟨rfl, rfl⟩
  go_wp2_with fail
  refine (queue_any g _).mono ?_
  rintro e w1 ⟨rfl, rfl⟩
  go_wp2_with fail
  refine (hpop_any g F N q S _ HN.out HS.out).mono ?_
  rintro e w2 ⟨rfl, F2, hn2, ha2, hk2⟩
  have hb2 := HB.out.keep hk2 hnF
  have hbl := hb2.lt
  have r0 := hb2.cell 0
  have r1 := hb2.cell 1
  have r2 := hb2.cell 2
  have r3 := hb2.cell 3
  have f0 := hb2.free 0
  have f1 := hb2.free 1
  have f2 := hb2.free 2
  have f3 := hb2.free 3
  simp at r0 r1 r2 r3
  have HF := hide (And.intro hn2 (And.intro ha2 hk2))
  clear hn2 ha2 hk2 hb2 HB hml hne
  unfold Par.cells
  go_wp2_with fail
  go_region
  all_goals
    go_wp2_with fail
    refine bodyPost_ret (v := .tuple #[.agg #[.int .i64 q.fr, .int .i64 q.to, .int .i64 q.num, .string q.tx], .int .i64 q.time, .bool true]) (by simp [results, Try.results16, go_sem, hbl, r0, r1, r2, r3]) rfl ⟨rfl, ?_⟩
    exact next_end HK.out HF.out.1 HF.out.2.1 HF.out.2.2 hnF _ _ _ _ _

theorem send_nil (now : Int) (a b n : Int) (x : ByteArray) (w : World) : Calls Try.prog 14 #[.pointer none, .int .i64 now, msgV a b n x] w fun e w' => e = .returned (.tuple #[]) ∧ Keeps [] w w' := by
  have HK := hide ((Keeps.refl [] w).alloc (.cells #[.int .i64 a, .int .i64 b, .int .i64 n, .string x] 31))
  unfold msgV
  go_enter Try.func14, Try.ntmps14
  go_wp2_with fail
  exact bodyPost_ret (v := .tuple #[]) (by simp [results, Try.results14, go_sem]) rfl ⟨rfl, HK.out⟩
theorem next_nil (w : World) : Calls Try.prog 16 #[.pointer none] w fun e w' => e = .returned (.tuple #[msgV 0 0 0 ⟨#[]⟩, .int .i64 0, .bool false]) ∧ Keeps [] w w' := by
  have HK := hide ((Keeps.refl [] w).alloc (.cells #[.int .i64 0, .int .i64 0, .int .i64 0, .string ⟨#[]⟩] 31))
  unfold msgV
  go_enter Try.func16, Try.ntmps16
  go_wp2_with fail
  exact bodyPost_ret (v := .tuple #[.agg #[.int .i64 0, .int .i64 0, .int .i64 0, .string ⟨#[]⟩], .int .i64 0, .bool false]) (by simp [results, Try.results16, go_sem]) rfl ⟨rfl, HK.out⟩
theorem waiting_nil (w : World) : Calls Try.prog 18 #[.pointer none] w fun e w' => e = .returned (.int .i64 0) ∧ w = w' := by
  go_enter Try.func18, Try.ntmps18
  go_wp2_with fail
  go_ret
  exact ⟨rfl, rfl⟩
end Go.Proofs.Ytefjoiinoaofcaa

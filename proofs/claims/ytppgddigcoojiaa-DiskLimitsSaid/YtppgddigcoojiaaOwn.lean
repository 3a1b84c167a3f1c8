/- The walk of DiskOwn. -/
import Derived.Test.YtppgddigcoojiaaCrashes
namespace Go.Proofs.Ytppgddigcoojiaa
open Go.RowKit
attribute [local go_sem ↓] Go.wp_at_zero Go.wp_at_succ

theorem writeE_ok (S : DS) (off : Int) (s : List UInt8) (hf : S.failing = false) (h0 : 0 ≤ off) (h : off + s.length ≤ 16777216) : writeE S off s = 0 := by
  have : wbad off s.length = false := by simp [wbad]; omega
  simp [writeE, this, DS.off, hf]
theorem writeD_ok (S : DS) (off : Int) (s : List UInt8) (hf : S.failing = false) (h0 : 0 ≤ off) (h : off + s.length ≤ 16777216) : writeD S off s = writeS (callS S) off.toNat s := by
  have : wbad off s.length = false := by simp [wbad]; omega
  simp [writeD, this, DS.off, hf]
theorem syncE_ok (S : DS) (hf : S.failing = false) : syncE S = 0 := by simp [syncE, DS.off, hf]
theorem syncD_ok (S : DS) (hf : S.failing = false) : syncD S = syncS (callS S) := by simp [syncD, DS.off, hf]
theorem writeD_failing (S : DS) (off : Int) (s : List UInt8) : (writeD S off s).failing = S.failing := by
  unfold writeD; split
  · rfl
  · split <;> rfl
theorem syncD_failing (S : DS) : (syncD S).failing = S.failing := by
  unfold syncD; split <;> rfl
theorem partsF_le : ∀ (f off : Nat) (s : List UInt8), (partsF f off s).length ≤ f
  | 0, _, _ => by simp [partsF]
  | f + 1, off, s => by
    unfold partsF
    split
    · simp
    · have := partsF_le f (off + min (64 - off % 64) s.length) (s.drop (min (64 - off % 64) s.length))
      simp
      omega
theorem writeD_grows (S : DS) (off : Int) (s : List UInt8) : (writeD S off s).calls ≤ S.calls + 1 ∧ (writeD S off s).pieces.length ≤ S.pieces.length + s.length := by
  have := partsF_le s.length off.toNat s
  unfold writeD; split
  · exact ⟨by omega, by omega⟩
  · split
    · exact ⟨by omega, by omega⟩
    · simp [writeS, callS, partsL]; omega
theorem syncD_grows (S : DS) : (syncD S).calls ≤ S.calls + 1 ∧ (syncD S).pieces.length ≤ S.pieces.length := by
  unfold syncD; split
  · exact ⟨by omega, by omega⟩
  · simp [syncS, callS]

/-- A disk whose memory is all new since w0. -/
structure Held (w0 w : World) (g : Nat) (F : List Nat) (S : DS) : Prop where
  d : IsDisk w g F S
  a : Adds w0 [] F
  k : Keeps [] w0 w
theorem Held.keep {w0 w w' : World} {g : Nat} {F : List Nat} {S : DS} (h : Held w0 w g F S) (k : Keeps [] w w') : Held w0 w' g F S := ⟨h.d.keep k (apart_nil _), h.a, h.k.trans' k⟩
theorem write_held (w0 w : World) (g : Nat) (F : List Nat) (S : DS) (off : Int) (t : ByteArray) (h : Held w0 w g F S) (hf : S.failing = false) (h0 : 0 ≤ off) (h1 : off + t.size ≤ 16777216) (hc : S.calls ≤ 1000000) (hp : S.pieces.length ≤ 1000000) :
    Calls Try.prog 27 #[.pointer (some ⟨g, 0, none⟩), .int .i64 off, .string t] w fun e w' => e = .returned (.int .i64 0) ∧ ∃ F', Held w0 w' g F' (writeS (callS S) off.toNat t.data.toList) ∧ Adds w F F' ∧ Keeps F w w' := by
  have e1 : t.data.toList.length = t.size := rfl
  have e2 := writeE_ok S off t.data.toList hf h0 (by rw [e1]; exact h1)
  have e3 := writeD_ok S off t.data.toList hf h0 (by rw [e1]; exact h1)
  refine (write_any g F S off t w h.d (by omega) (by omega) (by omega) (by omega) (by omega)).mono ?_
  rintro e w' ⟨rfl, F', hd, ha, hk⟩
  rw [e3] at hd
  obtain ⟨K, A⟩ := own_step h.k h.a ha hk
  exact ⟨by rw [e2], F', ⟨hd, A, K⟩, ha, hk⟩
theorem sync_held (w0 w : World) (g : Nat) (F : List Nat) (S : DS) (h : Held w0 w g F S) (hf : S.failing = false) (hc : S.calls ≤ 1000000) :
    Calls Try.prog 28 #[.pointer (some ⟨g, 0, none⟩)] w fun e w' => e = .returned (.int .i64 0) ∧ ∃ F', Held w0 w' g F' (syncS (callS S)) ∧ Adds w F F' ∧ Keeps F w w' := by
  refine (sync_any g F S w h.d (by omega)).mono ?_
  rintro e w' ⟨rfl, F', hd, ha, hk⟩
  rw [syncD_ok S hf] at hd
  obtain ⟨K, A⟩ := own_step h.k h.a ha hk
  exact ⟨by rw [syncE_ok S hf], F', ⟨hd, A, K⟩, ha, hk⟩
theorem crash_held (w0 w : World) (g : Nat) (F : List Nat) (S : DS) (Aq : Option Addr) (cq : Nat) (q : List Int) (h : Held w0 w g F S) (hq : Src w 1 (.slice Aq q.length cq) q.length (iv q)) (hql : q.length ≤ 9223372036854775807) (hqr : ∀ x, x ∈ q → -9223372036854775808 ≤ x ∧ x ≤ 9223372036854775807) :
    Calls Try.prog 23 #[.pointer (some ⟨g, 0, none⟩), .slice Aq q.length cq] w fun e w' => ∃ g' F', e = .returned (.pointer (some ⟨g', 0, none⟩)) ∧ Held w0 w' g' F' (crashS S q) ∧ Held w0 w' g F S ∧ Apart F F' ∧ Keeps [] w w' := by
  refine (crash_ex g F S Aq cq q w h.d hq hql hqr).mono ?_
  rintro e w' ⟨g', F', rfl, hd, ha, hk⟩
  exact ⟨g', F', rfl, ⟨hd, (Adds.refl w0 []).trans ha h.k.size, h.k.trans' hk⟩, h.keep hk, (Apart.new ha h.d.all).symm, hk⟩
theorem Held.other {w0 w w' : World} {g g' : Nat} {F F' F'' : List Nat} {S S' : DS} (h : Held w0 w g F S) (h' : Held w0 w' g' F'' S') (ap : Apart F F') (k : Keeps F' w w') : Held w0 w' g F S := ⟨h.d.keep k ap, h.a, h'.k⟩

theorem parts_le (off : Nat) (s : List UInt8) : (partsL off s).length ≤ s.length := partsF_le s.length off s

set_option maxRecDepth 100000 in
set_option maxHeartbeats 3200000 in
theorem own_walk (s : ByteArray) (Aq : Option Addr) (cq : Nat) (q : List Int) (x y : Int) (w : World) (hs : s.size ≤ 140737488355328)
    (hq : Src w 1 (.slice Aq q.length cq) q.length (iv q)) (hql : q.length ≤ 9223372036854775807) (hqr : ∀ x, x ∈ q → -9223372036854775808 ≤ x ∧ x ≤ 9223372036854775807)
    (hx1 : -9223372036854775808 ≤ x) (hx2 : x ≤ 9223372036854775807) (hy1 : -9223372036854775808 ≤ y) (hy2 : y ≤ 9223372036854775807) :
    Calls Try.prog 8 #[.string s, .slice Aq q.length cq, .agg #[.int .i64 x, .int .i64 y]] w fun e w' => e = .returned (.bool true) ∧ Keeps [] w w' := by
  have m0 : 0 ≤ x % 100 := Int.emod_nonneg _ (by omega)
  have m1 : x % 100 < 100 := Int.emod_lt_of_pos _ (by omega)
  have p0 : 0 ≤ y % 100 := Int.emod_nonneg _ (by omega)
  have p1 : y % 100 < 100 := Int.emod_lt_of_pos _ (by omega)
  obtain ⟨n, hn⟩ : ∃ n : Nat, (if (150 : Int) < s.size then (150 : Int) else s.size) = n := ⟨min 150 s.size, by split <;> omega⟩
  have hn1 : n ≤ s.size ∧ n ≤ 150 := by split at hn <;> omega
  have HQ := hide (And.intro hq hqr)
  clear hq hqr
  go_enter Try.func8, Try.ntmps8
  go_wp2_with fail
  have hb0 := Bk.new w 42 #[.int .i64 x, .int .i64 y]
  have hk0 := (Keeps.refl [] w).alloc (.cells #[.int .i64 x, .int .i64 y] 42)
  generalize w.alloc (.cells #[.int .i64 x, .int .i64 y] 42) = w0 at hb0 hk0 ⊢
  generalize w.heap.size = gt at hb0 ⊢
  refine (sanity_any w0).mono ?_
  rintro e w1 ⟨rfl, hk1⟩
  go_wp2_with fail
  refine (new_any w1).mono ?_
  rintro e w2 ⟨rfl, hd2, hk2⟩
  have HB1 := hide (hb0.keep hk1 (by simp))
  have HK1 := hide (hk0.trans' hk1)
  have K2 := hk2
  have A2 := adds_one w1
  have HD2 := hide hd2
  clear hb0 hk0 hk1 hk2 hd2
  generalize w1.heap.size = g at HD2 A2 ⊢
  go_wp2_with fail
  obtain ⟨t, ht⟩ : ∃ t, s.extract 0 n ++ { data := #[101, 110, 100] } = t := ⟨_, rfl⟩
  have hts : t.size ≤ 153 := by
    rw [← ht, ByteArray.size_append, ByteArray.size_extract]
    have : (ByteArray.mk #[101, 110, 100]).size = 3 := rfl
    omega
  rw [ht]
  clear ht hn
  have hH2 : Held w1 w2 g [g] DS.new := ⟨HD2.out, A2, K2⟩
  clear A2 K2 HD2
  refine (write_held w1 w2 g _ _ 0 t hH2 rfl (by omega) (by omega) (by decide) (by decide)).mono ?_
  rintro e w3 ⟨rfl, F3, hH3, ha3, hk3⟩
  have H3 := hide hH3
  clear hH2 hH3 ha3 hk3
  go_wp2_with fail
  refine (sync_held w1 w3 g _ _ H3.out rfl (by simp [writeS, callS, DS.new])).mono ?_
  rintro e w4 ⟨rfl, F4, hH4, ha4, hk4⟩
  have b4 := (HB1.out.keep hH4.k (by simp)).cell 0
  simp at b4
  have H4 := hide hH4
  clear hH4 ha4 hk4 H3
  go_wp2_with fail
  refine (mod_any x 100 _ (by omega) (by omega) hx1 hx2).mono ?_
  rintro e w5 ⟨rfl, rfl⟩
  go_wp2_with fail
  refine (write_held w1 w4 g _ _ (x % 100) ⟨#[110, 101, 119]⟩ H4.out rfl (by omega) (by simp [ByteArray.size]; omega) (by simp [writeS, callS, syncS, DS.new]) (by simp [syncS])).mono ?_
  rintro e w5 ⟨rfl, F5, hH5, ha5, hk5⟩
  have H5 := hide hH5
  clear hH5 ha5 hk5 H4 b4
  obtain ⟨S5, e5⟩ : ∃ S5, writeS (callS (syncS (callS (writeS (callS DS.new) (0 : Int).toNat t.data.toList)))) (x % 100).toNat (ByteArray.mk #[110, 101, 119]).data.toList = S5 := ⟨_, rfl⟩
  have f5 : S5.failing = false := by rw [← e5]; rfl
  have c5 : S5.calls = 3 := by rw [← e5]; rfl
  have p5 : S5.pieces.length ≤ 3 := by
    rw [← e5]
    have := parts_le (x % 100).toNat (ByteArray.mk #[110, 101, 119]).data.toList
    simp [writeS, callS, syncS] at this ⊢
    exact this
  rw [e5] at H5
  clear e5
  go_wp2_with fail
  refine (crash_held w1 w5 g F5 S5 Aq cq q H5.out ((HQ.out.1.keep HK1.out (by simp)).keep H5.out.k (by simp)) hql HQ.out.2).mono ?_
  rintro e w6 ⟨gc, Fc, rfl, hC6, hD6, ap6, hk6⟩
  have HC6 := hide hC6
  have HD6 := hide hD6
  have AP := hide ap6
  clear hC6 hD6 ap6 hk6 H5
  go_wp2_with fail
  refine (read_any g F5 S5 0 500 _ HD6.out.d (by omega) (by omega) (by omega)).mono ?_
  rintro e w7 ⟨rfl, hk7⟩
  have HC7 := hide (HC6.out.keep hk7)
  have HD7 := hide (HD6.out.keep hk7)
  have b7 := (HB1.out.keep HC7.out.k (by simp)).cell 1
  simp at b7
  clear HC6 HD6 hk7
  go_wp2_with fail
  refine (mod_any y 100 _ (by omega) (by omega) hy1 hy2).mono ?_
  rintro e w8 ⟨rfl, rfl⟩
  go_wp2_with fail
  refine (write_held w1 w7 gc _ _ (y % 100) ⟨#[99, 114, 97, 115, 104]⟩ HC7.out rfl (by omega) (by simp [ByteArray.size]; omega) (by simp [crashS]) (by simp [crashS])).mono ?_
  rintro e w8 ⟨rfl, Fc8, hC8, ha8, hk8⟩
  have HC8 := hide hC8
  have HD8 := hide (HD7.out.other hC8 AP.out hk8)
  have AP8 := hide (AP.out.symm.adds ha8 HD7.out.d.all)
  clear HC7 HD7 AP hC8 ha8 hk8 b7
  obtain ⟨S8, e8⟩ : ∃ S8, writeS (callS (crashS S5 q)) (y % 100).toNat (ByteArray.mk #[99, 114, 97, 115, 104]).data.toList = S8 := ⟨_, rfl⟩
  have c8 : S8.calls = 1 := by rw [← e8]; rfl
  rw [e8] at HC8
  clear e8
  go_wp2_with fail
  refine (read_any gc Fc8 S8 0 500 _ HC8.out.d (by omega) (by omega) (by omega)).mono ?_
  rintro e w9 ⟨rfl, hk9⟩
  have HC9 := hide (HC8.out.keep hk9)
  have HD9 := hide (HD8.out.keep hk9)
  clear HC8 HD8 hk9
  go_wp2_with fail
  refine (read_any g F5 S5 0 500 _ HD9.out.d (by omega) (by omega) (by omega)).mono ?_
  rintro e w10 ⟨rfl, hk10⟩
  have HC10 := hide (HC9.out.keep hk10)
  have HD10 := hide (HD9.out.keep hk10)
  clear HC9 HD9 hk10
  go_wp2_with fail
  refine (write_held w1 w10 g _ _ 0 ⟨#[99, 104, 97, 110, 103, 101, 100, 32, 97, 103, 97, 105, 110]⟩ HD10.out f5 (by omega) (by simp [ByteArray.size]) (by omega) (by omega)).mono ?_
  rintro e w11 ⟨rfl, F11, hD11, ha11, hk11⟩
  have HC11 := hide (HC10.out.other hD11 AP8.out hk11)
  clear HC10 HD10 hD11 ha11 hk11 AP8
  go_wp2_with fail
  refine (read_any gc Fc8 S8 0 500 _ HC11.out.d (by omega) (by omega) (by omega)).mono ?_
  rintro e w12 ⟨rfl, hk12⟩
  have HC12 := hide (HC11.out.keep hk12)
  clear HC11 hk12
  go_wp2_with fail
  refine (calls_at gc Fc8 S8 1 _ HC12.out.d c8).mono ?_
  rintro e w13 ⟨rfl, rfl⟩
  go_wp2_with fail
  go_ret
  exact ⟨rfl, HK1.out.trans' HC12.out.k⟩
end Go.Proofs.Ytppgddigcoojiaa

/- The walk of DiskBytes. -/
import Derived.Test.YtppgddigcoojiaaOwn
namespace Go.Proofs.Ytppgddigcoojiaa
open Go.RowKit
attribute [local go_sem ↓] Go.wp_at_zero Go.wp_at_succ

/-- A byte behind putL: the old one, one of the text, or a filled gap. -/
theorem putL_get (c : List UInt8) (off : Nat) (s : List UInt8) (i : Nat) (h : i < (putL c off s).length) :
    (i < c.length ∧ (putL c off s)[i]? = c[i]?) ∨ (off ≤ i ∧ i < off + s.length ∧ (putL c off s)[i]? = s[i - off]?) ∨ (c.length ≤ i ∧ (putL c off s)[i]? = some 0) := by
  have hl := putL_length c off s
  rw [hl] at h
  unfold putL
  generalize hz : c ++ List.replicate (off + s.length - c.length) (0 : UInt8) = z
  have hzl : z.length = c.length + (off + s.length - c.length) := by rw [← hz]; simp
  have hzi : ∀ j, j < z.length → (j < c.length ∧ z[j]? = c[j]?) ∨ (c.length ≤ j ∧ z[j]? = some 0) := by
    intro j hj
    rw [← hz]
    by_cases hc : j < c.length
    · exact .inl ⟨hc, List.getElem?_append_left hc⟩
    · refine .inr ⟨by omega, ?_⟩
      rw [List.getElem?_append_right (by omega), List.getElem?_replicate, if_pos (by omega)]
  by_cases h1 : i < off
  · rw [List.append_assoc, List.getElem?_append_left (by simp; omega), List.getElem?_take_of_lt h1]
    rcases hzi i (by omega) with h | h
    · exact .inl h
    · exact .inr (.inr h)
  · by_cases h2 : i < off + s.length
    · refine .inr (.inl ⟨by omega, h2, ?_⟩)
      rw [List.append_assoc, List.getElem?_append_right (by simp; omega), List.getElem?_append_left (by simp; omega)]
      simp
      rw [Nat.min_eq_left (by omega)]
    · rw [List.getElem?_append_right (by simp; omega), List.getElem?_drop]
      have e : off + s.length + (i - ((z.take off) ++ s).length) = i := by simp; omega
      rw [e]
      rcases hzi i (by omega) with h | h
      · exact .inl h
      · exact .inr (.inr h)
/-- The bytes behind a crash: a's, the later text's (all v, in the range off .. off + n), or zero. -/
def Fine (a : List UInt8) (off n : Nat) (v : UInt8) (c : List UInt8) : Prop :=
  a.length ≤ c.length ∧ c.length ≤ max a.length (off + n) ∧ ∀ i, i < c.length → (i < a.length ∧ c[i]? = a[i]?) ∨ (off ≤ i ∧ i < off + n ∧ c[i]? = some v) ∨ (a.length ≤ i ∧ c[i]? = some 0)
theorem Fine.put {a : List UInt8} {off n : Nat} {v : UInt8} {c : List UInt8} (h : Fine a off n v c) (o : Nat) (s : List UInt8) (ho : off ≤ o) (hs : o + s.length ≤ off + n) (hv : ∀ x ∈ s, x = v) : Fine a off n v (putL c o s) := by
  obtain ⟨h1, h2, h3⟩ := h
  have hl := putL_length c o s
  refine ⟨by omega, by omega, fun i hi => ?_⟩
  rcases putL_get c o s i hi with ⟨q1, q2⟩ | ⟨q1, q2, q3⟩ | ⟨q1, q2⟩
  · rw [q2]
    exact h3 i q1
  · refine .inr (.inl ⟨by omega, by omega, ?_⟩)
    rw [q3, List.getElem?_eq_getElem (by omega)]
    rw [hv _ (List.getElem_mem _)]
  · exact .inr (.inr ⟨by omega, q2⟩)
theorem partsF_in : ∀ (f off : Nat) (s : List UInt8) (v : UInt8), (∀ x ∈ s, x = v) → ∀ p ∈ partsF f off s, off ≤ p.1 ∧ p.1 + p.2.length ≤ off + s.length ∧ ∀ x ∈ p.2, x = v
  | 0, off, s, v, _ => by simp [partsF]
  | f + 1, off, s, v, hv => by
    unfold partsF
    split
    · simp
    · intro p hp
      rcases List.mem_cons.1 hp with rfl | hp
      · exact ⟨Nat.le_refl _, by simp; omega, fun x hx => hv x (List.mem_of_mem_take hx)⟩
      · have := partsF_in f _ _ v (fun x hx => hv x (List.mem_of_mem_drop hx)) p hp
        simp at this
        exact ⟨by omega, by omega, this.2.2⟩
theorem Fine.crash {a : List UInt8} {off n : Nat} {v : UInt8} (q : List Int) : ∀ (k : Nat) (c : List UInt8) (ps : List (Nat × List UInt8)), Fine a off n v c → (∀ p ∈ ps, off ≤ p.1 ∧ p.1 + p.2.length ≤ off + n ∧ ∀ x ∈ p.2, x = v) → Fine a off n v (crashFrom q k c ps)
  | k, c, [], h, _ => h
  | k, c, p :: ps, h, hp => by
    unfold crashFrom
    obtain ⟨h1, h2, h3⟩ := hp p (by simp)
    refine Fine.crash q (k + 1) _ ps ?_ (fun x hx => hp x (by simp [hx]))
    split
    · exact h.put p.1 p.2 h1 h2 h3
    · exact h
theorem Fine.self (a : List UInt8) (off n : Nat) (v : UInt8) : Fine a off n v a := ⟨Nat.le_refl _, by omega, fun _ hi => .inl ⟨hi, rfl⟩⟩
theorem putL_new (a : List UInt8) : putL [] 0 a = a := by unfold putL; simp
/-- The law's disk behind its crash. -/
theorem bytes_law (a : List UInt8) (off n : Nat) (v : UInt8) (q : List Int) : Fine a off n v (crashS (writeS (callS (syncS (callS (writeS (callS DS.new) 0 a)))) off (List.replicate n v)) q).now := by
  show Fine a off n v (crashFrom q 0 (putL [] 0 a) ([] ++ partsL off (List.replicate n v)))
  rw [putL_new]
  refine Fine.crash q 0 a _ (Fine.self a off n v) fun p hp => ?_
  have := partsF_in _ off (List.replicate n v) v (fun x hx => List.eq_of_mem_replicate hx) p hp
  simpa using this
theorem readL_all (c : List UInt8) : readL c 0 c.length = c := by
  unfold readL
  split
  · rename_i h
    have : c.length = 0 := by omega
    exact (List.eq_nil_of_length_eq_zero this).symm
  · have : (min (c.length : Int) (c.length - 0)).toNat = c.length := by omega
    rw [this]
    simp

theorem byte_get (b : ByteArray) (k : Nat) (h : k < b.size) : b.data.toList[k]? = some (b[k]'h) := by
  rw [Array.getElem?_toList, Array.getElem?_eq_getElem h]
  rfl
set_option maxRecDepth 100000 in
set_option maxHeartbeats 3200000 in
theorem bytes_walk (s : ByteArray) (x y : Int) (Aq : Option Addr) (cq : Nat) (q : List Int) (w : World) (hs : s.size ≤ 140737488355328)
    (hx1 : -9223372036854775808 ≤ x) (hx2 : x ≤ 9223372036854775807) (hy1 : -9223372036854775808 ≤ y) (hy2 : y ≤ 9223372036854775807)
    (hq : Src w 1 (.slice Aq q.length cq) q.length (iv q)) (hql : q.length ≤ 9223372036854775807) (hqr : ∀ x, x ∈ q → -9223372036854775808 ≤ x ∧ x ≤ 9223372036854775807) :
    Calls Try.prog 5 #[.string s, .agg #[.int .i64 x, .int .i64 y], .slice Aq q.length cq] w fun e w' => e = .returned (.bool true) ∧ Keeps [] w w' := by
  have m0 : 0 ≤ x % 250 := Int.emod_nonneg _ (by omega)
  have m1 : x % 250 < 250 := Int.emod_lt_of_pos _ (by omega)
  have p0 : 0 ≤ y % 200 := Int.emod_nonneg _ (by omega)
  have p1 : y % 200 < 200 := Int.emod_lt_of_pos _ (by omega)
  obtain ⟨off, hoff⟩ : ∃ k : Nat, x % 250 = k := ⟨(x % 250).toNat, by omega⟩
  obtain ⟨bn, hbn⟩ : ∃ k : Nat, 1 + y % 200 = k := ⟨(1 + y % 200).toNat, by omega⟩
  have ob : off < 250 := by omega
  have bb : bn ≤ 200 := by omega
  have wbn : IntKind.i64.wrap (1 + y % 200) = bn := by rw [hbn]; exact IntWalk.i64_in _ (by omega)
  clear m0 m1 p0 p1 hbn
  obtain ⟨n, hn⟩ : ∃ n : Nat, (if (200 : Int) < s.size then (200 : Int) else s.size) = n := ⟨min 200 s.size, by split <;> omega⟩
  have hn1 : n ≤ s.size ∧ n ≤ 200 := by split at hn <;> omega
  have HQ := hide (And.intro hq hqr)
  clear hq hqr
  go_enter Try.func5, Try.ntmps5
  go_wp2_with fail
  have hb0 := Bk.new w 42 #[.int .i64 x, .int .i64 y]
  have hk0 := (Keeps.refl [] w).alloc (.cells #[.int .i64 x, .int .i64 y] 42)
  generalize w.alloc (.cells #[.int .i64 x, .int .i64 y] 42) = w0 at hb0 hk0 ⊢
  generalize w.heap.size = gt at hb0 ⊢
  refine (sanity_any w0).mono ?_
  rintro e w1 ⟨rfl, hk1⟩
  go_wp2_with fail
  refine (new_any w1).mono ?_
  rintro e w2 ⟨rfl, hd2, hk2⟩
  have HK1 := hide (hk0.trans' hk1)
  have hH2 : Held w1 w2 w1.heap.size [w1.heap.size] DS.new := ⟨hd2, adds_one w1, hk2⟩
  have b2 := (hb0.keep hk1 (by simp)).keep hk2 (by simp)
  have b20 := b2.cell 0
  have b21 := b2.cell 1
  simp at b20 b21
  have HH2 := hide hH2
  clear hb0 hk0 hk1 hk2 hd2 hH2 b2
  generalize w1.heap.size = g at HH2 ⊢
  go_wp2_with fail
  refine (mod_any x 250 _ (by omega) (by omega) hx1 hx2).mono ?_
  rintro e w3 ⟨rfl, rfl⟩
  rw [hoff]
  obtain ⟨a, ha⟩ : ∃ a, s.extract 0 n = a := ⟨_, rfl⟩
  have has : a.size = n := by rw [← ha, ByteArray.size_extract]; omega
  rw [ha]
  clear ha hn
  go_wp2_with fail
  refine (mod_any y 200 _ (by omega) (by omega) hy1 hy2).mono ?_
  rintro e w3 ⟨rfl, rfl⟩
  go_wp2_with fail
  refine (repeated_any 238 bn _ (by omega)).mono ?_
  rintro e w3 ⟨rfl, hk3⟩
  have HH3 := hide (HH2.out.keep hk3)
  obtain ⟨b, hb⟩ : ∃ b, bs (List.replicate bn (238 : UInt8)) = b := ⟨_, rfl⟩
  have hbl : b.data.toList = List.replicate bn 238 := by rw [← hb]; rfl
  have hbs : b.size = bn := by rw [← hb]; simp [bs, ByteArray.size]
  rw [hb]
  have HBL := hide hbl
  clear hb hbl hk3 b20 b21 HH2
  go_wp2_with fail
  refine (write_held w1 w3 g _ _ 0 a HH3.out rfl (by omega) (by omega) (by decide) (by decide)).mono ?_
  rintro e w4 ⟨rfl, F4, hH4, ha4, hk4⟩
  have HH4 := hide hH4
  clear hH4 ha4 hk4 HH3
  go_wp2_with fail
  refine (sync_held w1 w4 g _ _ HH4.out rfl (by simp [writeS, callS, DS.new])).mono ?_
  rintro e w5 ⟨rfl, F5, hH5, ha5, hk5⟩
  have HH5 := hide hH5
  clear hH5 ha5 hk5 HH4
  go_wp2_with fail
  refine (write_held w1 w5 g _ _ off b HH5.out rfl (by omega) (by omega) (by simp [writeS, callS, syncS, DS.new]) (by simp [syncS])).mono ?_
  rintro e w6 ⟨rfl, F6, hH6, ha6, hk6⟩
  have HH6 := hide hH6
  clear hH6 ha6 hk6 HH5
  go_wp2_with fail
  refine (crash_held w1 w6 g F6 _ Aq cq q HH6.out ((HQ.out.1.keep HK1.out (by simp)).keep HH6.out.k (by simp)) hql HQ.out.2).mono ?_
  rintro e w7 ⟨gc, Fc, rfl, hC7, hD7, ap7, hk7⟩
  have hfine := bytes_law a.data.toList off bn 238 q
  rw [← HBL.out] at hfine
  have HF : Hid (Fine a.data.toList off bn 238 (crashS (writeS (callS (syncS (callS (writeS (callS DS.new) (0 : Int).toNat a.data.toList)))) (off : Int).toNat b.data.toList) q).now) := hide hfine
  have HC7 := hide hC7
  clear hfine hC7 hD7 ap7 hk7 HH6
  generalize crashS (writeS (callS (syncS (callS (writeS (callS DS.new) (0 : Int).toNat a.data.toList)))) (off : Int).toNat b.data.toList) q = S at HC7 HF
  obtain ⟨len, hlen⟩ : ∃ len, S.now.length = len := ⟨_, rfl⟩
  have e1 : a.data.toList.length = n := has
  have hl1 : n ≤ len := by have := HF.out.1; omega
  have hl2 : len ≤ max n (off + bn) := by have := HF.out.2.1; rw [e1] at this; omega
  have d1 : decide ((len : Int) < n) = false := by simp; omega
  obtain ⟨mx, hmx⟩ : ∃ mx : Nat, (if (n : Int) < (off : Int) + bn then (off : Int) + bn else n) = mx := ⟨max n (off + bn), by split <;> omega⟩
  have hmx2 : len ≤ mx := by split at hmx <;> omega
  have d2 : decide ((mx : Int) < len) = false := by simp; omega
  go_wp2_with fail
  refine (size_at gc Fc S len w7 HC7.out.d hlen).mono ?_
  rintro e w8 ⟨rfl, rfl⟩
  go_wp2_with fail
  refine (size_at gc Fc S len w7 HC7.out.d hlen).mono ?_
  rintro e w8 ⟨rfl, rfl⟩
  go_wp2_with fail
  refine (size_at gc Fc S len w7 HC7.out.d hlen).mono ?_
  rintro e w8 ⟨rfl, rfl⟩
  go_wp2_with fail
  refine (read_at gc Fc S 0 len S.now w7 HC7.out.d (by omega) (by omega) (by have := HC7.out.d.ok.now; omega) (by rw [← hlen]; exact readL_all _)).mono ?_
  rintro e w8 ⟨rfl, hk8⟩
  have HC8 := hide (HC7.out.keep hk8)
  clear HC7 hk8 hmx hmx2 d1 d2
  obtain ⟨got, hgot⟩ : ∃ got : ByteArray, ⟨S.now.toArray⟩ = got := ⟨_, rfl⟩
  have hgl : got.size = len := by rw [← hgot]; simpa [ByteArray.size] using hlen
  have hgd : got.data.toList = S.now := by rw [← hgot]
  rw [hgot]
  have HG := hide hgd
  clear hgot hgd
  go_wp2_with fail
  refine (size_at gc Fc S len w8 HC8.out.d hlen).mono ?_
  rintro e w9 ⟨rfl, rfl⟩
  go_wp2_with fail
  go_loopw [17] (fun i wr => ∃ k : Nat, i = .int .i64 k ∧ k ≤ len ∧ Keeps [] w8 wr) (fun i _ => len - (intOf i).toNat)
  case atStart => exact ⟨0, rfl, Nat.zero_le _, Keeps.refl _ _⟩
  case round =>
    obtain ⟨k, rfl, hk, hkw⟩ := hrel
    have HKW := hide hkw
    clear hkw
    by_cases hlt : k < len
    · have hf := HF.out.2.2 k (by omega)
      have hg1 : k < got.size := by omega
      rw [← HG.out, byte_get got k hg1] at hf
      have z1 : (k : Int) < got.size := by omega
      have z0 : (0 : Int) ≤ k := by omega
      have wo : IntKind.i64.wrap ((off : Int) + bn) = off + bn := IntWalk.i64_in _ (by omega)
      by_cases hka : k < n
      · have ha1 : k < a.size := by omega
        rw [byte_get a k ha1, e1] at hf
        have z2 : (k : Int) < a.size := by omega
        have dk : decide ((k : Int) < n) = true := by simp; omega
        have dk2 : decide ((n : Int) ≤ k) = false := by simp; omega
        by_cases hA : got[k] = a[k]
        · have hB : (((got[k]'hg1).toNat : Int) == ((a[k]'ha1).toNat : Int)) = true := by rw [hA]; simp
          clear hf hA
          go_wp2_with fail
          go_quiet (fail)
          go_wp2_with fail
          all_goals
            go_roundw
            case rel => exact ⟨k + 1, by go_num, by omega, HKW.out.drewN _⟩
            case measure => simp [intOf]; omega
        · have hB : (((got[k]'hg1).toNat : Int) == ((a[k]'ha1).toNat : Int)) = false := by
            simp only [beq_eq_false_iff_ne, ne_eq]
            intro h
            exact hA (UInt8.toNat_inj.1 (by omega))
          obtain ⟨ho1, ho2, hv⟩ : off ≤ k ∧ k < off + bn ∧ got[k] = 238 := by
            rcases hf with h | h | h
            · exact absurd (by simpa using h.2) hA
            · exact ⟨h.1, h.2.1, by simpa using h.2.2⟩
            · omega
          have hC : (((got[k]'hg1).toNat : Int) == 238) = true := by rw [hv]; rfl
          have do1 : decide ((off : Int) ≤ k) = true := by simp; omega
          have do2 : decide ((k : Int) < off + bn) = true := by simp; omega
          clear hf hA hv
          go_wp2_with fail
          go_quiet (fail)
          go_wp2_with fail
          all_goals
            go_roundw
            case rel => exact ⟨k + 1, by go_num, by omega, HKW.out.drewN _⟩
            case measure => simp [intOf]; omega
      · have dk : decide ((k : Int) < n) = false := by simp; omega
        have dk2 : decide ((n : Int) ≤ k) = true := by simp; omega
        by_cases hA : off ≤ k ∧ k < off + bn ∧ got[k] = 238
        · obtain ⟨ho1, ho2, hv⟩ := hA
          have hC : (((got[k]'hg1).toNat : Int) == 238) = true := by rw [hv]; rfl
          have do1 : decide ((off : Int) ≤ k) = true := by simp; omega
          have do2 : decide ((k : Int) < off + bn) = true := by simp; omega
          clear hf hv
          go_wp2_with fail
          go_quiet (fail)
          go_wp2_with fail
          all_goals
            go_roundw
            case rel => exact ⟨k + 1, by go_num, by omega, HKW.out.drewN _⟩
            case measure => simp [intOf]; omega
        · have hv : got[k] = 0 := by
            rcases hf with h | h | h
            · omega
            · exact absurd ⟨h.1, h.2.1, by simpa using h.2.2⟩ hA
            · simpa using h.2
          have hC : (((got[k]'hg1).toNat : Int) == 0) = true := by rw [hv]; rfl
          clear hf hA hv
          go_wp2_with fail
          go_quiet (fail)
          go_wp2_with fail
          all_goals
            go_roundw
            case rel => exact ⟨k + 1, by go_num, by omega, HKW.out.drewN _⟩
            case measure => simp [intOf]; omega
    · have dk : decide ((k : Int) < len) = false := by simp; omega
      go_wp2_with fail
      go_ret
      exact ⟨rfl, (HK1.out.trans' HC8.out.k).trans' HKW.out⟩
end Go.Proofs.Ytppgddigcoojiaa

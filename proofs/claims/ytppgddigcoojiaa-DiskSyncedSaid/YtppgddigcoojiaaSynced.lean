/- The walk of DiskSynced. -/
import Derived.Test.YtppgddigcoojiaaOwn
namespace Go.Proofs.Ytppgddigcoojiaa
open Go.RowKit
attribute [local go_sem ↓] Go.wp_at_zero Go.wp_at_succ

theorem putL_take (c : List UInt8) (off : Nat) (s : List UInt8) (n : Nat) (hn : n ≤ c.length) (ho : n ≤ off) : (putL c off s).take n = c.take n ∧ n ≤ (putL c off s).length := by
  constructor
  · unfold putL
    rw [List.append_assoc, List.take_append_of_le_length (by simp; omega), List.take_take, List.take_append_of_le_length (by omega), Nat.min_eq_left ho]
  · rw [putL_length]; omega
theorem partsF_ge : ∀ (f off : Nat) (s : List UInt8), ∀ p ∈ partsF f off s, off ≤ p.1
  | 0, off, s => by simp [partsF]
  | f + 1, off, s => by
    unfold partsF
    split
    · simp
    · intro p hp
      rcases List.mem_cons.1 hp with rfl | hp
      · exact Nat.le_refl _
      · have := partsF_ge f _ _ p hp
        omega
theorem crashFrom_take (q : List Int) (n : Nat) : ∀ (k : Nat) (c : List UInt8) (ps : List (Nat × List UInt8)), n ≤ c.length → (∀ p ∈ ps, n ≤ p.1) → (crashFrom q k c ps).take n = c.take n ∧ n ≤ (crashFrom q k c ps).length
  | k, c, [], hn, _ => ⟨rfl, hn⟩
  | k, c, p :: ps, hn, hp => by
    unfold crashFrom
    have h1 := putL_take c p.1 p.2 n hn (hp p (by simp))
    have hc : (if surv q k then putL c p.1 p.2 else c).take n = c.take n ∧ n ≤ (if surv q k then putL c p.1 p.2 else c).length := by
      split
      · exact h1
      · exact ⟨rfl, hn⟩
    have ih := crashFrom_take q n (k + 1) (if surv q k then putL c p.1 p.2 else c) ps hc.2 (fun x hx => hp x (by simp [hx]))
    exact ⟨ih.1.trans hc.1, ih.2⟩
theorem readL_take (c : List UInt8) (n : Nat) : readL c 0 n = c.take n := by
  unfold readL
  split
  · rename_i h
    rcases h with h | h | h
    · omega
    · have : n = 0 := by omega
      subst this; simp
    · have : c = [] := by
        apply List.eq_nil_of_length_eq_zero; omega
      subst this; simp
  · have : (min (n : Int) (c.length - 0)).toNat = min n c.length := by omega
    rw [this]
    simp
/-- What was synced survives a crash behind a Write further off. -/
theorem synced_law (S : DS) (off : Int) (s : List UInt8) (q : List Int) (ho : (S.now.length : Int) ≤ off) :
    readL (crashS (writeS (callS (syncS (callS S))) off.toNat s) q).now 0 S.now.length = readL (syncS (callS S)).now 0 S.now.length := by
  rw [readL_take, readL_take]
  have := crashFrom_take q S.now.length 0 S.now (partsL off.toNat s) (Nat.le_refl _) (fun p hp => by
    have := partsF_ge _ _ _ p hp
    omega)
  exact this.1
/-- A write act leaves the power as it is. -/
theorem act_write_failing (S : DS) (o n : Int) (t : ByteArray) : (doS S ⟨0, o, n, t⟩).failing = S.failing := by
  simp [doS, writeD_failing]
theorem writeD_now (S : DS) (off : Int) (s : List UInt8) (B : Nat) (h : S.now.length ≤ B) (ho : off.toNat + s.length ≤ B) : (writeD S off s).now.length ≤ B := by
  unfold writeD
  split
  · exact h
  · split
    · exact h
    · show (putL S.now off.toNat s).length ≤ B
      rw [putL_length]; omega
theorem act_write_now (S : DS) (o n : Int) (t : ByteArray) (ho : o < 4) (h : S.now.length ≤ 300) : (doS S ⟨0, o, n, t⟩).now.length ≤ 300 := by
  have hl := longB_size t n
  have e : (longB t n).data.toList.length = (longB t n).size := rfl
  simp only [doS]
  refine writeD_now S _ _ 300 h ?_
  have : (whereI o).toNat ≤ 4 := by
    unfold whereI
    split
    · omega
    · have : o % 300 = o := Int.emod_eq_of_lt (by omega) (by omega)
      omega
  omega
theorem tmod4_small (x : Int) : -4 < x.tmod 4 ∧ x.tmod 4 < 4 := ⟨Int.lt_tmod_of_pos x (by omega), Int.tmod_lt_of_pos x (by omega)⟩

/-- 'Going' with the power on. -/
def GoingF (w : World) (gx : Nat) (B : Nat) (wr : World) : Prop :=
  ∃ gd gm Fd Fm S M, DeskAt wr gx gd gm Fd Fm S M ∧ Sim S M ∧ S.calls ≤ B ∧ S.pieces.length ≤ 200 * B ∧ Adds w [] (gx :: (Fd ++ Fm)) ∧ Keeps [] w wr ∧ S.failing = false ∧ S.now.length ≤ 300
theorem GoingF.start {w w1 w2 : World} (hd : IsDisk w1 w.heap.size [w.heap.size] DS.new) (k1 : Keeps [] w w1) (hm : IsRef w2 w1.heap.size [w1.heap.size] DS.new) (k2 : Keeps [] w1 w2) :
    GoingF w w2.heap.size 0 (w2.alloc (.cells #[.pointer (some ⟨w.heap.size, 0, none⟩), .pointer (some ⟨w1.heap.size, 0, none⟩)] 30)) := by
  refine ⟨_, _, _, _, _, _, desk_new hd k1 hm k2, Sim.new, by simp [DS.new], by simp [DS.new], ?_, (k1.trans' k2).alloc _, rfl, by simp [DS.new]⟩
  have s1 := k1.size
  have s2 := k2.size
  intro i hi
  simp at hi
  exact .inr (by omega)
theorem GoingF.act {w w0 wr : World} {gx B : Nat} (h : GoingF w gx B wr) (k0 : Keeps [] wr w0) (o n : Int) (t : ByteArray) (ha : (⟨0, o, n, t⟩ : ActD).ok) (ho : o < 4) (hB : B ≤ 1000000) :
    Calls Try.prog 16 #[.pointer (some ⟨gx, 0, none⟩), .agg #[.int .i64 0, .int .i64 o, .int .i64 n, .string t]] w0 fun e w' => e = .returned (.bool true) ∧ GoingF w gx (B + 1) w' := by
  obtain ⟨gd, gm, Fd, Fm, S, M, hx, hs, hc, hp, hA, hK, hf, hn⟩ := h
  refine (do_any gx gd gm Fd Fm S M ⟨0, o, n, t⟩ w0 (hx.keep0 k0) hs (by omega) (by omega) ha).mono ?_
  rintro e w' ⟨he, gd', gm', Fd', Fm', hx', hadd, hk⟩
  have hg := do_grows S ⟨0, o, n, t⟩
  have hK0 := hK.trans' k0
  refine ⟨he, gd', gm', Fd', Fm', _, _, hx', hs.act ⟨0, o, n, t⟩, by omega, by omega, ?_, hK0.trans hk hA, by rw [act_write_failing]; exact hf, act_write_now S o n t ho hn⟩
  intro i hi
  rw [List.mem_cons] at hi
  rcases hi with rfl | hi
  · exact hA i (by simp)
  · rcases hadd i hi with h | h
    · exact hA i (by simp [h])
    · exact .inr (Nat.le_trans hK0.size h)

set_option maxRecDepth 100000 in
set_option maxHeartbeats 3200000 in
theorem synced_walk (A : Option Addr) (c : Nat) (l : List ActD) (x y : Int) (Aq : Option Addr) (cq : Nat) (q : List Int) (w : World) (hl : Src w 4 (.slice A l.length c) l.length (acs l)) (hok : ∀ a, a ∈ l → a.ok) (hlen : l.length ≤ 9223372036854775807)
    (hx1 : -9223372036854775808 ≤ x) (hx2 : x ≤ 9223372036854775807) (hy1 : -9223372036854775808 ≤ y) (hy2 : y ≤ 9223372036854775807)
    (hq : Src w 1 (.slice Aq q.length cq) q.length (iv q)) (hql : q.length ≤ 9223372036854775807) (hqr : ∀ x, x ∈ q → -9223372036854775808 ≤ x ∧ x ≤ 9223372036854775807) :
    Calls Try.prog 6 #[.slice A l.length c, .agg #[.int .i64 x, .int .i64 y], .slice Aq q.length cq] w fun e w' => e = .returned (.bool true) ∧ Keeps [] w w' := by
  have m0 : 0 ≤ x % 100 := Int.emod_nonneg _ (by omega)
  have m1 : x % 100 < 100 := Int.emod_lt_of_pos _ (by omega)
  have p0 : 0 ≤ y % 150 := Int.emod_nonneg _ (by omega)
  have p1 : y % 150 < 150 := Int.emod_lt_of_pos _ (by omega)
  obtain ⟨xo, hxo⟩ : ∃ k : Nat, x % 100 = k := ⟨(x % 100).toNat, by omega⟩
  obtain ⟨yn, hyn⟩ : ∃ k : Nat, y % 150 = k := ⟨(y % 150).toNat, by omega⟩
  have xb : xo < 100 := by omega
  have yb : yn < 150 := by omega
  clear m0 m1 p0 p1
  have HL := hide hl
  have HOK := hide hok
  have HQ := hide (And.intro hq hqr)
  clear hl hok hq hqr
  go_enter Try.func6, Try.ntmps6
  go_wp2_with fail
  have hb0 := Bk.new w 42 #[.int .i64 x, .int .i64 y]
  have hk0 := (Keeps.refl [] w).alloc (.cells #[.int .i64 x, .int .i64 y] 42)
  generalize w.alloc (.cells #[.int .i64 x, .int .i64 y] 42) = w0 at hb0 hk0 ⊢
  generalize w.heap.size = gt at hb0 ⊢
  refine (sanity_any w0).mono ?_
  rintro e w1 ⟨rfl, hk1⟩
  go_wp2_with fail
  refine (new_any w1).mono ?_
  rintro e w2 ⟨rfl, hd2, hk2⟩
  go_wp2_with fail
  refine (rnew_any w2).mono ?_
  rintro e w3 ⟨rfl, hd3, hk3⟩
  have hst := GoingF.start hd2 hk2 hd3 hk3
  have HK1 := hide (hk0.trans' hk1)
  have HB0 := hb0.keep hk1 (by simp)
  have b10 := HB0.cell 0
  have b11 := HB0.cell 1
  simp at b10 b11
  have HB1 := hide (And.intro b10 b11)
  have c0 : (w3.alloc (.cells #[.pointer (some ⟨w1.heap.size, 0, none⟩), .pointer (some ⟨w2.heap.size, 0, none⟩)] 30)).cell? ⟨w3.heap.size, 0, none⟩ = some (.pointer (some ⟨w1.heap.size, 0, none⟩)) := by simp
  have HST := hide hst
  clear hk1 hd2 hk2 hd3 hk3 hst hb0 hk0 HB0 b10 b11
  go_wp2_with fail
  generalize hw4 : w3.alloc (.cells #[.pointer (some ⟨w1.heap.size, 0, none⟩), .pointer (some ⟨w2.heap.size, 0, none⟩)] 30) = w4 at HST c0 ⊢
  generalize w3.heap.size = gx at HST ⊢
  clear hw4 c0
  go_loopw [9] (fun i wr => ∃ k : Nat, i = .int .i64 k ∧ k ≤ l.length ∧ k ≤ 10 ∧ GoingF w1 gx k wr) (fun i _ => 10 - (intOf i).toNat)
  case atStart => exact ⟨0, rfl, Nat.zero_le _, by omega, HST.out⟩
  case round =>
    obtain ⟨k, rfl, hk, hk40, hG⟩ := hrel
    by_cases hlt : k < l.length ∧ k < 10
    · obtain ⟨hlt1, hlt2⟩ := hlt
      have kw : Keeps [] w wr := by
        obtain ⟨_, _, _, _, _, _, _, _, _, _, _, hK, _, _⟩ := hG
        exact HK1.out.trans' hK
      obtain ⟨ba, o, hA, hcells⟩ := HL.out.headN (by omega) (by omega)
      subst hA
      obtain ⟨x0, x1, x2, x3⟩ := acs_get l k l[k] (List.getElem?_eq_getElem hlt1)
      have q0 := hcells _ _ x0
      have q1 := hcells _ _ x1
      have q2 := hcells _ _ x2
      have q3 := hcells _ _ x3
      rw [← Nat.add_assoc] at q1 q2 q3
      have hok := HOK.out _ (List.getElem_mem hlt1)
      obtain ⟨ao, hao⟩ : ∃ z, l[k].off = z := ⟨_, rfl⟩
      obtain ⟨an, han⟩ : ∃ z, l[k].n = z := ⟨_, rfl⟩
      obtain ⟨at_, hat⟩ : ∃ z, l[k].text = z := ⟨_, rfl⟩
      rw [hao] at q1
      rw [han] at q2
      rw [hat] at q3
      have HC := hide (And.intro q1 (And.intro q2 q3))
      replace q1 := kw.cell q1
      replace q2 := kw.cell q2
      replace q3 := kw.cell q3
      have ht4 := tmod4_small ao
      have hact := hG.act ((Keeps.refl [] wr).drew) (ao.tmod 4) an at_ ⟨by simp only; omega, by simp only; omega, by simp only; omega, by simp only; omega, by rw [← han]; exact hok.n1, by rw [← han]; exact hok.n2, by rw [← hat]; exact hok.t⟩ ht4.2 (by omega)
      have HA := hide hact
      clear hact x0 x1 x2 x3 hcells hG kw hok hao han hat q0
      generalize hao4 : ao.tmod 4 = ao4 at HA ht4
      have d40 : decide ((k : Int) < 10) = true := by simp; omega
      go_wp2_with fail
      go_region_held3 (fun w' => w'.cell? ⟨ba, o + k * 4 + 1, none⟩ = some (.int .i64 ao) ∧ w'.cell? ⟨ba, o + k * 4 + 2, none⟩ = some (.int .i64 an) ∧ w'.cell? ⟨ba, o + k * 4 + 3, none⟩ = some (.string at_))
        (first
          | go_keep
          | exact ⟨hkq.cell HC.out.1, hkq.cell HC.out.2.1, hkq.cell HC.out.2.2⟩
          | fail)
        (first
          | (go_at_call 16; refine HA.out.mono ?_; rintro e w5 ⟨rfl, hG5⟩; have hkq : Keeps [] w w5 := HK1.out.trans' (by obtain ⟨_, _, _, _, _, _, _, _, _, _, _, hK, _, _⟩ := hG5; exact hK))
          | fail)
      have HG5 := hide hG5
      clear hG5 HA hkq HC
      go_wp2_with fail
      go_roundw
      case rel => exact ⟨k + 1, by go_num, by omega, by omega, HG5.out⟩
      case measure => simp [intOf]; omega
    · obtain ⟨gd, gm, Fd, Fm, S, M, hx, hs, hc, hp, hA, hK, hf, hnl⟩ := hG
      have c0 := hx.blk.cell 0
      simp at c0
      have hxF : gx ∉ Fd := hx.xd
      have hH : Held w1 wr gd Fd S := ⟨hx.d, fun i hi => hA i (by simp [hi]), hK⟩
      have HH := hide hH
      clear hx hs hA hK hH
      by_cases hlt1 : k < l.length
      case' pos => have d40 : decide ((k : Int) < 10) = false := by simp; omega
      all_goals
        go_wp2_with fail
        refine (sync_held w1 wr gd Fd S HH.out hf (by omega)).mono ?_
        rintro e w5 ⟨rfl, F5, hH5, ha5, hk5⟩
        have c05 := hk5.cellF c0 hxF
        have hxF5 : gx ∉ F5 := fun hi => by
          rcases ha5 gx hi with h | h
          · exact hxF h
          · exact absurd (World.block_lt_of_cell? wr _ c0) (Nat.not_lt.2 h)
        have HH5 := hide hH5
        have hn5 : (syncS (callS S)).now.length = S.now.length := rfl
        have hf5 : (syncS (callS S)).failing = false := hf
        have hc5 : (syncS (callS S)).calls ≤ 1000000 := by show S.calls + 1 ≤ _; omega
        have hp5 : (syncS (callS S)).pieces.length ≤ 1000000 := by simp [syncS]
        have hb5 : S.now.length ≤ 300 := hnl
        have HLAW : ∀ (off : Int) (s : List UInt8), (S.now.length : Int) ≤ off → readL (crashS (writeS (callS (syncS (callS S))) off.toNat s) q).now 0 S.now.length = readL (syncS (callS S)).now 0 S.now.length := fun off s => synced_law S off s q
        have HLAW := hide HLAW
        clear hH5 ha5 hk5 c0 hxF HH hf hc hp hnl
        generalize syncS (callS S) = S5 at HH5 HLAW hn5 hf5 hc5 hp5
        generalize S.now.length = n at HLAW hn5 hb5
        go_wp2_with fail
        refine (size_at gd F5 S5 n w5 HH5.out.d hn5).mono ?_
        rintro e w6 ⟨rfl, rfl⟩
        go_wp2_with fail
        refine (read_any gd F5 S5 0 n w5 HH5.out.d (by omega) (by omega) (by omega)).mono ?_
        rintro e w6 ⟨rfl, hk6⟩
        have c06 := hk6.cell c05
        have HH6 := hide (HH5.out.keep hk6)
        have b60 := HH6.out.k.cell HB1.out.1
        have b61 := HH6.out.k.cell HB1.out.2
        clear hk6 c05 HH5
        have s1 : IntKind.i64.wrap ((n : Int) + (xo : Int)) = n + xo := IntWalk.i64_in _ (by omega)
        obtain ⟨str, hstr⟩ : ∃ str, bs (List.replicate yn (121 : UInt8)) = str := ⟨_, rfl⟩
        have hsl : str.size = yn := by rw [← hstr]; simp [bs, ByteArray.size]
        have hW : Keeps [] w6 w6.drew := (Keeps.refl _ _).drew
        go_wp2_with fail
        go_region_held3 (fun w' => w'.cell? ⟨gx, 0, none⟩ = some (.pointer (some ⟨gd, 0, none⟩)) ∧ w'.cell? ⟨gt, 0, none⟩ = some (.int .i64 x) ∧ w'.cell? ⟨gt, 1, none⟩ = some (.int .i64 y))
          (first
            | go_keep
            | (go_split_ands; exact ⟨hkq.cell (by assumption), hkq.cell (by assumption), hkq.cell (by assumption)⟩)
            | (go_split_ands; exact ⟨hkq.cellF (by assumption) hxF5, (hH7.k).cell HB1.out.1, (hH7.k).cell HB1.out.2⟩)
            | fail)
          (first
            | (go_at_call 22; refine (mod_any _ _ _ (by omega) (by omega) (by omega) (by omega)).mono ?_; rintro e w7 ⟨rfl, rfl⟩; first | rw [hxo] | rw [hyn])
            | (go_at_call 26; refine (repeated_any 121 yn _ (by omega)).mono ?_; rintro e w7 ⟨rfl, hkq⟩; have hW := hW.trans' hkq; rw [hstr])
            | (go_at_call 27; refine (write_held w1 _ gd F5 S5 _ str (by exact HH6.out.keep hW) hf5 (by omega) (by omega) hc5 hp5).mono ?_; rintro e w8 ⟨rfl, F8, hH7, ha7, hkq⟩)
            | fail)
        have HL8 := hide (HLAW.out ((n : Int) + xo) str.data.toList (by omega))
        have HH8 := hide hH7
        have c08 : w8.cell? ⟨gx, 0, none⟩ = some (.pointer (some ⟨gd, 0, none⟩)) := by
          go_split_ands
          assumption
        clear HLAW hH7 ha7 hkq c06 b60 b61 HH6 hW
        generalize writeS (callS S5) ((n : Int) + xo).toNat str.data.toList = S8 at HH8 HL8
        go_wp2_with fail
        refine (crash_held w1 w8 gd F8 S8 Aq cq q HH8.out ((HQ.out.1.keep HK1.out (by simp)).keep HH8.out.k (by simp)) hql HQ.out.2).mono ?_
        rintro e w9 ⟨gc, Fc, rfl, hC9, hD9, ap9, hk9⟩
        have HC9 := hide hC9
        clear hC9 hD9 ap9 hk9 HH8
        go_wp2_with fail
        refine (read_at gc Fc _ 0 n _ w9 HC9.out.d (by omega) (by omega) (by omega) HL8.out).mono ?_
        rintro e w10 ⟨rfl, hk10⟩
        have HK10 := hide (HC9.out.k.trans' hk10)
        clear hk10
        go_wp2_with fail
        go_ret
        exact ⟨rfl, HK1.out.trans' HK10.out⟩
end Go.Proofs.Ytppgddigcoojiaa

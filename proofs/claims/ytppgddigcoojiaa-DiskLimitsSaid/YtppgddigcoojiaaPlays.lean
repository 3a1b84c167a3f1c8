/- A list of acts in memory, a new desk, and the walk of DiskPlays. -/
import Derived.Test.YtppgddigcoojiaaSane
namespace Go.Proofs.Ytppgddigcoojiaa
open Go.RowKit
attribute [local go_sem ↓] Go.wp_at_zero Go.wp_at_succ

/-- The cells of a list of acts. -/
def acs (l : List ActD) : List Value := l.flatMap fun a => [.int .i64 a.kind, .int .i64 a.off, .int .i64 a.n, .string a.text]
theorem acs_get : ∀ (l : List ActD) (k : Nat) (a : ActD), l[k]? = some a → (acs l)[k * 4]? = some (.int .i64 a.kind) ∧ (acs l)[k * 4 + 1]? = some (.int .i64 a.off) ∧ (acs l)[k * 4 + 2]? = some (.int .i64 a.n) ∧ (acs l)[k * 4 + 3]? = some (.string a.text)
  | [], k, a, h => by simp at h
  | q :: l, 0, a, h => by
    simp at h; subst h
    exact ⟨rfl, rfl, rfl, rfl⟩
  | q :: l, k + 1, a, h => by
    have ih := acs_get l k a (by simpa using h)
    have e : acs (q :: l) = .int .i64 q.kind :: .int .i64 q.off :: .int .i64 q.n :: .string q.text :: acs l := rfl
    rw [e, show (k + 1) * 4 = k * 4 + 4 by omega]
    exact ⟨by simpa using ih.1, by simpa using ih.2.1, by simpa using ih.2.2.1, by simpa using ih.2.2.2⟩
theorem Src.headN {w : World} {sz n c : Nat} {A : Option Addr} {xs : List Value} (h : Src w sz (.slice A n c) n xs) (hn : 0 < n) (hz : 0 < sz) : ∃ b o, A = some ⟨b, o, none⟩ ∧ ∀ j u, xs[j]? = some u → w.cell? ⟨b, o + j, none⟩ = some u := by
  obtain ⟨hl, A', c', hA, hnil, hc⟩ := h
  injection hA with hA _ _
  subst hA
  have hpos : 0 < xs.length := by rw [hl]; exact Nat.mul_pos hn hz
  cases A with
  | none => exact absurd (hnil rfl) (by omega)
  | some ad =>
    obtain ⟨b, o, sp⟩ := ad
    have h0 := hc _ rfl 0 xs[0] (List.getElem?_eq_getElem hpos)
    have hs : sp = none := by
      cases sp with
      | none => rfl
      | some z =>
        simp [Addr.add, World.cell?] at h0
        split at h0 <;> simp at h0
    subst hs
    refine ⟨b, o, rfl, fun j u hu => ?_⟩
    have := hc _ rfl j u hu
    have e : (⟨b, o, none⟩ : Addr).add j = ⟨b, o + j, none⟩ := by unfold Addr.add; split <;> simp_all
    rw [e] at this
    exact this

/-- A new desk. -/
theorem desk_new {w w1 w2 : World} (hd : IsDisk w1 w.heap.size [w.heap.size] DS.new) (_k1 : Keeps [] w w1) (hm : IsRef w2 w1.heap.size [w1.heap.size] DS.new) (k2 : Keeps [] w1 w2) :
    DeskAt (w2.alloc (.cells #[.pointer (some ⟨w.heap.size, 0, none⟩), .pointer (some ⟨w1.heap.size, 0, none⟩)] 30)) w2.heap.size w.heap.size w1.heap.size [w.heap.size] [w1.heap.size] DS.new DS.new := by
  have h1 := hd.all w.heap.size (by simp)
  have h2 := hm.all w1.heap.size (by simp)
  have kb := (Keeps.refl [] w2).alloc (.cells #[.pointer (some ⟨w.heap.size, 0, none⟩), .pointer (some ⟨w1.heap.size, 0, none⟩)] 30)
  exact ⟨Bk.new _ _ _, (hd.keep k2 (apart_nil _)).keep kb (apart_nil _), hm.keep kb (apart_nil _), fun i hi => by simp at hi ⊢; omega, by simp; omega, by simp; omega⟩

/-- What a loop over acts carries: the desk in some state, all of it new since w. -/
def Going (w : World) (gx : Nat) (B : Nat) (wr : World) : Prop :=
  ∃ gd gm Fd Fm S M, DeskAt wr gx gd gm Fd Fm S M ∧ Sim S M ∧ S.calls ≤ B ∧ S.pieces.length ≤ 200 * B ∧ Adds w [] (gx :: (Fd ++ Fm)) ∧ Keeps [] w wr

theorem Going.start {w w1 w2 : World} (hd : IsDisk w1 w.heap.size [w.heap.size] DS.new) (k1 : Keeps [] w w1) (hm : IsRef w2 w1.heap.size [w1.heap.size] DS.new) (k2 : Keeps [] w1 w2) :
    Going w w2.heap.size 0 (w2.alloc (.cells #[.pointer (some ⟨w.heap.size, 0, none⟩), .pointer (some ⟨w1.heap.size, 0, none⟩)] 30)) := by
  refine ⟨_, _, _, _, _, _, desk_new hd k1 hm k2, Sim.new, by simp [DS.new], by simp [DS.new], ?_, (k1.trans' k2).alloc _⟩
  have s1 := k1.size
  have s2 := k2.size
  intro i hi
  simp at hi
  exact .inr (by omega)

theorem Going.keep {w wr w' : World} {gx B : Nat} (h : Going w gx B wr) (k : Keeps [] wr w') : Going w gx B w' := by
  obtain ⟨gd, gm, Fd, Fm, S, M, hx, hs, hc, hp, hA, hK⟩ := h
  exact ⟨gd, gm, Fd, Fm, S, M, hx.keep0 k, hs, hc, hp, hA, hK.trans' k⟩
theorem Going.drew {w wr : World} {gx B : Nat} (h : Going w gx B wr) : Going w gx B wr.drew := h.keep ((Keeps.refl _ _).drew)

/-- One act more. -/
theorem Going.act {w w0 wr : World} {gx B : Nat} (h : Going w gx B wr) (k0 : Keeps [] wr w0) (a : ActD) (ha : a.ok) (hB : B ≤ 1000000) :
    Calls Try.prog 16 #[.pointer (some ⟨gx, 0, none⟩), a.val] w0 fun e w' => e = .returned (.bool true) ∧ Going w gx (B + 1) w' := by
  obtain ⟨gd, gm, Fd, Fm, S, M, hx, hs, hc, hp, hA, hK⟩ := h
  refine (do_any gx gd gm Fd Fm S M a w0 (hx.keep0 k0) hs (by omega) (by omega) ha).mono ?_
  rintro e w' ⟨he, gd', gm', Fd', Fm', hx', hadd, hk⟩
  have hg := do_grows S a
  have hK0 := hK.trans' k0
  refine ⟨he, gd', gm', Fd', Fm', _, _, hx', hs.act a, by omega, by omega, ?_, hK0.trans hk hA⟩
  intro i hi
  rw [List.mem_cons] at hi
  rcases hi with rfl | hi
  · exact hA i (by simp)
  · rcases hadd i hi with h | h
    · exact hA i (by simp [h])
    · exact .inr (Nat.le_trans hK0.size h)

set_option maxRecDepth 100000 in
set_option maxHeartbeats 1600000 in
theorem plays_walk (A : Option Addr) (c : Nat) (l : List ActD) (w : World) (hl : Src w 4 (.slice A l.length c) l.length (acs l)) (hok : ∀ a, a ∈ l → a.ok) (hlen : l.length ≤ 9223372036854775807) :
    Calls Try.prog 3 #[.slice A l.length c] w fun e w' => e = .returned (.bool true) ∧ Keeps [] w w' := by
  have HL := hide hl
  have HOK := hide hok
  clear hl hok
  go_enter Try.func3, Try.ntmps3
  go_wp2_with fail
  refine (sanity_any w).mono ?_
  rintro e w1 ⟨rfl, hk1⟩
  go_wp2_with fail
  refine (new_any w1).mono ?_
  rintro e w2 ⟨rfl, hd2, hk2⟩
  go_wp2_with fail
  refine (rnew_any w2).mono ?_
  rintro e w3 ⟨rfl, hd3, hk3⟩
  have hst := Going.start hd2 hk2 hd3 hk3
  have HK1 := hide hk1
  have c0 : (w3.alloc (.cells #[.pointer (some ⟨w1.heap.size, 0, none⟩), .pointer (some ⟨w2.heap.size, 0, none⟩)] 30)).cell? ⟨w3.heap.size, 0, none⟩ = some (.pointer (some ⟨w1.heap.size, 0, none⟩)) := by simp
  have HST := hide hst
  clear hk1 hd2 hk2 hd3 hk3 hst
  go_wp2_with fail
  generalize hw4 : w3.alloc (.cells #[.pointer (some ⟨w1.heap.size, 0, none⟩), .pointer (some ⟨w2.heap.size, 0, none⟩)] 30) = w4 at HST c0 ⊢
  generalize w3.heap.size = gx at HST ⊢
  clear hw4 c0
  go_loopw [5] (fun i wr => ∃ k : Nat, i = .int .i64 k ∧ k ≤ l.length ∧ k ≤ 40 ∧ Going w1 gx k wr) (fun i _ => 40 - (intOf i).toNat)
  case atStart => exact ⟨0, rfl, Nat.zero_le _, by omega, HST.out⟩
  case round =>
    obtain ⟨k, rfl, hk, hk40, hG⟩ := hrel
    by_cases hlt : k < l.length ∧ k < 40
    · obtain ⟨hlt1, hlt2⟩ := hlt
      have kw : Keeps [] w wr := by
        obtain ⟨_, _, _, _, _, _, _, _, _, _, _, hK⟩ := hG
        exact HK1.out.trans' hK
      obtain ⟨b, o, hA, hcells⟩ := (HL.out.keep kw (by simp)).headN (by omega) (by omega)
      subst hA
      obtain ⟨x0, x1, x2, x3⟩ := acs_get l k l[k] (List.getElem?_eq_getElem hlt1)
      have q0 := hcells _ _ x0
      have q1 := hcells _ _ x1
      have q2 := hcells _ _ x2
      have q3 := hcells _ _ x3
      rw [← Nat.add_assoc] at q1 q2 q3
      have hact := hG.act (Keeps.refl [] wr) l[k] (HOK.out _ (List.getElem_mem hlt1)) (by omega)
      have HA := hide hact
      clear hact x0 x1 x2 x3 hcells hG kw
      unfold ActD.val at HA
      have d40 : decide ((k : Int) < 40) = true := by simp; omega
      go_wp2_with fail
      refine HA.out.mono ?_
      rintro e w5 ⟨rfl, hG5⟩
      have hG5' := hG5
      obtain ⟨gd, gm, Fd, Fm, S, M, hx, hs, hc, hp, hA, hK⟩ := hG5'
      rw [hs.eq] at hx
      have c0 := hx.blk.cell 0
      have c1 := hx.blk.cell 1
      simp at c0 c1
      have HG5 := hide hG5
      have HX := hide hx
      clear hG5 hx hs hc hp hA hK HA
      go_wp2_with fail
      go_region_held3 (fun w' => w'.cell? ⟨gx, 0, none⟩ = some (.pointer (some ⟨gd, 0, none⟩)) ∧ w'.cell? ⟨gx, 1, none⟩ = some (.pointer (some ⟨gm, 0, none⟩)))
        (go_keep)
        (first
          | (go_at_call 17; refine (size_any gd Fd S _ (by exact HX.out.d.drew)).mono ?_; rintro e w2 ⟨rfl, rfl⟩)
          | (go_at_call 18; refine (rsize_any gm Fm _ _ (by exact HX.out.m.drew)).mono ?_; rintro e w2 ⟨rfl, rfl⟩)
          | (go_at_call 19; refine (calls_any gd Fd S _ (by exact HX.out.d.drew)).mono ?_; rintro e w2 ⟨rfl, rfl⟩)
          | (go_at_call 20; refine (rcalls_any gm Fm _ _ (by exact HX.out.m.drew)).mono ?_; rintro e w2 ⟨rfl, rfl⟩))
      go_wp2_with fail
      go_roundw
      case rel => exact ⟨k + 1, by go_num, by omega, by omega, HG5.out.drew⟩
      case measure => simp [intOf]; omega
    · have kw : Keeps [] w1 wr := by
        obtain ⟨_, _, _, _, _, _, _, _, _, _, _, hK⟩ := hG
        exact hK
      obtain ⟨gd, gm, Fd, Fm, S, M, hx, hs, hc, hp, hA, hK⟩ := hG
      have hsame := same_any gx gd gm Fd Fm S M wr hx hs
      have HSM := hide hsame
      have HKW := hide kw
      clear hsame hx hs hc hp hA hK kw
      by_cases hlt1 : k < l.length
      · have d40 : decide ((k : Int) < 40) = false := by simp; omega
        go_wp2_with fail
        refine HSM.out.mono ?_
        rintro e w6 ⟨rfl, hk6⟩
        have HK6 := hide hk6
        clear hk6
        go_wp2_with fail
        go_ret
        exact ⟨rfl, (HK1.out.trans' HKW.out).trans' HK6.out⟩
      · go_wp2_with fail
        refine HSM.out.mono ?_
        rintro e w6 ⟨rfl, hk6⟩
        have HK6 := hide hk6
        clear hk6
        go_wp2_with fail
        go_ret
        exact ⟨rfl, (HK1.out.trans' HKW.out).trans' HK6.out⟩
end Go.Proofs.Ytppgddigcoojiaa

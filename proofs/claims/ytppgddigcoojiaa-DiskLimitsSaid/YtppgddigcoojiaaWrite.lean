/- The parts of a Write (partsL), and the contract of Write. -/
import Derived.Test.YtppgddigcoojiaaSync
import Derived.IntWalk
import Derived.Lib.ConvBytes
namespace Go.Proofs.Ytppgddigcoojiaa
open Go.RowKit

def partsF : Nat → Nat → List UInt8 → List (Nat × List UInt8)
  | 0, _, _ => []
  | f + 1, off, s => if s = [] then [] else (off, s.take (min (64 - off % 64) s.length)) :: partsF f (off + min (64 - off % 64) s.length) (s.drop (min (64 - off % 64) s.length))
/-- The parts of a Write. -/
def partsL (off : Nat) (s : List UInt8) : List (Nat × List UInt8) := partsF s.length off s
theorem partsF_more : ∀ (f f' off : Nat) (s : List UInt8), s.length ≤ f → s.length ≤ f' → partsF f off s = partsF f' off s
  | 0, f', off, s, h, _ => by
    obtain rfl : s = [] := List.eq_nil_of_length_eq_zero (by omega)
    cases f' <;> simp [partsF]
  | f + 1, 0, off, s, _, h => by
    obtain rfl : s = [] := List.eq_nil_of_length_eq_zero (by omega)
    simp [partsF]
  | f + 1, f' + 1, off, s, h, h' => by
    unfold partsF
    by_cases h0 : s = []
    · rw [if_pos h0, if_pos h0]
    · rw [if_neg h0, if_neg h0]
      have hp : 0 < s.length := List.length_pos_iff.2 h0
      have hm : off % 64 < 64 := Nat.mod_lt _ (by omega)
      rw [partsF_more f f' _ _ (by simp; omega) (by simp; omega)]
theorem partsL_nil (off : Nat) : partsL off [] = [] := rfl
theorem partsL_cons (off : Nat) (s : List UInt8) (h : s ≠ []) : partsL off s = (off, s.take (min (64 - off % 64) s.length)) :: partsL (off + min (64 - off % 64) s.length) (s.drop (min (64 - off % 64) s.length)) := by
  have hp : 0 < s.length := List.length_pos_iff.2 h
  have hm : off % 64 < 64 := Nat.mod_lt _ (by omega)
  unfold partsL
  obtain ⟨f, hf⟩ : ∃ f, s.length = f + 1 := ⟨s.length - 1, by omega⟩
  rw [hf]
  conv => lhs; unfold partsF
  rw [if_neg h, ← hf]
  congr 1
  exact partsF_more _ _ _ _ (by simp; omega) (by simp)

def writeS (S : DS) (off : Nat) (s : List UInt8) : DS := { S with now := putL S.now off s, pieces := S.pieces ++ partsL off s }

theorem bw_keeps (w : World) (s : ByteArray) : Keeps [] w (Lib.bytesWorld w 5 s) := by
  refine ⟨?_, ?_, ?_, by rw [Lib.bytesWorld_size]; omega, fun k hk _ => Lib.bytesWorld_at_old w 5 s k hk⟩
  all_goals (unfold Lib.bytesWorld World.freeze; split <;> rfl)
theorem bw_txt (w : World) (s : ByteArray) (c : Nat) : Txt (Lib.bytesWorld w 5 s) (.slice (some ⟨w.heap.size, 0, none⟩) s.size c) s.data.toList w.heap.size := by
  refine ⟨c, _, _, by simp, Lib.bytesWorld_at_new w 5 s, ?_⟩
  simp [Lib.bytesCells, bv]

/-- The contents anew: put's row goes into the struct. -/
theorem DiskAt.setNow {w2 w3 : World} {g : Nat} {F : List Nat} {S : DS} {vn vs vp v3 : Value} {cs : List Value} (h : DiskAt w2 g F S vn vs vp cs) (L : List UInt8) (hg : w2.grownBy w3 vn.ownBlock) (hown : Own w3 5 1 v3 L.length (bv L))
    (hat : v3.ownBlock = vn.ownBlock ∨ ∃ k, v3.ownBlock = some k ∧ w2.heap.size ≤ k) (hL : L.length ≤ 16777216) :
    DiskAt (w3.setCell ⟨g, 0, none⟩ v3) g (v3.ownBlock.toList ++ F) { S with now := L } v3 vs vp cs ∧ Keeps F w2 (w3.setCell ⟨g, 0, none⟩ v3) ∧ Adds w2 F (v3.ownBlock.toList ++ F) := by
  have n1 : vn.ownBlock ≠ some g := h.now.bk_ne h.blk (by decide)
  have n2 : vs.ownBlock ≠ some g := h.syn.bk_ne h.blk (by decide)
  have n3 : vp.ownBlock ≠ some g := h.pcs.bk_ne h.blk (by decide)
  have hb3 := h.blk.grown hg (fun e => n1 e.symm)
  have hk2 : Keeps vn.ownBlock.toList w2 w3 := Keeps.of_grown hg (fun b hb => by simp [hb])
  have hk2F : Keeps F w2 w3 := Keeps.of_grown hg (fun b hb => h.nin b hb)
  have hk3 : Keeps [g] w3 (w3.setCell ⟨g, 0, none⟩ v3) := (Keeps.refl _ _).setCell (.inl (by simp)) _
  have hk : Keeps F w2 (w3.setCell ⟨g, 0, none⟩ v3) := hk2F.trans hk3 (fun i hi => .inl (by simp at hi; subst hi; exact h.gin))
  have hadd : Adds w2 F (v3.ownBlock.toList ++ F) := by
    intro k hk
    rw [List.mem_append] at hk
    rcases hk with hk | hk
    · have hk' : v3.ownBlock = some k := by simpa using hk
      rcases hat with e | ⟨j, e, hj⟩
      · exact .inl (h.nin k (by rw [← e]; exact hk'))
      · rw [hk'] at e; injection e with e; subst e; exact .inr hj
    · exact .inl hk
  have hnew : ∀ b, b < w2.heap.size → vn.ownBlock ≠ some b → v3.ownBlock ≠ some b := by
    intro b hb hn e
    rcases hat with e' | ⟨j, e', hj⟩
    · exact hn (by rw [← e']; exact e)
    · rw [e] at e'; injection e' with e'; omega
  have hv3g : v3.ownBlock ≠ some g := hnew g h.blk.lt n1
  refine ⟨⟨hb3.set 0 _, by simp [h.gin], hown.keep hk3 (fun b hb => by simp; rintro rfl; exact hv3g hb), ?_, ?_, ?_, fun b hb => by simp [hb], ?_, fun b hb => by simp [h.pin b hb], ?_, ?_⟩, hk, hadd⟩
  · refine (h.syn.keep hk2 (fun b hb hm => (h.sin b hb).2 (by simpa using hm))).keep hk3 (fun b hb => by simp; rintro rfl; exact n2 hb)
  · refine (h.pcs.keep hk2 (fun b hb hm => ?_)).keep hk3 (fun b hb => by simp; rintro rfl; exact n3 hb)
    exact Own.ne h.pcs h.now (by decide) b hb (by simpa using hm)
  · intro i p hp
    obtain ⟨h1, v, b, h2, h3, h4, h5, h6⟩ := h.txt i p hp
    have hbg : b ≠ g := by
      rintro rfl
      obtain ⟨_, cur, fr, _, hbb, _⟩ := h3
      have := h.blk
      unfold Bk at this
      rw [hbb] at this
      injection this with this
      injection this with _ this
      exact absurd this (by decide)
    refine ⟨h1, v, b, h2, (h3.keep hk2 (by simpa using h5)).keep hk3 (by simpa using hbg), by simp [h4], hnew b h3.lt h5, h6⟩
  · intro b hb
    have := h.sin b hb
    exact ⟨by simp [this.1], hnew b (h.syn.lt b hb) this.2⟩
  · intro b hb
    rw [List.mem_append] at hb
    rcases hb with hb | hb
    · have := hown.lt b (by simpa using hb)
      simpa using this
    · exact h.all.keep hk b hb
  · have o := h.ok
    exact ⟨hL, o.synced, o.pieces, o.low, o.lo, o.hi, o.many, o.calls⟩

theorem DiskAt.is {w : World} {g : Nat} {F : List Nat} {S : DS} {vn vs vp : Value} {cs : List Value} (h : DiskAt w g F S vn vs vp cs) : IsDisk w g F S := ⟨_, _, _, _, h⟩

theorem add_disk (g : Nat) (F : List Nat) (S : DS) (off : Nat) (At : Option Addr) (nt ct : Nat) (t : List UInt8) (b : Nat) (w : World) (hd : IsDisk w g F S) (ht : Txt w (.slice At nt ct) t b) (hb : b ∉ F)
    (hn : S.pieces.length < 1099511627776) (hl : off + t.length ≤ 16777216) :
    Calls Try.prog 40 #[.pointer (some ⟨g, 2, none⟩), .agg #[.int .i64 off, .slice At nt ct]] w fun e w' => e = .returned (.tuple #[]) ∧
      ∃ F', IsDisk w' g F' { S with pieces := S.pieces ++ [(off, t)] } ∧ Adds w (b :: F) F' ∧ Keeps F w w' := by
  obtain ⟨vn, vs, vp, cs, h⟩ := hd
  obtain ⟨Ap, cp, rfl⟩ := h.pcs.slice
  have n1 : vn.ownBlock ≠ some g := h.now.bk_ne h.blk (by decide)
  have n2 : vs.ownBlock ≠ some g := h.syn.bk_ne h.blk (by decide)
  have n3 : (Value.slice Ap S.pieces.length cp).ownBlock ≠ some g := h.pcs.bk_ne h.blk (by decide)
  have c2 := h.blk.cell 2
  simp at c2
  refine (add_any g Ap S.pieces.length cp cs off At nt ct w h.blk.lt c2 (h.blk.free 2) h.pcs n3 (by omega)).mono ?_
  rintro e w' ⟨rfl, v1, w1, rfl, hown, hg, hat⟩
  refine ⟨rfl, ?_⟩
  have hb1 := h.blk.grown hg (fun e => n3 e.symm)
  have hk2 : Keeps (Value.slice Ap S.pieces.length cp).ownBlock.toList w w1 := Keeps.of_grown hg (fun b hb => by simp [hb])
  have hk2F : Keeps F w w1 := Keeps.of_grown hg (fun b hb => h.pin b hb)
  have hk3 : Keeps [g] w1 (w1.setCell ⟨g, 2, none⟩ v1) := (Keeps.refl _ _).setCell (.inl (by simp)) _
  have hk : Keeps F w (w1.setCell ⟨g, 2, none⟩ v1) := hk2F.trans hk3 (fun i hi => .inl (by simp at hi; subst hi; exact h.gin))
  have hbg : b ≠ g := fun e => hb (e ▸ h.gin)
  have hv1 : ∀ k, v1.ownBlock = some k → (Value.slice Ap S.pieces.length cp).ownBlock = some k ∨ w.heap.size ≤ k := by
    intro k hk
    rcases hat with e | ⟨j, e, hj⟩
    · exact .inl (by rw [← e]; exact hk)
    · rw [hk] at e; injection e with e; subst e; exact .inr hj
  have tk : ∀ (v : Value) (l : List UInt8) (k : Nat), Txt w v l k → k ≠ g → Txt (w1.setCell ⟨g, 2, none⟩ v1) v l k := by
    intro v l k ht hkg
    refine (ht.keep hk2 ?_).keep hk3 (by simpa using hkg)
    obtain ⟨_, cur, fr, _, hbb, _⟩ := ht
    intro hm
    have hm' : (Value.slice Ap S.pieces.length cp).ownBlock = some k := by simpa using hm
    rcases h.pcs.2 with ⟨h0, _⟩ | ⟨q, cap, cur', hv, _, hq, _⟩
    · rw [h0] at hm'; cases hm'
    · rw [hv] at hm'
      simp [Value.ownBlock] at hm'
      subst hm'
      rw [hbb] at hq
      injection hq with hq
      injection hq with _ hq
      exact absurd hq (by decide)
  refine ⟨b :: (v1.ownBlock.toList ++ F), ⟨vn, vs, v1, cs ++ [.int .i64 off, .slice At nt ct], ?_⟩, ?_, hk⟩
  · refine ⟨hb1.set 2 _, by simp [h.gin], ?_, ?_, ?_, ?_, fun k hk => by simp [h.nin k hk], fun k hk => ⟨by simp [(h.sin k hk).1], (h.sin k hk).2⟩, fun k hk => by simp [hk], ?_, ?_⟩
    · exact (h.now.keep hk2 (fun k hk hm => Own.ne h.now h.pcs (by decide) k hk (by simpa using hm))).keep hk3 (fun k hq => by simp; rintro rfl; exact n1 hq)
    · exact (h.syn.keep hk2 (fun k hk hm => Own.ne h.syn h.pcs (by decide) k hk (by simpa using hm))).keep hk3 (fun k hq => by simp; rintro rfl; exact n2 hq)
    · have : Own (w1.setCell ⟨g, 2, none⟩ v1) 69 2 v1 (S.pieces.length + 1) (cs ++ [.int .i64 off, .slice At nt ct]) := Own.keep hown hk3 (fun k hq => by
        simp
        rintro rfl
        rcases hv1 k hq with e | e
        · exact n3 e
        · have := h.blk.lt; omega)
      simpa using this
    · have hcl := h.pcs.1
      intro i p hp
      rcases Nat.lt_or_ge i S.pieces.length with hi | hi
      · rw [List.getElem?_append_left hi] at hp
        obtain ⟨h1, v, k, h2, h3, h4, h5, h6⟩ := h.txt i p hp
        have hkg : k ≠ g := by
          rintro rfl
          obtain ⟨_, cur, fr, _, hbb, _⟩ := h3
          have := h.blk
          unfold Bk at this
          rw [hbb] at this
          injection this with this
          injection this with _ this
          exact absurd this (by decide)
        exact ⟨by rw [List.getElem?_append_left (by omega)]; exact h1, v, k, by rw [List.getElem?_append_left (by omega)]; exact h2, tk v p.2 k h3 hkg, by simp [h4], h5, h6⟩
      · have hi' : i = S.pieces.length := by
          have := (List.getElem?_eq_some_iff.1 hp).1
          simp at this; omega
        subst hi'
        simp at hp
        subst hp
        refine ⟨by rw [List.getElem?_append_right (by omega), show 2 * S.pieces.length - cs.length = 0 by omega]; rfl, _, b, by rw [List.getElem?_append_right (by omega), show 2 * S.pieces.length + 1 - cs.length = 1 by omega]; rfl, tk _ t b ht hbg, by simp, ?_, ?_⟩
        · intro e; exact hb (h.nin b e)
        · intro e; exact hb (h.sin b e).1
    · intro k hkk
      simp only [List.mem_cons, List.mem_append] at hkk
      rcases hkk with rfl | hkk | hkk
      · have := ht.lt; have := hk.size; omega
      · have := Own.lt hown k (by simpa using hkk); simpa using this
      · exact h.all.keep hk k hkk
    · have o := h.ok
      refine ⟨o.now, o.synced, ?_, o.low, o.lo, o.hi, by simp; omega, o.calls⟩
      intro p hp
      simp only [List.mem_append, List.mem_singleton] at hp
      rcases hp with hp | rfl
      · exact o.pieces p hp
      · exact hl
  · intro k hkk
    simp only [List.mem_cons, List.mem_append] at hkk
    rcases hkk with rfl | hkk | hkk
    · exact .inl (by simp)
    · rcases hv1 k (by simpa using hkk) with e | e
      · exact .inl (by simp [h.pin k e])
      · exact .inr e
    · exact .inl (by simp [hkk])

theorem write_adds {w wr wb : World} {F Fr F5 : List Nat} (h : Adds w F Fr) (k : Keeps F w wr) (kb : Keeps [] wr.drew wb) (h5 : Adds wb (wr.heap.size :: Fr) F5) : Adds w F F5 := by
  intro i hi
  have s1 := k.size
  have s2 : wr.heap.size ≤ wb.heap.size := kb.size
  rcases h5 i hi with h' | h'
  · rw [List.mem_cons] at h'
    rcases h' with rfl | h'
    · exact .inr s1
    · exact h i h'
  · exact .inr (by omega)

def strLen : Value → Nat | .string s => s.size | _ => 0

set_option maxHeartbeats 800000 in
theorem write_on (g : Nat) (F : List Nat) (S : DS) (off : Nat) (s : ByteArray) (w : World) (hd : IsDisk w g F S) (ho : S.off = false) (hc : S.calls < 1099511627776) (hl : off + s.size ≤ 16777216) (hp : S.pieces.length + s.size ≤ 1099511627776) :
    Calls Try.prog 27 #[.pointer (some ⟨g, 0, none⟩), .int .i64 off, .string s] w fun e w' => e = .returned (.int .i64 0) ∧ ∃ F', IsDisk w' g F' (writeS (callS S) off s.data.toList) ∧ Adds w F F' ∧ Keeps F w w' := by
  have d1 : decide ((off : Int) < 0) = false := by simp
  have d2 : decide ((16777216 : Int) < off) = false := by simp; omega
  have d3 : decide (16777216 - (off : Int) < s.size) = false := by simp; omega
  go_enter Try.func27, Try.ntmps27
  go_wp2_with fail
  refine (call_on g F S w hd ho hc).mono ?_
  rintro e w1 ⟨rfl, hd1, hk1⟩
  have HK1 := hide hk1
  clear hk1 hd
  generalize hS : callS S = S1 at hd1
  have hS1p : S1.pieces.length ≤ S.pieces.length := by rw [← hS]; exact Nat.le_refl _
  have HS := hide hS
  clear hS
  obtain ⟨vn, vs, vp, cs, hd1⟩ := hd1
  obtain ⟨An, cn, rfl⟩ := hd1.now.slice
  have c0 := hd1.blk.cell 0
  simp at c0
  have HD := hide hd1
  clear hd1
  have kc := fun (W : World) (t : ByteArray) => Lib.run_convert_string_bytes (P := Try.prog) W 9 56 5 t Try.underlying9 Try.underlying56 Try.underlying5
  go_wp2_with fail
  have hk2 := bw_keeps w1 s
  have ht2 := bw_txt w1 s (grownCap w1 s.size 0 5)
  have hd2 := HD.out.keep hk2 (apart_nil F)
  have hsz := Lib.bytesWorld_size w1 5 s
  generalize Lib.bytesWorld w1 5 s = w2 at hk2 ht2 hd2 hsz ⊢
  have hb2 := hd2.ok.now
  have hne : (Value.slice (some ⟨w1.heap.size, 0, none⟩) s.size (grownCap w1 s.size 0 5)).ownBlock ≠ (Value.slice An S1.now.length cn).ownBlock := by
    intro e
    exact absurd (HD.out.now.lt _ e.symm) (Nat.lt_irrefl _)
  have HT2 := hide ht2
  have HD2 := hide hd2
  have HK2 := hide hk2
  have HZ := hide hsz
  clear ht2 hd2 hk2 hsz
  have hss : s.data.toList.length = s.size := by simp
  have hput := put_any (.slice An S1.now.length cn) S1.now off (some ⟨w1.heap.size, 0, none⟩) (grownCap w1 s.size 0 5) s.data.toList w2 HD2.out.now (by rw [hss]; exact HT2.out.src) (fun _ => by rw [hss]; exact hne) (by rw [hss]; exact hl) hb2
  rw [hss] at hput
  refine hput.mono ?_
  rintro e w3 ⟨v3, rfl, hown3, hg3, hat3⟩
  obtain ⟨A3, c3, rfl⟩ := hown3.slice
  have n1 : (Value.slice An S1.now.length cn).ownBlock ≠ some g := HD2.out.now.bk_ne HD2.out.blk (by decide)
  have hb3 := HD2.out.blk.grown hg3 (fun e => n1 e.symm)
  have hpl := putL_length S1.now off s.data.toList
  have hset := HD2.out.setNow (putL S1.now off s.data.toList) hg3 hown3 hat3 (by rw [hpl]; rw [hss]; omega)
  have c03 := hb3.cell 0
  have f03 := hb3.free 0
  simp at c03
  have HSET := hide hset
  have HL := hide hss
  clear hset hb3 hg3 hown3 hat3 hpl hss n1 hne hput
  go_wp2_with fail
  generalize hw4 : w3.setCell ⟨g, 0, none⟩ (.slice A3 (putL S1.now off s.data.toList).length c3) = w4
  rw [hw4] at HSET
  clear hw4 c03 f03 c0 
  go_loopw [1, 2] (fun o x wr => ∃ (ko : Nat) (t : ByteArray) (pr : List (Nat × List UInt8)) (Fr : List Nat), o = .int .i64 ko ∧ x = .string t ∧ ko + t.size = off + s.size ∧ pr.length + t.size ≤ s.size ∧
      Hid (partsL off s.data.toList = pr ++ partsL ko t.data.toList ∧ IsDisk wr g Fr { S1 with now := putL S1.now off s.data.toList, pieces := S1.pieces ++ pr } ∧ Adds w F Fr ∧ Keeps F w wr)) (fun _ x _ => strLen x)
  case atStart =>
    exact ⟨off, s, [], _, rfl, rfl, rfl, by simp, hide ⟨rfl, by simpa using HSET.out.1.is, (Adds.refl w F).trans HSET.out.2.2 (Nat.le_trans HK1.out.size HK2.out.size), (HK1.out.trans' HK2.out.nil).trans' HSET.out.2.1⟩⟩
  case round =>
    obtain ⟨ko, t, pr, Fr, rfl, rfl, hks, hpr, HR⟩ := hrel
    by_cases ht : t.size = 0
    · go_wp2_with fail
      go_ret
      refine ⟨rfl, Fr, ?_, HR.out.2.2.1, HR.out.2.2.2⟩
      have h1 := HR.out.1
      obtain rfl : t = ByteArray.empty := by
        apply ByteArray.ext
        exact Array.eq_empty_of_size_eq_zero ht
      have h2 := HR.out.2.1
      rw [HS.out]
      unfold writeS
      rw [h1]
      simpa [partsL_nil] using h2
    · have htp : 0 < t.size := by omega
      obtain ⟨n, hn⟩ : ∃ n : Nat, (if (t.size : Int) < 64 - (ko : Int) % 64 then (t.size : Int) else 64 - (ko : Int) % 64) = (n : Int) := ⟨min (64 - ko % 64) t.size, by split <;> omega⟩
      have hnt : n ≤ t.size := by split at hn <;> omega
      have hnp : 0 < n := by split at hn <;> omega
      have hnm : n = min (64 - ko % 64) t.size := by split at hn <;> omega
      have HN := hide hnm
      clear hnm
      have hdat : (t.extract 0 n).data.toList = t.data.toList.take n := by simp [ByteArray.data_extract]
      have hsz2 : (t.extract 0 n).size = n := by simp [ByteArray.size_extract]; omega
      have hadd := add_disk g Fr _ ko (some ⟨wr.heap.size, 0, none⟩) n (grownCap wr.drew n 0 5) (t.data.toList.take n) wr.heap.size (Lib.bytesWorld wr.drew 5 (t.extract 0 n))
        (HR.out.2.1.keep ((Keeps.refl [] wr).drew.trans' (bw_keeps wr.drew (t.extract 0 n))) (apart_nil Fr)) (by have := bw_txt wr.drew (t.extract 0 n) (grownCap wr.drew n 0 5); rw [hdat, hsz2] at this; exact this)
        (fun hm => absurd (HR.out.2.1.all _ hm) (Nat.lt_irrefl _)) (by simp; omega) (by simp; omega)
      have HA := hide hadd
      have HDT := hide hdat
      clear hadd hdat
      go_wp2_with fail
      go_region_with (go_at_call 40; refine HA.out.mono ?_; rintro e w5 ⟨rfl, F5, hd5, had5, hk5⟩)
      have hwk : IntKind.i64.wrap ((ko : Int) + (n : Int)) = (ko : Int) + n := IntWalk.i64_in _ (by omega)
      go_wp2_with fail
      go_quiet (fail)
      clear hwk
      go_wp2
      go_roundw
      case rel =>
        refine ⟨ko + n, t.extract n t.size, pr ++ [(ko, t.data.toList.take n)], F5, by go_num, rfl, by simp [ByteArray.size_extract]; omega, by simp [ByteArray.size_extract]; omega, hide ⟨?_, ?_, ?_, ?_⟩⟩
        · have h1 := HR.out.1
          have hdr : (t.extract n t.size).data.toList = t.data.toList.drop n := by
            simp [ByteArray.data_extract]
            exact List.take_of_length_le (by simp)
          have hne : t.data.toList ≠ [] := by
            intro h0
            have : t.data.toList.length = 0 := by rw [h0]; rfl
            have : t.size = 0 := by simpa using this
            omega
          have hnm := HN.out
          rw [h1, hdr, partsL_cons ko t.data.toList hne, show t.data.toList.length = t.size by simp, ← hnm]
          simp
        · have := hd5.keep ((Keeps.refl [] w5).drewN nq) (apart_nil F5)
          simpa using this
        · exact write_adds HR.out.2.2.1 HR.out.2.2.2 (bw_keeps wr.drew (t.extract 0 n)) had5
        · exact ((HR.out.2.2.2.drew.trans' (bw_keeps wr.drew (t.extract 0 n)).nil).trans hk5 HR.out.2.2.1).drewN nq
      case measure =>
        simp [strLen, ByteArray.size_extract]
        omega

theorem write_off (g : Nat) (F : List Nat) (S : DS) (off : Nat) (s : ByteArray) (w : World) (hd : IsDisk w g F S) (ho : S.off = true) (hl : off + s.size ≤ 16777216) :
    Calls Try.prog 27 #[.pointer (some ⟨g, 0, none⟩), .int .i64 off, .string s] w fun e w' => e = .returned (.int .i64 70) ∧ w = w' := by
  go_enter Try.func27, Try.ntmps27
  go_wp2_with fail
  refine (call_off g F S w hd ho).mono ?_
  rintro e w1 ⟨rfl, rfl⟩
  go_wp2_with fail
  go_ret
  exact ⟨rfl, rfl⟩

theorem write_arg (a : Addr) (off : Int) (s : ByteArray) (w : World) (h1 : -9223372036854775808 ≤ off) (h2 : off ≤ 9223372036854775807) (_hs : s.size ≤ 9223372036854775807) (hl : off < 0 ∨ 16777216 < off + s.size) :
    Calls Try.prog 27 #[.pointer (some a), .int .i64 off, .string s] w fun e w' => e = .returned (.int .i64 1) ∧ w = w' := by
  by_cases ha : off < 0
  · clear hl
    go_enter Try.func27, Try.ntmps27
    go_wp2_with fail
    go_ret
    exact ⟨rfl, rfl⟩
  · by_cases hb : 16777216 < off
    · clear hl
      go_enter Try.func27, Try.ntmps27
      go_wp2_with fail
      go_ret
      exact ⟨rfl, rfl⟩
    · have hc : 16777216 - off < (s.size : Int) := by omega
      clear hl
      go_enter Try.func27, Try.ntmps27
      go_wp2_with fail
      go_ret
      exact ⟨rfl, rfl⟩
end Go.Proofs.Ytppgddigcoojiaa

/- The state of a disk as plain data, how it lies in memory (IsDisk), and the contracts of the disk's small methods. -/
import Derived.Test.YtppgddigcoojiaaPut
namespace Go.Proofs.Ytppgddigcoojiaa
open Go.RowKit

/-- The state of a disk. -/
structure DS where
  now : List UInt8
  synced : List UInt8
  pieces : List (Nat × List UInt8)
  calls : Nat
  failing : Bool
  left : Int

def DS.new : DS := ⟨[], [], [], 0, false, 0⟩

/-- What holds of every state: sizes within 2^24; a power that will fail has calls left. -/
structure DS.ok (S : DS) : Prop where
  now : S.now.length ≤ 16777216
  synced : S.synced.length ≤ 16777216
  pieces : ∀ p, p ∈ S.pieces → p.1 + p.2.length ≤ 16777216
  low : S.failing = true → 0 ≤ S.left
  lo : -9223372036854775808 ≤ S.left
  hi : S.left ≤ 9223372036854775807
  many : S.pieces.length ≤ 1099511627776
  calls : S.calls ≤ 1099511627776

theorem DS.new_ok : DS.new.ok := ⟨by simp [DS.new], by simp [DS.new], by simp [DS.new], by simp [DS.new], by simp [DS.new], by simp [DS.new], by simp [DS.new], by simp [DS.new]⟩

/-- A slice of bytes at the head of a block, which holds the text l. -/
def Txt (w : World) (v : Value) (l : List UInt8) (b : Nat) : Prop :=
  ∃ c cur fr, v = .slice (some ⟨b, 0, none⟩) l.length c ∧ w.heap[b]? = some (.cells cur 5 fr) ∧ cur.toList.take l.length = bv l

theorem Txt.lt {w : World} {v : Value} {l : List UInt8} {b : Nat} (h : Txt w v l b) : b < w.heap.size := by
  obtain ⟨c, cur, fr, _, hb, _⟩ := h
  exact (Array.getElem?_eq_some_iff.1 hb).1
theorem Txt.keep {w w' : World} {v : Value} {l : List UInt8} {b : Nat} {F : List Nat} (h : Txt w v l b) (k : Keeps F w w') (hn : b ∉ F) : Txt w' v l b := by
  have hlt := h.lt
  obtain ⟨c, cur, fr, hv, hb, ht⟩ := h
  exact ⟨c, cur, fr, hv, (k.block b hlt hn).trans hb, ht⟩
theorem Txt.src {w : World} {v : Value} {l : List UInt8} {b : Nat} (h : Txt w v l b) : Src w 1 v l.length (bv l) := by
  obtain ⟨c, cur, fr, rfl, hb, ht⟩ := h
  refine ⟨by rw [bv_length]; omega, _, _, rfl, fun h => by (cases h), fun ad had j u hu => ?_⟩
  injection had with had
  subst had
  have e : (⟨b, 0, none⟩ : Addr).add j = ⟨b, j, none⟩ := by unfold Addr.add; split <;> simp_all
  rw [e, cell_of_row w b j cur 5 fr hb]
  rw [← ht, List.getElem?_take] at hu
  split at hu
  · simpa using hu
  · cases hu

/-- Block g is a disk in state S, all of whose memory lies in the blocks F. -/
structure DiskAt (w : World) (g : Nat) (F : List Nat) (S : DS) (vn vs vp : Value) (cs : List Value) : Prop where
  blk : Bk w g 62 #[vn, vs, vp, .int .i64 S.calls, .bool S.failing, .int .i64 S.left]
  gin : g ∈ F
  now : Own w 5 1 vn S.now.length (bv S.now)
  syn : Own w 5 1 vs S.synced.length (bv S.synced)
  pcs : Own w 69 2 vp S.pieces.length cs
  txt : ∀ i p, S.pieces[i]? = some p → cs[2 * i]? = some (.int .i64 p.1) ∧ ∃ v b, cs[2 * i + 1]? = some v ∧ Txt w v p.2 b ∧ b ∈ F ∧ vn.ownBlock ≠ some b ∧ vs.ownBlock ≠ some b
  nin : ∀ b, vn.ownBlock = some b → b ∈ F
  sin : ∀ b, vs.ownBlock = some b → b ∈ F ∧ vn.ownBlock ≠ some b
  pin : ∀ b, vp.ownBlock = some b → b ∈ F
  all : In w F
  ok : S.ok

def IsDisk (w : World) (g : Nat) (F : List Nat) (S : DS) : Prop := ∃ vn vs vp cs, DiskAt w g F S vn vs vp cs

theorem DiskAt.keep {w w' : World} {g : Nat} {F G : List Nat} {S : DS} {vn vs vp : Value} {cs : List Value} (h : DiskAt w g F S vn vs vp cs) (k : Keeps G w w') (ha : Apart F G) : DiskAt w' g F S vn vs vp cs :=
  ⟨h.blk.keep k (ha g h.gin), h.gin, h.now.keep k (fun b hb => ha b (h.nin b hb)), h.syn.keep k (fun b hb => ha b (h.sin b hb).1), h.pcs.keep k (fun b hb => ha b (h.pin b hb)),
   fun i p hp => by
    obtain ⟨h1, v, b, h2, h3, h4, h5⟩ := h.txt i p hp
    exact ⟨h1, v, b, h2, h3.keep k (ha b h4), h4, h5⟩, h.nin, h.sin, h.pin, h.all.keep k, h.ok⟩
theorem IsDisk.keep {w w' : World} {g : Nat} {F G : List Nat} {S : DS} (h : IsDisk w g F S) (k : Keeps G w w') (ha : Apart F G) : IsDisk w' g F S := by
  obtain ⟨vn, vs, vp, cs, hd⟩ := h
  exact ⟨vn, vs, vp, cs, hd.keep k ha⟩
theorem apart_nil (F : List Nat) : Apart F [] := fun _ _ h => by cases h
theorem IsDisk.all {w : World} {g : Nat} {F : List Nat} {S : DS} (h : IsDisk w g F S) : In w F := by
  obtain ⟨vn, vs, vp, cs, hd⟩ := h
  exact hd.all
theorem IsDisk.ok {w : World} {g : Nat} {F : List Nat} {S : DS} (h : IsDisk w g F S) : S.ok := by
  obtain ⟨vn, vs, vp, cs, hd⟩ := h
  exact hd.ok

/-- The struct's six cells have turned, nothing else: numbers and flags anew. -/
theorem DiskAt.flags {w w' : World} {g : Nat} {F : List Nat} {S S' : DS} {vn vs vp : Value} {cs : List Value} (h : DiskAt w g F S vn vs vp cs) (k : Keeps [g] w w')
    (hb : Bk w' g 62 #[vn, vs, vp, .int .i64 S'.calls, .bool S'.failing, .int .i64 S'.left]) (e1 : S'.now = S.now) (e2 : S'.synced = S.synced) (e3 : S'.pieces = S.pieces) (hok : S'.ok) : DiskAt w' g F S' vn vs vp cs := by
  have n1 : vn.ownBlock ≠ some g := h.now.bk_ne h.blk (by decide)
  have n2 : vs.ownBlock ≠ some g := h.syn.bk_ne h.blk (by decide)
  have n3 : vp.ownBlock ≠ some g := h.pcs.bk_ne h.blk (by decide)
  refine ⟨hb, h.gin, ?_, ?_, ?_, ?_, h.nin, h.sin, h.pin, h.all.keep k, hok⟩
  · rw [e1]; exact h.now.keep k (fun b hq => by simp; rintro rfl; exact n1 hq)
  · rw [e2]; exact h.syn.keep k (fun b hq => by simp; rintro rfl; exact n2 hq)
  · rw [e3]; exact h.pcs.keep k (fun b hq => by simp; rintro rfl; exact n3 hq)
  · rw [e3]
    intro i p hp
    obtain ⟨h1, v, b, h2, h3, h4, h5⟩ := h.txt i p hp
    refine ⟨h1, v, b, h2, h3.keep k ?_, h4, h5⟩
    simp only [List.mem_singleton]
    rintro rfl
    obtain ⟨_, cur, fr, _, hbb, _⟩ := h3
    have := h.blk
    unfold Bk at this
    rw [hbb] at this
    injection this with this
    injection this with _ this
    exact absurd this (by decide)

theorem new_any (w : World) : Calls Try.prog 14 #[] w fun e w' => e = .returned (.pointer (some ⟨w.heap.size, 0, none⟩)) ∧ IsDisk w' w.heap.size [w.heap.size] DS.new ∧ Keeps [] w w' := by
  go_enter Try.func14, Try.ntmps14
  go_wp2
  go_ret
  refine ⟨rfl, ⟨.slice none 0 0, .slice none 0 0, .slice none 0 0, [], ?_⟩, (Keeps.refl _ _).alloc _⟩
  exact ⟨Bk.new _ _ _, by simp, World.ownsRow_nil _ _ _ _, World.ownsRow_nil _ _ _ _, World.ownsRow_nil _ _ _ _, by simp [DS.new], by simp [Value.ownBlock], by simp [Value.ownBlock], by simp [Value.ownBlock], by simp [In], DS.new_ok⟩

theorem size_any (g : Nat) (F : List Nat) (S : DS) (w : World) (hd : IsDisk w g F S) :
    Calls Try.prog 17 #[.pointer (some ⟨g, 0, none⟩)] w fun e w' => e = .returned (.int .i64 S.now.length) ∧ w = w' := by
  obtain ⟨vn, vs, vp, cs, hd⟩ := hd
  obtain ⟨A, c, rfl⟩ := hd.now.slice
  have h := hd.blk.cell 0
  clear hd
  simp at h
  go_enter Try.func17, Try.ntmps17
  go_wp2
  go_ret
  exact ⟨rfl, rfl⟩

theorem calls_any (g : Nat) (F : List Nat) (S : DS) (w : World) (hd : IsDisk w g F S) :
    Calls Try.prog 19 #[.pointer (some ⟨g, 0, none⟩)] w fun e w' => e = .returned (.int .i64 S.calls) ∧ w = w' := by
  obtain ⟨vn, vs, vp, cs, hd⟩ := hd
  have h := hd.blk.cell 3
  clear hd
  simp at h
  go_enter Try.func19, Try.ntmps19
  go_wp2
  go_ret
  exact ⟨rfl, rfl⟩

def failS (S : DS) (n : Int) : DS := { S with failing := decide (-1 < n), left := n }
theorem fail_any (g : Nat) (F : List Nat) (S : DS) (n : Int) (w : World) (hd : IsDisk w g F S) (h1 : -9223372036854775808 ≤ n) (h2 : n ≤ 9223372036854775807) :
    Calls Try.prog 30 #[.pointer (some ⟨g, 0, none⟩), .int .i64 n] w fun e w' => e = .returned (.tuple #[]) ∧ IsDisk w' g F (failS S n) ∧ Keeps F w w' := by
  obtain ⟨vn, vs, vp, cs, hd⟩ := hd
  have c4 := hd.blk.cell 4
  have c5 := hd.blk.cell 5
  have f4 := hd.blk.free 4
  have f5 := hd.blk.free 5
  simp at c4 c5
  have HD := hide hd
  clear hd
  go_enter Try.func30, Try.ntmps30
  go_wp2
  go_end0
  have hd := HD.out
  have k : Keeps [g] w ((w.setCell ⟨g, 4, none⟩ (.bool (decide (-1 < n)))).setCell ⟨g, 5, none⟩ (.int .i64 n)) := ((Keeps.refl _ _).setCell (.inl (by simp)) _).setCell (.inl (by simp)) _
  refine ⟨rfl, ⟨vn, vs, vp, cs, hd.flags k ?_ rfl rfl rfl ?_⟩, k.mono (fun i hi => .inl (by simp at hi; subst hi; exact hd.gin))⟩
  · exact (hd.blk.set 4 _).set 5 _
  · have o := hd.ok
    exact ⟨o.now, o.synced, o.pieces, by simp [failS]; omega, h1, h2, o.many, o.calls⟩

def callS (S : DS) : DS := { S with calls := S.calls + 1, left := if S.failing then S.left - 1 else S.left }
/-- Is the power off? -/
def DS.off (S : DS) : Bool := S.failing && S.left == 0

theorem call_off (g : Nat) (F : List Nat) (S : DS) (w : World) (hd : IsDisk w g F S) (ho : S.off = true) :
    Calls Try.prog 39 #[.pointer (some ⟨g, 0, none⟩)] w fun e w' => e = .returned (.int .i64 70) ∧ w = w' := by
  obtain ⟨vn, vs, vp, cs, hd⟩ := hd
  have c4 := hd.blk.cell 4
  have c5 := hd.blk.cell 5
  simp [DS.off] at c4 c5 ho
  rw [ho.1] at c4
  rw [ho.2] at c5
  clear hd ho
  go_enter Try.func39, Try.ntmps39
  go_wp2
  go_ret
  exact ⟨rfl, rfl⟩

theorem call_on (g : Nat) (F : List Nat) (S : DS) (w : World) (hd : IsDisk w g F S) (ho : S.off = false) (hc : S.calls < 1099511627776) :
    Calls Try.prog 39 #[.pointer (some ⟨g, 0, none⟩)] w fun e w' => e = .returned (.int .i64 0) ∧ IsDisk w' g F (callS S) ∧ Keeps F w w' := by
  obtain ⟨vn, vs, vp, cs, hd⟩ := hd
  have c3 := hd.blk.cell 3
  have c4 := hd.blk.cell 4
  have c5 := hd.blk.cell 5
  have f3 := hd.blk.free 3
  have f5 := hd.blk.free 5
  have o := hd.ok
  have hlo := o.lo
  have hhi := o.hi
  simp at c3 c4 c5
  have HD := hide hd
  clear hd
  cases hf : S.failing with
  | true =>
    have h0 := o.low hf
    have hne : ((S.left : Int) == 0) = false := by simpa [DS.off, hf] using ho
    rw [hf] at c4
    have hpos : 1 ≤ S.left := by
      have : ¬ S.left = 0 := by simpa using hne
      omega
    have HF := hide hf
    have HO := hide o
    clear ho hf o
    go_enter Try.func39, Try.ntmps39
    go_wp2
    go_ret
    have hd := HD.out
    have o := HO.out
    have k : Keeps [g] w ((w.setCell ⟨g, 5, none⟩ (.int .i64 (S.left - 1))).setCell ⟨g, 3, none⟩ (.int .i64 (S.calls + 1))) := ((Keeps.refl _ _).setCell (.inl (by simp)) _).setCell (.inl (by simp)) _
    refine ⟨rfl, ⟨vn, vs, vp, cs, hd.flags k ?_ rfl rfl rfl ?_⟩, k.mono (fun i hi => .inl (by simp at hi; subst hi; exact hd.gin))⟩
    · simpa [callS, HF.out] using (hd.blk.set 5 (.int .i64 (S.left - 1))).set 3 (.int .i64 (S.calls + 1))
    · exact ⟨o.now, o.synced, o.pieces, by simp [callS, HF.out]; omega, by simp [callS, HF.out]; omega, by simp [callS, HF.out]; omega, o.many, by simp [callS]; omega⟩
  | false =>
    rw [hf] at c4
    have HF := hide hf
    have HO := hide o
    clear ho hf o
    go_enter Try.func39, Try.ntmps39
    go_wp2
    go_ret
    have hd := HD.out
    have o := HO.out
    have k : Keeps [g] w (w.setCell ⟨g, 3, none⟩ (.int .i64 (S.calls + 1))) := (Keeps.refl _ _).setCell (.inl (by simp)) _
    refine ⟨rfl, ⟨vn, vs, vp, cs, hd.flags k ?_ rfl rfl rfl ?_⟩, k.mono (fun i hi => .inl (by simp at hi; subst hi; exact hd.gin))⟩
    · simpa [callS, HF.out] using hd.blk.set 3 (.int .i64 (S.calls + 1))
    · exact ⟨o.now, o.synced, o.pieces, by simp [callS, HF.out], by simp [callS, HF.out]; omega, by simp [callS, HF.out]; omega, o.many, by simp [callS]; omega⟩
end Go.Proofs.Ytppgddigcoojiaa

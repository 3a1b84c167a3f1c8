/- How the reference model's disk lies in memory (IsRef), and the contracts of its methods but Crash. -/
import Derived.Test.YtppgddigcoojiaaRput
namespace Go.Proofs.Ytppgddigcoojiaa
open Go.RowKit

/-- The cells of a list of parts. -/
def rcs (ps : List (Nat × List UInt8)) : List Value := ps.flatMap fun p => [.int .i64 p.1, .string (bs p.2)]
theorem rcs_append (a b : List (Nat × List UInt8)) : rcs (a ++ b) = rcs a ++ rcs b := by simp [rcs]
theorem rcs_one (ps : List (Nat × List UInt8)) : ∀ u ∈ rcs ps, u.oneCell' = true := by
  intro u hu
  simp only [rcs, List.mem_flatMap] at hu
  obtain ⟨p, _, hu⟩ := hu
  simp at hu
  rcases hu with rfl | rfl <;> rfl
theorem rcs_length (ps : List (Nat × List UInt8)) : (rcs ps).length = ps.length * 2 := by
  induction ps with
  | nil => rfl
  | cons p ps ih => simp [rcs] at ih ⊢; omega
theorem rcs_get : ∀ (ps : List (Nat × List UInt8)) (k : Nat) (p : Nat × List UInt8), ps[k]? = some p → (rcs ps)[k * 2]? = some (.int .i64 p.1) ∧ (rcs ps)[k * 2 + 1]? = some (.string (bs p.2))
  | [], k, p, h => by simp at h
  | q :: ps, 0, p, h => by
    simp at h; subst h
    exact ⟨rfl, rfl⟩
  | q :: ps, k + 1, p, h => by
    have ih := rcs_get ps k p (by simpa using h)
    have e : rcs (q :: ps) = .int .i64 q.1 :: .string (bs q.2) :: rcs ps := rfl
    rw [e, show (k + 1) * 2 = k * 2 + 2 by omega]
    exact ⟨by simpa using ih.1, by simpa using ih.2⟩

structure DS.okr (S : DS) : Prop where
  now : S.now.length ≤ 16777216
  synced : S.synced.length ≤ 16777216
  pieces : ∀ p, p ∈ S.pieces → p.1 + p.2.length ≤ 16777216
  lo : -1099511627776 ≤ S.left + S.calls
  hi : S.left ≤ 1099511627776
  many : S.pieces.length ≤ 1099511627776
  calls : S.calls ≤ 1099511627776

theorem DS.new_okr : DS.new.okr := ⟨by simp [DS.new], by simp [DS.new], by simp [DS.new], by simp [DS.new], by simp [DS.new], by simp [DS.new], by simp [DS.new]⟩

structure RefAt (w : World) (g : Nat) (F : List Nat) (S : DS) (bn by_ : ByteArray) (vp : Value) : Prop where
  blk : Bk w g 66 #[.string bn, .string by_, vp, .int .i64 S.calls, .int .i64 S.left, .bool S.failing]
  gin : g ∈ F
  now : bn.data.toList = S.now
  syn : by_.data.toList = S.synced
  pcs : Own w 73 2 vp S.pieces.length (rcs S.pieces)
  pin : ∀ b, vp.ownBlock = some b → b ∈ F
  all : In w F
  ok : S.okr

/-- Block g is a disk of the reference model in state S. -/
def IsRef (w : World) (g : Nat) (F : List Nat) (S : DS) : Prop := ∃ bn by_ vp, RefAt w g F S bn by_ vp
theorem RefAt.is {w : World} {g : Nat} {F : List Nat} {S : DS} {bn by_ : ByteArray} {vp : Value} (h : RefAt w g F S bn by_ vp) : IsRef w g F S := ⟨_, _, _, h⟩
theorem RefAt.keep {w w' : World} {g : Nat} {F G : List Nat} {S : DS} {bn by_ : ByteArray} {vp : Value} (h : RefAt w g F S bn by_ vp) (k : Keeps G w w') (ha : Apart F G) : RefAt w' g F S bn by_ vp :=
  ⟨h.blk.keep k (ha g h.gin), h.gin, h.now, h.syn, h.pcs.keep k (fun b hb => ha b (h.pin b hb)), h.pin, h.all.keep k, h.ok⟩
theorem IsRef.keep {w w' : World} {g : Nat} {F G : List Nat} {S : DS} (h : IsRef w g F S) (k : Keeps G w w') (ha : Apart F G) : IsRef w' g F S := by
  obtain ⟨bn, by_, vp, hd⟩ := h
  exact ⟨bn, by_, vp, hd.keep k ha⟩
theorem IsRef.all {w : World} {g : Nat} {F : List Nat} {S : DS} (h : IsRef w g F S) : In w F := by
  obtain ⟨bn, by_, vp, hd⟩ := h
  exact hd.all
theorem IsRef.ok {w : World} {g : Nat} {F : List Nat} {S : DS} (h : IsRef w g F S) : S.okr := by
  obtain ⟨bn, by_, vp, hd⟩ := h
  exact hd.ok
/-- The struct's cells have turned, but for the parts. -/
theorem RefAt.flags {w w' : World} {g : Nat} {F : List Nat} {S S' : DS} {bn by_ bn' by' : ByteArray} {vp : Value} (h : RefAt w g F S bn by_ vp) (k : Keeps [g] w w')
    (hb : Bk w' g 66 #[.string bn', .string by', vp, .int .i64 S'.calls, .int .i64 S'.left, .bool S'.failing]) (e1 : bn'.data.toList = S'.now) (e2 : by'.data.toList = S'.synced) (e3 : S'.pieces = S.pieces) (hok : S'.okr) : RefAt w' g F S' bn' by' vp := by
  have n3 : vp.ownBlock ≠ some g := h.pcs.bk_ne h.blk (by decide)
  refine ⟨hb, h.gin, e1, e2, ?_, h.pin, h.all.keep k, hok⟩
  rw [e3]; exact h.pcs.keep k (fun b hq => by simp; rintro rfl; exact n3 hq)

theorem rnew_any (w : World) : Calls Try.prog 15 #[] w fun e w' => e = .returned (.pointer (some ⟨w.heap.size, 0, none⟩)) ∧ IsRef w' w.heap.size [w.heap.size] DS.new ∧ Keeps [] w w' := by
  go_enter Try.func15, Try.ntmps15
  go_wp2
  go_ret
  refine ⟨rfl, ⟨⟨#[]⟩, ⟨#[]⟩, .slice none 0 0, ?_⟩, (Keeps.refl _ _).alloc _⟩
  exact ⟨Bk.new _ _ _, by simp, rfl, rfl, World.ownsRow_nil _ _ _ _, by simp [Value.ownBlock], by simp [In], DS.new_okr⟩

theorem rsize_any (g : Nat) (F : List Nat) (S : DS) (w : World) (hd : IsRef w g F S) :
    Calls Try.prog 18 #[.pointer (some ⟨g, 0, none⟩)] w fun e w' => e = .returned (.int .i64 S.now.length) ∧ w = w' := by
  obtain ⟨bn, by_, vp, hd⟩ := hd
  have h := hd.blk.cell 0
  have hl : bn.size = S.now.length := by rw [← hd.now, sLen]
  have HL := hide hl
  clear hl hd
  simp at h
  go_enter Try.func18, Try.ntmps18
  go_wp2
  go_ret
  exact ⟨by rw [← HL.out]; rfl, rfl⟩

theorem rcalls_any (g : Nat) (F : List Nat) (S : DS) (w : World) (hd : IsRef w g F S) :
    Calls Try.prog 20 #[.pointer (some ⟨g, 0, none⟩)] w fun e w' => e = .returned (.int .i64 S.calls) ∧ w = w' := by
  obtain ⟨bn, by_, vp, hd⟩ := hd
  have h := hd.blk.cell 3
  clear hd
  simp at h
  go_enter Try.func20, Try.ntmps20
  go_wp2
  go_ret
  exact ⟨rfl, rfl⟩

theorem rfail_any (g : Nat) (F : List Nat) (S : DS) (n : Int) (w : World) (hd : IsRef w g F S) (h1 : -1 ≤ n) (h2 : n ≤ 1099511627776) :
    Calls Try.prog 35 #[.pointer (some ⟨g, 0, none⟩), .int .i64 n] w fun e w' => e = .returned (.tuple #[]) ∧ IsRef w' g F (failS S n) ∧ Keeps F w w' := by
  obtain ⟨bn, by_, vp, hd⟩ := hd
  have c4 := hd.blk.cell 4
  have c5 := hd.blk.cell 5
  have f4 := hd.blk.free 4
  have f5 := hd.blk.free 5
  simp at c4 c5
  have HD := hide hd
  clear hd
  go_enter Try.func35, Try.ntmps35
  go_wp2
  go_end0
  have hd := HD.out
  have k : Keeps [g] w ((w.setCell ⟨g, 5, none⟩ (.bool (decide (0 ≤ n)))).setCell ⟨g, 4, none⟩ (.int .i64 n)) := ((Keeps.refl _ _).setCell (.inl (by simp)) _).setCell (.inl (by simp)) _
  refine ⟨rfl, ⟨bn, by_, vp, hd.flags k ?_ hd.now hd.syn rfl ?_⟩, k.mono (fun i hi => .inl (by simp at hi; subst hi; exact hd.gin))⟩
  · have := (hd.blk.set 5 (.bool (decide (0 ≤ n)))).set 4 (.int .i64 n)
    have e : decide (-1 < n) = decide (0 ≤ n) := by rw [decide_eq_decide]; omega
    simp only [failS, e]
    exact this
  · have o := hd.ok
    exact ⟨o.now, o.synced, o.pieces, by simp [failS]; omega, by simp [failS]; omega, o.many, o.calls⟩

def rcallS (S : DS) : DS := { S with calls := S.calls + 1, left := S.left - 1 }

theorem roff_off (g : Nat) (F : List Nat) (S : DS) (w : World) (hd : IsRef w g F S) (ho : S.off = true) :
    Calls Try.prog 42 #[.pointer (some ⟨g, 0, none⟩)] w fun e w' => e = .returned (.bool true) ∧ w = w' := by
  obtain ⟨bn, by_, vp, hd⟩ := hd
  have c4 := hd.blk.cell 4
  have c5 := hd.blk.cell 5
  simp [DS.off] at c4 c5 ho
  rw [ho.1] at c5
  rw [ho.2] at c4
  clear hd ho
  go_enter Try.func42, Try.ntmps42
  go_wp2
  go_ret
  exact ⟨rfl, rfl⟩

theorem roff_on (g : Nat) (F : List Nat) (S : DS) (w : World) (hd : IsRef w g F S) (ho : S.off = false) (hc : S.calls < 1099511627776) :
    Calls Try.prog 42 #[.pointer (some ⟨g, 0, none⟩)] w fun e w' => e = .returned (.bool false) ∧ IsRef w' g F (rcallS S) ∧ Keeps F w w' := by
  obtain ⟨bn, by_, vp, hd⟩ := hd
  have c3 := hd.blk.cell 3
  have c4 := hd.blk.cell 4
  have c5 := hd.blk.cell 5
  have f3 := hd.blk.free 3
  have f4 := hd.blk.free 4
  have o := hd.ok
  have hlo := o.lo
  have hhi := o.hi
  simp at c3 c4 c5
  have HD := hide hd
  have HO := hide o
  clear hd o
  have fin : IsRef ((w.setCell ⟨g, 4, none⟩ (.int .i64 (S.left - 1))).setCell ⟨g, 3, none⟩ (.int .i64 (S.calls + 1))) g F (rcallS S) ∧ Keeps F w ((w.setCell ⟨g, 4, none⟩ (.int .i64 (S.left - 1))).setCell ⟨g, 3, none⟩ (.int .i64 (S.calls + 1))) := by
    have hd := HD.out
    have o := HO.out
    have k : Keeps [g] w ((w.setCell ⟨g, 4, none⟩ (.int .i64 (S.left - 1))).setCell ⟨g, 3, none⟩ (.int .i64 (S.calls + 1))) := ((Keeps.refl _ _).setCell (.inl (by simp)) _).setCell (.inl (by simp)) _
    refine ⟨⟨bn, by_, vp, hd.flags k ?_ hd.now hd.syn rfl ?_⟩, k.mono (fun i hi => .inl (by simp at hi; subst hi; exact hd.gin))⟩
    · exact (hd.blk.set 4 (.int .i64 (S.left - 1))).set 3 (.int .i64 (S.calls + 1))
    · exact ⟨o.now, o.synced, o.pieces, by simp [rcallS]; omega, by simp [rcallS]; omega, o.many, by simp [rcallS]; omega⟩
  have HF := hide fin
  clear fin
  cases hf : S.failing with
  | true =>
    have hne : ((S.left : Int) == 0) = false := by simpa [DS.off, hf] using ho
    rw [hf] at c5
    clear ho hf
    go_enter Try.func42, Try.ntmps42
    go_wp2
    go_ret
    exact ⟨rfl, HF.out⟩
  | false =>
    rw [hf] at c5
    clear ho hf
    go_enter Try.func42, Try.ntmps42
    go_wp2
    go_ret
    exact ⟨rfl, HF.out⟩

theorem rsync_off (g : Nat) (F : List Nat) (S : DS) (w : World) (hd : IsRef w g F S) (ho : S.off = true) :
    Calls Try.prog 33 #[.pointer (some ⟨g, 0, none⟩)] w fun e w' => e = .returned (.int .i64 70) ∧ w = w' := by
  go_enter Try.func33, Try.ntmps33
  go_wp2_with fail
  refine (roff_off g F S w hd ho).mono ?_
  rintro e w1 ⟨rfl, rfl⟩
  go_wp2_with fail
  go_ret
  exact ⟨rfl, rfl⟩

theorem rsync_on (g : Nat) (F : List Nat) (S : DS) (w : World) (hd : IsRef w g F S) (ho : S.off = false) (hc : S.calls < 1099511627776) :
    Calls Try.prog 33 #[.pointer (some ⟨g, 0, none⟩)] w fun e w' => e = .returned (.int .i64 0) ∧ IsRef w' g F (syncS (rcallS S)) ∧ Keeps F w w' := by
  go_enter Try.func33, Try.ntmps33
  go_wp2_with fail
  refine (roff_on g F S w hd ho hc).mono ?_
  rintro e w1 ⟨rfl, hd1, hk1⟩
  obtain ⟨bn, by_, vp, hd1⟩ := hd1
  have c0 := hd1.blk.cell 0
  have c1 := hd1.blk.cell 1
  have c2 := hd1.blk.cell 2
  have f1 := hd1.blk.free 1
  have f2 := hd1.blk.free 2
  simp at c0 c1 c2
  have k : Keeps [g] w1 ((w1.setCell ⟨g, 1, none⟩ (.string bn)).setCell ⟨g, 2, none⟩ (.slice none 0 0)) := ((Keeps.refl _ _).setCell (.inl (by simp)) _).setCell (.inl (by simp)) _
  have fin : IsRef ((w1.setCell ⟨g, 1, none⟩ (.string bn)).setCell ⟨g, 2, none⟩ (.slice none 0 0)) g F (syncS (rcallS S)) ∧ Keeps F w ((w1.setCell ⟨g, 1, none⟩ (.string bn)).setCell ⟨g, 2, none⟩ (.slice none 0 0)) := by
    refine ⟨⟨bn, bn, .slice none 0 0, ?_⟩, hk1.trans k (fun i hi => .inl (by simp at hi; subst hi; exact hd1.gin))⟩
    have o := hd1.ok
    exact ⟨(hd1.blk.set 1 _).set 2 _, hd1.gin, hd1.now, hd1.now, World.ownsRow_nil _ _ _ _, by simp [Value.ownBlock], hd1.all.keep k, ⟨o.now, o.now, by simp [syncS], o.lo, o.hi, by simp [syncS], o.calls⟩⟩
  have HF := hide fin
  clear fin k hk1 hd1
  go_wp2_with fail
  go_ret
  exact ⟨rfl, HF.out⟩
end Go.Proofs.Ytppgddigcoojiaa

/- The law's desk (a disk and its model), and the contract of 'do': whatever the act, both do the same. -/
import Derived.Test.YtppgddigcoojiaaSmall
import Derived.Deep.DeepCutAuto
import Derived.Deep.DrawnRows
namespace Go.Proofs.Ytppgddigcoojiaa
open Go.RowKit

attribute [local go_sem ↓] Go.wp_at_zero Go.wp_at_succ

/-- The disk's state and the model's say the same. -/
structure Sim (S M : DS) : Prop where
  now : S.now = M.now
  synced : S.synced = M.synced
  pieces : S.pieces = M.pieces
  calls : S.calls = M.calls
  failing : S.failing = M.failing
  left : S.failing = true → S.left = M.left

theorem Sim.off {S M : DS} (h : Sim S M) : S.off = M.off := by
  unfold DS.off
  rw [← h.failing]
  cases hf : S.failing with
  | false => rfl
  | true => rw [h.left hf]
theorem Sim.new : Sim DS.new DS.new := ⟨rfl, rfl, rfl, rfl, rfl, fun _ => rfl⟩
theorem Sim.call {S M : DS} (h : Sim S M) : Sim (callS S) (rcallS M) := by
  refine ⟨h.now, h.synced, h.pieces, by simp [callS, rcallS, h.calls], h.failing, fun hf => ?_⟩
  have hf' : S.failing = true := hf
  simp [callS, rcallS, hf', h.left hf']
theorem Sim.sync {S M : DS} (h : Sim S M) : Sim (syncD S) (rsyncD M) := by
  unfold syncD rsyncD
  rw [← h.off]
  cases S.off
  · have k := h.call
    exact ⟨k.now, k.now, rfl, k.calls, k.failing, k.left⟩
  · exact h
theorem Sim.write {S M : DS} (h : Sim S M) (off : Int) (s : List UInt8) : Sim (writeD S off s) (rwriteD M off s) := by
  unfold writeD rwriteD
  rw [← h.off]
  split
  · exact h
  · split
    · exact h
    · have k := h.call
      exact ⟨by simp [writeS, k.now], k.synced, by simp [writeS, k.pieces], k.calls, k.failing, k.left⟩
theorem Sim.fail {S M : DS} (h : Sim S M) (n : Int) : Sim (failS S n) (failS M n) := ⟨h.now, h.synced, h.pieces, h.calls, rfl, fun _ => rfl⟩
theorem Sim.crashL {S M : DS} (h : Sim S M) (q : List Int) : crashL S q = crashL M q := by
  unfold Go.Proofs.Ytppgddigcoojiaa.crashL
  rw [h.synced, h.pieces]
theorem Sim.crash {S M : DS} (h : Sim S M) (q : List Int) : Sim (crashS S q) (crashS M q) := by
  unfold crashS
  rw [h.crashL]
  exact ⟨rfl, rfl, rfl, rfl, rfl, fun _ => rfl⟩
theorem Sim.writeE {S M : DS} (h : Sim S M) (off : Int) (s : List UInt8) : writeE S off s = writeE M off s := by
  unfold Go.Proofs.Ytppgddigcoojiaa.writeE
  rw [h.off]
theorem Sim.syncE {S M : DS} (h : Sim S M) : syncE S = syncE M := by
  unfold Go.Proofs.Ytppgddigcoojiaa.syncE
  rw [h.off]

structure DeskAt (w : World) (gx gd gm : Nat) (Fd Fm : List Nat) (S M : DS) : Prop where
  blk : Bk w gx 30 #[.pointer (some ⟨gd, 0, none⟩), .pointer (some ⟨gm, 0, none⟩)]
  d : IsDisk w gd Fd S
  m : IsRef w gm Fm M
  ap : Apart Fd Fm
  xd : gx ∉ Fd
  xm : gx ∉ Fm

theorem DeskAt.keep {w w' : World} {gx gd gm : Nat} {Fd Fm G : List Nat} {S M : DS} (h : DeskAt w gx gd gm Fd Fm S M) (k : Keeps G w w') (hx : gx ∉ G) (hd : Apart Fd G) (hm : Apart Fm G) : DeskAt w' gx gd gm Fd Fm S M :=
  ⟨h.blk.keep k hx, h.d.keep k hd, h.m.keep k hm, h.ap, h.xd, h.xm⟩
theorem DeskAt.keep0 {w w' : World} {gx gd gm : Nat} {Fd Fm : List Nat} {S M : DS} (h : DeskAt w gx gd gm Fd Fm S M) (k : Keeps [] w w') : DeskAt w' gx gd gm Fd Fm S M :=
  h.keep k (by simp) (apart_nil _) (apart_nil _)

/-- An act, as plain data. -/
structure ActD where
  kind : Int
  off : Int
  n : Int
  text : ByteArray
def ActD.val (a : ActD) : Value := .agg #[.int .i64 a.kind, .int .i64 a.off, .int .i64 a.n, .string a.text]
structure ActD.ok (a : ActD) : Prop where
  k1 : -9223372036854775808 ≤ a.kind
  k2 : a.kind ≤ 9223372036854775807
  o1 : -9223372036854775808 ≤ a.off
  o2 : a.off ≤ 9223372036854775807
  n1 : -9223372036854775808 ≤ a.n
  n2 : a.n ≤ 9223372036854775807
  t : a.text.size ≤ 140737488355328

theorem bs_toList (l : List UInt8) : (bs l).toList = l := by unfold bs; simp

theorem DeskAt.lt {w : World} {gx gd gm : Nat} {Fd Fm : List Nat} {S M : DS} (h : DeskAt w gx gd gm Fd Fm S M) : gx < w.heap.size := h.blk.lt
/-- The desk's first pointer is the crashed disk. -/
def Mid1 (W : World) (gx gm : Nat) (S : DS) (n : Int) (wx : World) : Prop :=
  ∃ g3 Fd3, Bk wx gx 30 #[.pointer (some ⟨g3, 0, none⟩), .pointer (some ⟨gm, 0, none⟩)] ∧ IsDisk wx g3 Fd3 (crashS S (survQ n)) ∧ Adds W [] Fd3 ∧ Keeps [gx] W wx
def Mid2 (W : World) (gx : Nat) (S M : DS) (n : Int) (wx : World) : Prop :=
  ∃ g3 g4 Fd3 Fm3, DeskAt wx gx g3 g4 Fd3 Fm3 (crashS S (survQ n)) (crashS M (survQ n)) ∧ Adds W [] (Fd3 ++ Fm3) ∧ Keeps [gx] W wx

theorem mid1_mk {W w2 w3 : World} {gx gd gm : Nat} {Fd Fm Fd3 : List Nat} {S M : DS} {n : Int} (h : DeskAt W gx gd gm Fd Fm S M) (k2 : Keeps [] W.drew w2) (k3 : Keeps [] w2 w3) (hd : IsDisk w3 w2.heap.size Fd3 (crashS S (survQ n))) (ad : Adds w2 [] Fd3) :
    Mid1 W gx gm S n (w3.setCell ⟨gx, 0, none⟩ (.pointer (some ⟨w2.heap.size, 0, none⟩))) := by
  have hx := h.lt
  have s2 : W.heap.size ≤ w2.heap.size := k2.size
  have k23 : Keeps [] W w3 := (((Keeps.refl [] W).drew).trans' k2).trans' k3
  have ks : Keeps [gx] w3 (w3.setCell ⟨gx, 0, none⟩ (.pointer (some ⟨w2.heap.size, 0, none⟩))) := (Keeps.refl _ _).setCell (.inl (by simp)) _
  refine ⟨w2.heap.size, Fd3, (h.blk.keep k23 (by simp)).set 0 _, hd.keep ks ?_, fun i hi => (ad i hi).elim (fun h => by cases h) (fun h => .inr (by omega)), k23.nil.trans' ks⟩
  intro i hi
  rcases ad i hi with e | e
  · cases e
  · simp; omega

theorem mid2_mk {W wc w2 w5 : World} {gx g3 gm g5 : Nat} {Fd3 Fm5 : List Nat} {S M : DS} {n : Int} (hb : Bk wc gx 30 #[.pointer (some ⟨g3, 0, none⟩), .pointer (some ⟨gm, 0, none⟩)]) (hd : IsDisk wc g3 Fd3 (crashS S (survQ n))) (ad : Adds W [] Fd3) (kc : Keeps [gx] W wc) (hx : gx < W.heap.size)
    (k2 : Keeps [] wc.drew w2) (k5 : Keeps [] w2 w5) (hm : IsRef w5 g5 Fm5 (crashS M (survQ n))) (am : Adds w2 [] Fm5) :
    Mid2 W gx S M n (w5.setCell ⟨gx, 1, none⟩ (.pointer (some ⟨g5, 0, none⟩))) := by
  have s1 := kc.size
  have s2 : wc.heap.size ≤ w2.heap.size := k2.size
  have k25 : Keeps [] wc w5 := (((Keeps.refl [] wc).drew).trans' k2).trans' k5
  have ks : Keeps [gx] w5 (w5.setCell ⟨gx, 1, none⟩ (.pointer (some ⟨g5, 0, none⟩))) := (Keeps.refl _ _).setCell (.inl (by simp)) _
  have x1 : gx ∉ Fd3 := fun e => (ad gx e).elim (fun h => by cases h) (fun h => by omega)
  have x2 : gx ∉ Fm5 := fun e => (am gx e).elim (fun h => by cases h) (fun h => by omega)
  refine ⟨g3, g5, Fd3, Fm5, ⟨(hb.keep k25 (by simp)).set 1 _, (hd.keep k25 (apart_nil _)).keep ks (fun i hi => by simp; rintro rfl; exact x1 hi), hm.keep ks (fun i hi => by simp; rintro rfl; exact x2 hi), ?_, x1, x2⟩, ?_, (kc.trans' k25.nil).trans' ks⟩
  · intro i hi hj
    have h1 := hd.all i hi
    rcases am i hj with e | e
    · cases e
    · omega
  · intro i hi
    rw [List.mem_append] at hi
    rcases hi with hi | hi
    · exact ad i hi
    · rcases am i hi with e | e
      · cases e
      · exact .inr (by omega)

/-- The disk has turned, then the model. -/
theorem DeskAt.step {W w2 w3 : World} {gx gd gm : Nat} {Fd Fm Fd2 Fm3 : List Nat} {S M S' M' : DS} (h : DeskAt W gx gd gm Fd Fm S M) (hd : IsDisk w2 gd Fd2 S') (ad : Adds W Fd Fd2) (kd : Keeps Fd W w2)
    (hm : IsRef w3 gm Fm3 M') (am : Adds w2 Fm Fm3) (km : Keeps Fm w2 w3) :
    DeskAt w3 gx gd gm Fd2 Fm3 S' M' ∧ Adds W (Fd ++ Fm) (Fd2 ++ Fm3) ∧ Keeps (Fd ++ Fm) W w3 := by
  have hx := h.lt
  have a2m : Apart Fd2 Fm := h.ap.adds ad h.m.all
  have sz := kd.size
  refine ⟨⟨(h.blk.keep kd h.xd).keep km h.xm, hd.keep km a2m, hm, ?_, ?_, ?_⟩, ?_, ?_⟩
  · exact (a2m.symm.adds am hd.all).symm
  · intro e
    rcases ad gx e with e | e
    · exact h.xd e
    · omega
  · intro e
    rcases am gx e with e | e
    · exact h.xm e
    · omega
  · intro k hk
    rw [List.mem_append] at hk
    rcases hk with hk | hk
    · rcases ad k hk with e | e
      · exact .inl (by simp [e])
      · exact .inr e
    · rcases am k hk with e | e
      · exact .inl (by simp [e])
      · exact .inr (by omega)
  · exact (kd.mono (fun i hi => .inl (by simp [hi]))).trans km (fun i hi => .inl (by simp [hi]))

set_option maxHeartbeats 800000 in
theorem do_sync (gx gd gm : Nat) (Fd Fm : List Nat) (S M : DS) (a : ActD) (w : World) (hx : DeskAt w gx gd gm Fd Fm S M) (hs : Sim S M) (hc : S.calls < 1099511627776) (ha : a.ok) (hk : a.kind % 8 = 4) :
    Calls Try.prog 16 #[.pointer (some ⟨gx, 0, none⟩), a.val] w fun e w' => e = .returned (.bool true) ∧ ∃ Fd' Fm', DeskAt w' gx gd gm Fd' Fm' (syncD S) (rsyncD M) ∧ Adds w (Fd ++ Fm) (Fd' ++ Fm') ∧ Keeps (Fd ++ Fm) w w' := by
  have hgl := hx.blk.lt
  obtain ⟨k, off, n, t⟩ := a
  unfold ActD.val
  simp only at hk ⊢
  have HX := hide hx
  have hk4 : (k % 8 == 4) = true := by simp [hk]
  clear hx hk
  go_enter Try.func16, Try.ntmps16
  go_wp2_with fail
  refine (mod_any k 8 _ (by omega) (by omega) ha.k1 ha.k2).mono ?_
  rintro e w1 ⟨rfl, rfl⟩
  go_wp2_with fail
  have hX1 := HX.out.keep0 ((Keeps.refl [] w).alloc (.cells #[.int .i64 k, .int .i64 off, .int .i64 n, .string t] 33))
  have hK1 := (Keeps.refl [] w).alloc (.cells #[.int .i64 k, .int .i64 off, .int .i64 n, .string t] 33)
  have hB1 := Bk.new w 33 #[.int .i64 k, .int .i64 off, .int .i64 n, .string t]
  have hxb : gx ≠ w.heap.size := by have := HX.out.lt; omega
  generalize hbx : w.heap.size = bx at hB1 hxb ⊢
  generalize w.alloc (.cells #[.int .i64 k, .int .i64 off, .int .i64 n, .string t] 33) = W at hX1 hK1 hB1 ⊢
  have hFd : bx ∉ Fd := fun e => by have := HX.out.d.all bx e; omega
  have hFm : bx ∉ Fm := fun e => by have := HX.out.m.all bx e; omega
  have c0 := hX1.blk.cell 0
  have c1 := hX1.blk.cell 1
  have b1 := hB1.cell 1
  have b2 := hB1.cell 2
  have b3 := hB1.cell 3
  have b0 := hB1.cell 0
  simp at c0 c1 b0 b1 b2 b3
  have hcM : M.calls < 1099511627776 := by rw [← hs.calls]; exact hc
  have HS := hide hs
  clear hs
  have HX1 := hide hX1
  have HK1 := hide hK1
  have HBX := hide hbx
  clear hX1 hK1 HX hB1 hbx
  go_region_held3 (fun w' => w'.cell? ⟨gx, 0, none⟩ = some (.pointer (some ⟨gd, 0, none⟩)) ∧ w'.cell? ⟨gx, 1, none⟩ = some (.pointer (some ⟨gm, 0, none⟩)))
    (first | go_keep | exact ⟨hk2.cellF c0 HX1.out.xd, hk2.cellF c1 HX1.out.xd⟩ | exact ⟨hk3.cellF (hk2.cellF c0 HX1.out.xd) HX1.out.xm, hk3.cellF (hk2.cellF c1 HX1.out.xd) HX1.out.xm⟩)
    (first
      | (go_at_call 28; refine (sync_any gd Fd S _ (by exact HX1.out.d.drew) hc).mono ?_; rintro e w2 ⟨rfl, Fd2, hd2, had2, hk2⟩)
      | (go_at_call 33; refine (rsync_any gm Fm M _ (by exact (HX1.out.m.drew).keep hk2 HX1.out.ap.symm) hcM).mono ?_; rintro e w3 ⟨rfl, hm3, hk3⟩))
  have hst := HX1.out.step hd2 had2 ((Keeps.refl Fd W).drew.trans' hk2) hm3 (Adds.refl _ _) hk3
  have HST := hide hst
  clear hd2 had2 hk2 hm3 hk3 hst
  go_wp2_with fail
  go_ret
  refine ⟨?_, Fd2, Fm, HST.out.1, fun i hi => (HST.out.2.1 i hi).elim .inl (fun h => .inr (Nat.le_trans HK1.out.size h)), HK1.out.nil.trans' HST.out.2.2⟩
  show Ending.returned (.bool (syncE S == syncE M)) = _
  rw [HS.out.syncE]
  simp

set_option maxHeartbeats 800000 in
theorem do_read (gx gd gm : Nat) (Fd Fm : List Nat) (S M : DS) (a : ActD) (w : World) (hx : DeskAt w gx gd gm Fd Fm S M) (hs : Sim S M) (hc : S.calls < 1099511627776) (ha : a.ok) (hk : a.kind % 8 = 5) :
    Calls Try.prog 16 #[.pointer (some ⟨gx, 0, none⟩), a.val] w fun e w' => e = .returned (.bool true) ∧ Keeps [] w w' := by
  have hgl := hx.blk.lt
  obtain ⟨k, off, n, t⟩ := a
  unfold ActD.val
  simp only at hk ⊢
  have HX := hide hx
  have hk4 : (k % 8 == 4) = false := by simp [hk]
  have hk5 : (k % 8 == 5) = true := by simp [hk]
  clear hx hk
  go_enter Try.func16, Try.ntmps16
  go_wp2_with fail
  refine (mod_any k 8 _ (by omega) (by omega) ha.k1 ha.k2).mono ?_
  rintro e w1 ⟨rfl, rfl⟩
  go_wp2_with fail
  have hX1 := HX.out.keep0 ((Keeps.refl [] w).alloc (.cells #[.int .i64 k, .int .i64 off, .int .i64 n, .string t] 33))
  have hK1 := (Keeps.refl [] w).alloc (.cells #[.int .i64 k, .int .i64 off, .int .i64 n, .string t] 33)
  have hB1 := Bk.new w 33 #[.int .i64 k, .int .i64 off, .int .i64 n, .string t]
  have hxb : gx ≠ w.heap.size := by have := HX.out.lt; omega
  generalize hbx : w.heap.size = bx at hB1 hxb ⊢
  generalize w.alloc (.cells #[.int .i64 k, .int .i64 off, .int .i64 n, .string t] 33) = W at hX1 hK1 hB1 ⊢
  have hFd : bx ∉ Fd := fun e => by have := HX.out.d.all bx e; omega
  have hFm : bx ∉ Fm := fun e => by have := HX.out.m.all bx e; omega
  have c0 := hX1.blk.cell 0
  have c1 := hX1.blk.cell 1
  have b1 := hB1.cell 1
  have b2 := hB1.cell 2
  have b3 := hB1.cell 3
  have b0 := hB1.cell 0
  simp at c0 c1 b0 b1 b2 b3
  have hcM : M.calls < 1099511627776 := by rw [← hs.calls]; exact hc
  have HS := hide hs
  clear hs
  have HX1 := hide hX1
  have HK1 := hide hK1
  have HBX := hide hbx
  clear hX1 hK1 HX hB1 hbx
  have hw1 : -9223372036854775808 ≤ whereI off := by have := ha.o1; simp only at this; unfold whereI; split <;> omega
  have hw2 : whereI off ≤ 9223372036854775807 := by have := ha.o2; simp only at this; unfold whereI; split <;> omega
  have hW : Keeps [] W W.drew := (Keeps.refl _ _).drew
  have o1 := ha.o1
  have o2 := ha.o2
  have q2 := ha.n2
  simp only at o1 o2 q2
  go_region_held3 (fun w' => w'.cell? ⟨gx, 0, none⟩ = some (.pointer (some ⟨gd, 0, none⟩)) ∧ w'.cell? ⟨gx, 1, none⟩ = some (.pointer (some ⟨gm, 0, none⟩)) ∧ w'.cell? ⟨bx, 0, none⟩ = some (.int .i64 k) ∧ w'.cell? ⟨bx, 1, none⟩ = some (.int .i64 off) ∧ w'.cell? ⟨bx, 2, none⟩ = some (.int .i64 n) ∧ w'.cell? ⟨bx, 3, none⟩ = some (.string t))
    (first | go_keep | (go_split_ands; exact ⟨hkq.cell (by assumption), hkq.cell (by assumption), hkq.cell (by assumption), hkq.cell (by assumption), hkq.cell (by assumption), hkq.cell (by assumption)⟩))
    (first
      | (go_at_call 34; refine (where_any k off n t _ o1 o2).mono ?_; rintro e w2 ⟨rfl, hkq⟩; have hW := hW.trans' hkq)
      | (go_at_call 29; refine (read_any gd Fd S (whereI off) n _ (by exact HX1.out.d.keep hW (apart_nil _)) hw1 hw2 q2).mono ?_; rintro e w2 ⟨rfl, hkq⟩; have hW := hW.trans' hkq)
      | (go_at_call 31; refine (rread_any gm Fm M (whereI off) n _ (by exact HX1.out.m.keep hW (apart_nil _)) q2).mono ?_; rintro e w2 ⟨rfl, hkq⟩; have hW := hW.trans' hkq))
  have HW := hide hW
  clear hW hkq
  go_wp2_with fail
  go_ret
  refine ⟨?_, HK1.out.trans' HW.out⟩
  show Ending.returned (.bool (readL S.now (whereI off) n == (bs (readL M.now (whereI off) n)).toList)) = _
  rw [bs_toList, HS.out.now]
  simp

set_option maxHeartbeats 1600000 in
theorem do_write (gx gd gm : Nat) (Fd Fm : List Nat) (S M : DS) (a : ActD) (w : World) (hx : DeskAt w gx gd gm Fd Fm S M) (hs : Sim S M) (hc : S.calls < 1099511627776) (hp : S.pieces.length + 16777216 ≤ 1099511627776) (ha : a.ok) (hk : a.kind % 8 < 4) :
    Calls Try.prog 16 #[.pointer (some ⟨gx, 0, none⟩), a.val] w fun e w' => e = .returned (.bool true) ∧ ∃ Fd' Fm', DeskAt w' gx gd gm Fd' Fm' (writeD S (whereI a.off) (longB a.text a.n).data.toList) (rwriteD M (whereI a.off) (longB a.text a.n).data.toList) ∧ Adds w (Fd ++ Fm) (Fd' ++ Fm') ∧ Keeps (Fd ++ Fm) w w' := by
  have hgl := hx.blk.lt
  obtain ⟨k, off, n, t⟩ := a
  unfold ActD.val
  simp only at hk ⊢
  have HX := hide hx
  have hk4 : (k % 8 == 4) = false := by simp; omega
  have hk5 : (k % 8 == 5) = false := by simp; omega
  have hk6 : (k % 8 == 6) = false := by simp; omega
  have hk7 : (k % 8 == 7) = false := by simp; omega
  have hpM : M.pieces.length + 16777216 ≤ 1099511627776 := by rw [← hs.pieces]; exact hp
  clear hx hk
  go_enter Try.func16, Try.ntmps16
  go_wp2_with fail
  refine (mod_any k 8 _ (by omega) (by omega) ha.k1 ha.k2).mono ?_
  rintro e w1 ⟨rfl, rfl⟩
  go_wp2_with fail
  have hX1 := HX.out.keep0 ((Keeps.refl [] w).alloc (.cells #[.int .i64 k, .int .i64 off, .int .i64 n, .string t] 33))
  have hK1 := (Keeps.refl [] w).alloc (.cells #[.int .i64 k, .int .i64 off, .int .i64 n, .string t] 33)
  have hB1 := Bk.new w 33 #[.int .i64 k, .int .i64 off, .int .i64 n, .string t]
  have hxb : gx ≠ w.heap.size := by have := HX.out.lt; omega
  generalize hbx : w.heap.size = bx at hB1 hxb ⊢
  generalize w.alloc (.cells #[.int .i64 k, .int .i64 off, .int .i64 n, .string t] 33) = W at hX1 hK1 hB1 ⊢
  have hFd : bx ∉ Fd := fun e => by have := HX.out.d.all bx e; omega
  have hFm : bx ∉ Fm := fun e => by have := HX.out.m.all bx e; omega
  have c0 := hX1.blk.cell 0
  have c1 := hX1.blk.cell 1
  have b1 := hB1.cell 1
  have b2 := hB1.cell 2
  have b3 := hB1.cell 3
  have b0 := hB1.cell 0
  simp at c0 c1 b0 b1 b2 b3
  have hcM : M.calls < 1099511627776 := by rw [← hs.calls]; exact hc
  have HS := hide hs
  clear hs
  have HX1 := hide hX1
  have HK1 := hide hK1
  have HBX := hide hbx
  clear hX1 hK1 HX hB1 hbx
  have hw1 : -9223372036854775808 ≤ whereI off := by have := ha.o1; simp only at this; unfold whereI; split <;> omega
  have hw2 : whereI off ≤ 9223372036854775807 := by have := ha.o2; simp only at this; unfold whereI; split <;> omega
  have hls := longB_size t n
  have hls' : (longB t n).size ≤ 140737488355328 := by omega
  have hW : Keeps [] W W.drew := (Keeps.refl _ _).drew
  have o1 := ha.o1
  have o2 := ha.o2
  have q1 := ha.n1
  have q2 := ha.n2
  have qt := ha.t
  simp only at o1 o2 q1 q2 qt
  go_region_held3 (fun w' => w'.cell? ⟨gx, 0, none⟩ = some (.pointer (some ⟨gd, 0, none⟩)) ∧ w'.cell? ⟨gx, 1, none⟩ = some (.pointer (some ⟨gm, 0, none⟩)) ∧ w'.cell? ⟨bx, 0, none⟩ = some (.int .i64 k) ∧ w'.cell? ⟨bx, 1, none⟩ = some (.int .i64 off) ∧ w'.cell? ⟨bx, 2, none⟩ = some (.int .i64 n) ∧ w'.cell? ⟨bx, 3, none⟩ = some (.string t))
    (first
      | go_keep
      | (go_split_ands; exact ⟨hkq.cell (by assumption), hkq.cell (by assumption), hkq.cell (by assumption), hkq.cell (by assumption), hkq.cell (by assumption), hkq.cell (by assumption)⟩)
      | (go_split_ands; exact ⟨hk2.cellF (by assumption) HX1.out.xd, hk2.cellF (by assumption) HX1.out.xd, hk2.cellF (by assumption) hFd, hk2.cellF (by assumption) hFd, hk2.cellF (by assumption) hFd, hk2.cellF (by assumption) hFd⟩)
      | (go_split_ands; exact ⟨hk3.cellF (by assumption) HX1.out.xm, hk3.cellF (by assumption) HX1.out.xm, hk3.cellF (by assumption) hFm, hk3.cellF (by assumption) hFm, hk3.cellF (by assumption) hFm, hk3.cellF (by assumption) hFm⟩))
    (first
      | (go_at_call 34; refine (where_any k off n t _ o1 o2).mono ?_; rintro e w2 ⟨rfl, hkq⟩; (first | (have hU := hU.trans' hkq) | (have hW := hW.trans' hkq)))
      | (go_at_call 36; refine (long_any k off n t _ q1 q2 qt).mono ?_; rintro e w2 ⟨rfl, hkq⟩; (first | (have hU := hU.trans' hkq) | (have hW := hW.trans' hkq)))
      | (go_at_call 27; refine (write_any gd Fd S (whereI off) (longB t n) _ (by exact HX1.out.d.keep hW (apart_nil _)) hw1 hw2 hls' hc hp).mono ?_; rintro e w5 ⟨rfl, Fd2, hd2, had2, hk2⟩; have hU := Keeps.refl [] w5)
      | (go_at_call 32; refine (rwrite_any gm Fm M (whereI off) (longB t n) _ (by exact (HX1.out.m.keep (hW.nil.trans' hk2) HX1.out.ap.symm).keep hU (apart_nil _)) hw1 hw2 hls' hcM hpM).mono ?_; rintro e w6 ⟨rfl, Fm2, hm3, had3, hk3⟩))
  have hst := HX1.out.step (hd2.keep hU (apart_nil _)) (fun i hi => (had2 i hi).elim .inl (fun h => .inr (Nat.le_trans hW.size h))) ((hW.nil.trans' hk2).trans' hU.nil) hm3 had3 hk3
  have HST := hide hst
  clear hd2 had2 hk2 hm3 hk3 hst hU hW hkq had3
  go_wp2_with fail
  go_ret
  refine ⟨?_, Fd2, Fm2, HST.out.1, fun i hi => (HST.out.2.1 i hi).elim .inl (fun h => .inr (Nat.le_trans HK1.out.size h)), HK1.out.nil.trans' HST.out.2.2⟩
  show Ending.returned (.bool (writeE S (whereI off) (longB t n).data.toList == writeE M (whereI off) (longB t n).data.toList)) = _
  rw [HS.out.writeE]
  simp

set_option maxHeartbeats 800000 in
theorem do_fail (gx gd gm : Nat) (Fd Fm : List Nat) (S M : DS) (a : ActD) (w : World) (hx : DeskAt w gx gd gm Fd Fm S M) (hs : Sim S M) (hc : S.calls < 1099511627776) (ha : a.ok) (hk : a.kind % 8 = 6) :
    Calls Try.prog 16 #[.pointer (some ⟨gx, 0, none⟩), a.val] w fun e w' => e = .returned (.bool true) ∧ ∃ Fd' Fm', DeskAt w' gx gd gm Fd' Fm' (failS S (a.n % 9 - 1)) (failS M (a.n % 9 - 1)) ∧ Adds w (Fd ++ Fm) (Fd' ++ Fm') ∧ Keeps (Fd ++ Fm) w w' := by
  have hgl := hx.blk.lt
  obtain ⟨k, off, n, t⟩ := a
  unfold ActD.val
  simp only at hk ⊢
  have HX := hide hx
  have hk4 : (k % 8 == 4) = false := by simp [hk]
  have hk5 : (k % 8 == 5) = false := by simp [hk]
  have hk6 : (k % 8 == 6) = true := by simp [hk]
  clear hx hk
  go_enter Try.func16, Try.ntmps16
  go_wp2_with fail
  refine (mod_any k 8 _ (by omega) (by omega) ha.k1 ha.k2).mono ?_
  rintro e w1 ⟨rfl, rfl⟩
  have hX1 := HX.out.keep0 ((Keeps.refl [] w).alloc (.cells #[.int .i64 k, .int .i64 off, .int .i64 n, .string t] 33))
  have hK1 := (Keeps.refl [] w).alloc (.cells #[.int .i64 k, .int .i64 off, .int .i64 n, .string t] 33)
  have hB1 := Bk.new w 33 #[.int .i64 k, .int .i64 off, .int .i64 n, .string t]
  have hxb : gx ≠ w.heap.size := by have := HX.out.lt; omega
  generalize hbx : w.heap.size = bx at hB1 hxb ⊢
  generalize w.alloc (.cells #[.int .i64 k, .int .i64 off, .int .i64 n, .string t] 33) = W at hX1 hK1 hB1 ⊢
  have hFd : bx ∉ Fd := fun e => by have := HX.out.d.all bx e; omega
  have hFm : bx ∉ Fm := fun e => by have := HX.out.m.all bx e; omega
  have c0 := hX1.blk.cell 0
  have c1 := hX1.blk.cell 1
  have b1 := hB1.cell 1
  have b2 := hB1.cell 2
  have b3 := hB1.cell 3
  have b0 := hB1.cell 0
  simp at c0 c1 b0 b1 b2 b3
  have hcM : M.calls < 1099511627776 := by rw [← hs.calls]; exact hc
  have HS := hide hs
  clear hs
  have HX1 := hide hX1
  have HK1 := hide hK1
  have HBX := hide hbx
  clear hX1 hK1 HX hB1 hbx
  have m0 : 0 ≤ n % 9 := Int.emod_nonneg _ (by omega)
  have m1 : n % 9 < 9 := Int.emod_lt_of_pos _ (by omega)
  have q1 := ha.n1
  have q2 := ha.n2
  simp only at q1 q2
  go_wp2_with fail
  refine (mod_any n 9 _ (by omega) (by omega) q1 q2).mono ?_
  rintro e w1 ⟨rfl, rfl⟩
  go_wp2_with fail
  refine (fail_any gd Fd S (n % 9 - 1) W HX1.out.d (by omega) (by omega)).mono ?_
  rintro e w2 ⟨rfl, hd2, hk2⟩
  have c12 := hk2.cellF c1 HX1.out.xd
  go_wp2_with fail
  refine (rfail_any gm Fm M (n % 9 - 1) w2 (HX1.out.m.keep hk2 HX1.out.ap.symm) (by omega) (by omega)).mono ?_
  rintro e w3 ⟨rfl, hm3, hk3⟩
  have hst := HX1.out.step hd2 (Adds.refl _ _) hk2 hm3 (Adds.refl _ _) hk3
  have HST := hide hst
  clear hd2 hk2 hm3 hk3 hst
  go_wp2_with fail
  go_ret
  exact ⟨rfl, Fd, Fm, HST.out.1, fun i hi => (HST.out.2.1 i hi).elim .inl (fun h => .inr (Nat.le_trans HK1.out.size h)), HK1.out.nil.trans' HST.out.2.2⟩

set_option maxRecDepth 100000 in
set_option maxHeartbeats 1600000 in
theorem do_crash (gx gd gm : Nat) (Fd Fm : List Nat) (S M : DS) (a : ActD) (w : World) (hx : DeskAt w gx gd gm Fd Fm S M) (hs : Sim S M) (hc : S.calls < 1099511627776) (ha : a.ok) (hk : a.kind % 8 = 7) :
    Calls Try.prog 16 #[.pointer (some ⟨gx, 0, none⟩), a.val] w fun e w' => e = .returned (.bool true) ∧ ∃ gd' gm' Fd' Fm', DeskAt w' gx gd' gm' Fd' Fm' (crashS S (survQ a.n)) (crashS M (survQ a.n)) ∧ Adds w [] (Fd' ++ Fm') ∧ Keeps [gx] w w' := by
  have hgl := hx.blk.lt
  obtain ⟨k, off, n, t⟩ := a
  unfold ActD.val
  simp only at hk ⊢
  have HX := hide hx
  have hk4 : (k % 8 == 4) = false := by simp [hk]
  have hk5 : (k % 8 == 5) = false := by simp [hk]
  have hk6 : (k % 8 == 6) = false := by simp [hk]
  have hk7 : (k % 8 == 7) = true := by simp [hk]
  clear hx hk
  go_enter Try.func16, Try.ntmps16
  go_wp2_with fail
  refine (mod_any k 8 _ (by omega) (by omega) ha.k1 ha.k2).mono ?_
  rintro e w1 ⟨rfl, rfl⟩
  go_wp2_with fail
  have hX1 := HX.out.keep0 ((Keeps.refl [] w).alloc (.cells #[.int .i64 k, .int .i64 off, .int .i64 n, .string t] 33))
  have hK1 := (Keeps.refl [] w).alloc (.cells #[.int .i64 k, .int .i64 off, .int .i64 n, .string t] 33)
  have hB1 := Bk.new w 33 #[.int .i64 k, .int .i64 off, .int .i64 n, .string t]
  have hxb : gx ≠ w.heap.size := by have := HX.out.lt; omega
  generalize hbx : w.heap.size = bx at hB1 hxb ⊢
  generalize w.alloc (.cells #[.int .i64 k, .int .i64 off, .int .i64 n, .string t] 33) = W at hX1 hK1 hB1 ⊢
  have hFd : bx ∉ Fd := fun e => by have := HX.out.d.all bx e; omega
  have hFm : bx ∉ Fm := fun e => by have := HX.out.m.all bx e; omega
  have c0 := hX1.blk.cell 0
  have c1 := hX1.blk.cell 1
  have b1 := hB1.cell 1
  have b2 := hB1.cell 2
  have b3 := hB1.cell 3
  have b0 := hB1.cell 0
  simp at c0 c1 b0 b1 b2 b3
  have hcM : M.calls < 1099511627776 := by rw [← hs.calls]; exact hc
  have HS := hide hs
  clear hs
  have HX1 := hide hX1
  have HK1 := hide hK1
  have HBX := hide hbx
  clear hX1 hK1 HX hB1 hbx
  have q1 := ha.n1
  have q2 := ha.n2
  simp only at q1 q2
  have hsr := survQ_range n q1 q2
  have hsl : (survQ n).length ≤ 9223372036854775807 := by rw [survQ_length]; omega
  have HSR := hide hsr
  clear hsr
  have hfr := HX1.out.blk.free 0
  have hfr1 := HX1.out.blk.free 1
  have hgw := HX1.out.lt
  go_cut [63] (fun _ wx => Mid1 W gx gm S n wx)
  case first =>
    go_region_with (first
      | (go_at_call 25; refine (survive_any n _ q1 q2).mono ?_; rintro e w2 ⟨rfl, hsrc, hk2⟩; have c0 := hk2.cell c0)
      | (go_at_call 23; refine (crash_any gd Fd S _ 5 (survQ n) _ (by exact HX1.out.d.drew.keep hk2 (apart_nil _)) hsrc hsl HSR.out).mono ?_; rintro e w3 ⟨rfl, Fd3, hd3, had3, hk3⟩; have hb3 := (HX1.out.blk.drew.keep hk2 (by simp)).keep hk3 (by simp); have c03 := hb3.cell 0; have f03 := hb3.free 0; simp at c03))
    all_goals
      go_wp2_with fail
      go_meet
      exact mid1_mk HX1.out hk2 hk3 hd3 had3
  case rest =>
    obtain ⟨g3, Fd3, hb, hd3, had3, hk3⟩ := hcut
    have hmc := HX1.out.m.keep hk3 (fun i hi => by simp; rintro rfl; exact HX1.out.xm hi)
    have b2c := hk3.cellF b2 (by simpa using hxb.symm)
    have c1c := hb.cell 1
    have hgc := hb.lt
    simp at c1c
    have HB := hide hb
    have HD3 := hide (And.intro hd3 (And.intro had3 hk3))
    have HMC := hide hmc
    clear hb hd3 had3 hk3 hmc c0 c1 b0 b1 b2 b3 hfr hfr1
    go_wp2_with fail
    go_cut [74] (fun _ wx => Mid2 W gx S M n wx)
    case first =>
      go_region_with (first
        | (go_at_call 25; refine (survive_any n _ q1 q2).mono ?_; rintro e w2 ⟨rfl, hsrc, hk2⟩; have c1c := hk2.cell c1c)
        | (go_at_call 24; refine (rcrash_any gm Fm M _ 5 (survQ n) _ (by exact HMC.out.drew.keep hk2 (apart_nil _)) hsrc hsl HSR.out).mono ?_; rintro e w5 ⟨g5, Fm5, rfl, hm5, had5, hk5⟩; have hb5 := (HB.out.drew.keep hk2 (by simp)).keep hk5 (by simp); have c15 := hb5.cell 1; have f15 := hb5.free 1; simp at c15))
      all_goals
        go_wp2_with fail
        go_meet
        exact mid2_mk HB.out HD3.out.1 HD3.out.2.1 HD3.out.2.2 hgw hk2 hk5 hm5 had5
    case rest =>
      obtain ⟨g3', g4', Fd4, Fm4, hx4, had4, hk4⟩ := hcut
      have e0 := hx4.blk.cell 0
      simp at e0
      have HF := hide (And.intro hx4 (And.intro had4 hk4))
      clear hx4 had4 hk4 HB HD3 HMC c1c b2c hgc
      go_wp2_with fail
      go_ret
      exact ⟨rfl, g3', g4', Fd4, Fm4, HF.out.1, fun i hi => (HF.out.2.1 i hi).elim .inl (fun h => .inr (Nat.le_trans HK1.out.size h)), HK1.out.nil.trans' HF.out.2.2⟩

def doS (S : DS) (a : ActD) : DS :=
  if a.kind % 8 = 4 then syncD S else if a.kind % 8 = 5 then S else if a.kind % 8 = 6 then failS S (a.n % 9 - 1) else if a.kind % 8 = 7 then crashS S (survQ a.n) else writeD S (whereI a.off) (longB a.text a.n).data.toList
def rdoS (S : DS) (a : ActD) : DS :=
  if a.kind % 8 = 4 then rsyncD S else if a.kind % 8 = 5 then S else if a.kind % 8 = 6 then failS S (a.n % 9 - 1) else if a.kind % 8 = 7 then crashS S (survQ a.n) else rwriteD S (whereI a.off) (longB a.text a.n).data.toList
theorem Sim.act {S M : DS} (h : Sim S M) (a : ActD) : Sim (doS S a) (rdoS M a) := by
  unfold doS rdoS
  split
  · exact h.sync
  · split
    · exact h
    · split
      · exact h.fail _
      · split
        · exact h.crash _
        · exact h.write _ _

theorem partsF_length : ∀ (f off : Nat) (s : List UInt8), (partsF f off s).length ≤ f
  | 0, _, _ => by simp [partsF]
  | f + 1, off, s => by
    unfold partsF
    split
    · simp
    · simp only [List.length_cons]
      have := partsF_length f (off + min (64 - off % 64) s.length) (s.drop (min (64 - off % 64) s.length))
      omega
theorem do_grows (S : DS) (a : ActD) : (doS S a).calls ≤ S.calls + 1 ∧ (doS S a).pieces.length ≤ S.pieces.length + 200 := by
  have hl := longB_size a.text a.n
  unfold doS
  split
  · unfold syncD
    split
    · omega
    · simp [syncS, callS]
  · split
    · omega
    · split
      · simp [failS]
      · split
        · simp [crashS]
        · unfold writeD
          split
          · omega
          · split
            · omega
            · have := partsF_length (longB a.text a.n).data.toList.length (whereI a.off).toNat (longB a.text a.n).data.toList
              rw [sLen] at this
              simp only [writeS, callS, List.length_append, partsL]
              rw [sLen]
              omega

theorem do_any (gx gd gm : Nat) (Fd Fm : List Nat) (S M : DS) (a : ActD) (w : World) (hx : DeskAt w gx gd gm Fd Fm S M) (hs : Sim S M) (hc : S.calls < 1099511627776) (hp : S.pieces.length + 16777216 ≤ 1099511627776) (ha : a.ok) :
    Calls Try.prog 16 #[.pointer (some ⟨gx, 0, none⟩), a.val] w fun e w' => e = .returned (.bool true) ∧ ∃ gd' gm' Fd' Fm', DeskAt w' gx gd' gm' Fd' Fm' (doS S a) (rdoS M a) ∧ Adds w (Fd ++ Fm) (Fd' ++ Fm') ∧ Keeps (gx :: (Fd ++ Fm)) w w' := by
  have up : ∀ {w' : World}, Keeps (Fd ++ Fm) w w' → Keeps (gx :: (Fd ++ Fm)) w w' := fun k => k.mono (fun i hi => .inl (List.mem_cons_of_mem _ hi))
  have m0 : 0 ≤ a.kind % 8 := Int.emod_nonneg _ (by omega)
  have m1 : a.kind % 8 < 8 := Int.emod_lt_of_pos _ (by omega)
  unfold doS rdoS
  by_cases h4 : a.kind % 8 = 4
  · rw [if_pos h4, if_pos h4]
    exact (do_sync gx gd gm Fd Fm S M a w hx hs hc ha h4).mono fun e w' ⟨he, Fd', Fm', h1, h2, h3⟩ => ⟨he, gd, gm, Fd', Fm', h1, h2, up h3⟩
  rw [if_neg h4, if_neg h4]
  by_cases h5 : a.kind % 8 = 5
  · rw [if_pos h5, if_pos h5]
    exact (do_read gx gd gm Fd Fm S M a w hx hs hc ha h5).mono fun e w' ⟨he, hk⟩ => ⟨he, gd, gm, Fd, Fm, hx.keep0 hk, Adds.refl _ _, hk.nil⟩
  rw [if_neg h5, if_neg h5]
  by_cases h6 : a.kind % 8 = 6
  · rw [if_pos h6, if_pos h6]
    exact (do_fail gx gd gm Fd Fm S M a w hx hs hc ha h6).mono fun e w' ⟨he, Fd', Fm', h1, h2, h3⟩ => ⟨he, gd, gm, Fd', Fm', h1, h2, up h3⟩
  rw [if_neg h6, if_neg h6]
  by_cases h7 : a.kind % 8 = 7
  · rw [if_pos h7, if_pos h7]
    exact (do_crash gx gd gm Fd Fm S M a w hx hs hc ha h7).mono fun e w' ⟨he, gd', gm', Fd', Fm', h1, h2, h3⟩ => ⟨he, gd', gm', Fd', Fm', h1, fun i hi => (h2 i hi).elim (fun h => by cases h) .inr, h3.mono (fun i hi => .inl (by simp at hi; simp [hi]))⟩
  rw [if_neg h7, if_neg h7]
  exact (do_write gx gd gm Fd Fm S M a w hx hs hc hp ha (by omega)).mono fun e w' ⟨he, Fd', Fm', h1, h2, h3⟩ => ⟨he, gd, gm, Fd', Fm', h1, h2, up h3⟩
end Go.Proofs.Ytppgddigcoojiaa

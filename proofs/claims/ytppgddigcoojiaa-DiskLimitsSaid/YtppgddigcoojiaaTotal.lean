/- Each method in one contract, whatever the state (syncD, writeD and their numbers); a nil disk. -/
import Derived.Test.YtppgddigcoojiaaRcrash
namespace Go.Proofs.Ytppgddigcoojiaa
open Go.RowKit

def syncE (S : DS) : Int := if S.off then 70 else 0
def syncD (S : DS) : DS := if S.off then S else syncS (callS S)
def rsyncD (S : DS) : DS := if S.off then S else syncS (rcallS S)
def wbad (off : Int) (n : Nat) : Bool := decide (off < 0) || decide (16777216 < off + n)
def writeE (S : DS) (off : Int) (s : List UInt8) : Int := if wbad off s.length then 1 else if S.off then 70 else 0
def writeD (S : DS) (off : Int) (s : List UInt8) : DS := if wbad off s.length then S else if S.off then S else writeS (callS S) off.toNat s
def rwriteD (S : DS) (off : Int) (s : List UInt8) : DS := if wbad off s.length then S else if S.off then S else writeS (rcallS S) off.toNat s

theorem IsDisk.drew {w : World} {g : Nat} {F : List Nat} {S : DS} (h : IsDisk w g F S) : IsDisk w.drew g F S := h.keep ((Keeps.refl [] w).drew) (apart_nil F)
theorem IsRef.drew {w : World} {g : Nat} {F : List Nat} {S : DS} (h : IsRef w g F S) : IsRef w.drew g F S := h.keep ((Keeps.refl [] w).drew) (apart_nil F)

theorem sync_any (g : Nat) (F : List Nat) (S : DS) (w : World) (hd : IsDisk w g F S) (hc : S.calls < 1099511627776) :
    Calls Try.prog 28 #[.pointer (some ⟨g, 0, none⟩)] w fun e w' => e = .returned (.int .i64 (syncE S)) ∧ ∃ F', IsDisk w' g F' (syncD S) ∧ Adds w F F' ∧ Keeps F w w' := by
  unfold syncE syncD
  cases ho : S.off with
  | true => exact (sync_off g F S w hd ho).mono fun e w' ⟨he, hw⟩ => ⟨he, F, hw ▸ hd, Adds.refl _ _, hw ▸ Keeps.refl _ _⟩
  | false => exact (sync_on g F S w hd ho hc).mono fun e w' h => h

theorem rsync_any (g : Nat) (F : List Nat) (S : DS) (w : World) (hd : IsRef w g F S) (hc : S.calls < 1099511627776) :
    Calls Try.prog 33 #[.pointer (some ⟨g, 0, none⟩)] w fun e w' => e = .returned (.int .i64 (syncE S)) ∧ IsRef w' g F (rsyncD S) ∧ Keeps F w w' := by
  unfold syncE rsyncD
  cases ho : S.off with
  | true => exact (rsync_off g F S w hd ho).mono fun e w' ⟨he, hw⟩ => ⟨he, hw ▸ hd, hw ▸ Keeps.refl _ _⟩
  | false => exact (rsync_on g F S w hd ho hc).mono fun e w' h => h

theorem write_any (g : Nat) (F : List Nat) (S : DS) (off : Int) (s : ByteArray) (w : World) (hd : IsDisk w g F S) (h1 : -9223372036854775808 ≤ off) (h2 : off ≤ 9223372036854775807) (hs : s.size ≤ 140737488355328)
    (hc : S.calls < 1099511627776) (hp : S.pieces.length + 16777216 ≤ 1099511627776) :
    Calls Try.prog 27 #[.pointer (some ⟨g, 0, none⟩), .int .i64 off, .string s] w fun e w' => e = .returned (.int .i64 (writeE S off s.data.toList)) ∧ ∃ F', IsDisk w' g F' (writeD S off s.data.toList) ∧ Adds w F F' ∧ Keeps F w w' := by
  unfold writeE writeD
  rw [sLen]
  cases hb : wbad off s.size with
  | true =>
    have hb' : off < 0 ∨ 16777216 < off + s.size := by simpa [wbad] using hb
    exact (write_arg ⟨g, 0, none⟩ off s w h1 h2 (by omega) hb').mono fun e w' ⟨he, hw⟩ => ⟨he, F, hw ▸ hd, Adds.refl _ _, hw ▸ Keeps.refl _ _⟩
  | false =>
    have hb' : 0 ≤ off ∧ off + s.size ≤ 16777216 := by simpa [wbad] using hb
    obtain ⟨o, rfl⟩ : ∃ o : Nat, off = o := ⟨off.toNat, by omega⟩
    cases ho : S.off with
    | true => exact (write_off g F S o s w hd ho (by omega)).mono fun e w' ⟨he, hw⟩ => ⟨he, F, hw ▸ hd, Adds.refl _ _, hw ▸ Keeps.refl _ _⟩
    | false => exact (write_on g F S o s w hd ho hc (by omega) (by omega)).mono fun e w' h => h

theorem rwrite_any (g : Nat) (F : List Nat) (S : DS) (off : Int) (s : ByteArray) (w : World) (hd : IsRef w g F S) (h1 : -9223372036854775808 ≤ off) (h2 : off ≤ 9223372036854775807) (hs : s.size ≤ 140737488355328)
    (hc : S.calls < 1099511627776) (hp : S.pieces.length + 16777216 ≤ 1099511627776) :
    Calls Try.prog 32 #[.pointer (some ⟨g, 0, none⟩), .int .i64 off, .string s] w fun e w' => e = .returned (.int .i64 (writeE S off s.data.toList)) ∧ ∃ F', IsRef w' g F' (rwriteD S off s.data.toList) ∧ Adds w F F' ∧ Keeps F w w' := by
  unfold writeE rwriteD
  rw [sLen]
  cases hb : wbad off s.size with
  | true =>
    have hb' : off < 0 ∨ 16777216 < off + s.size := by simpa [wbad] using hb
    exact (rwrite_arg ⟨g, 0, none⟩ off s w h1 h2 hs hb').mono fun e w' ⟨he, hw⟩ => ⟨he, F, hw ▸ hd, Adds.refl _ _, hw ▸ Keeps.refl _ _⟩
  | false =>
    have hb' : 0 ≤ off ∧ off + s.size ≤ 16777216 := by simpa [wbad] using hb
    obtain ⟨o, rfl⟩ : ∃ o : Nat, off = o := ⟨off.toNat, by omega⟩
    cases ho : S.off with
    | true => exact (rwrite_off g F S o s w hd ho (by omega)).mono fun e w' ⟨he, hw⟩ => ⟨he, F, hw ▸ hd, Adds.refl _ _, hw ▸ Keeps.refl _ _⟩
    | false => exact (rwrite_on g F S o s w hd ho hc (by omega) (by omega)).mono fun e w' h => h

/-! ### a nil disk -/
theorem nil_size (w : World) : Calls Try.prog 17 #[.pointer none] w fun e w' => e = .returned (.int .i64 0) ∧ w = w' := by
  go_enter Try.func17, Try.ntmps17
  go_wp2
  go_ret
  exact ⟨rfl, rfl⟩
theorem nil_calls (w : World) : Calls Try.prog 19 #[.pointer none] w fun e w' => e = .returned (.int .i64 0) ∧ w = w' := by
  go_enter Try.func19, Try.ntmps19
  go_wp2
  go_ret
  exact ⟨rfl, rfl⟩
theorem nil_read (off n : Int) (w : World) : Calls Try.prog 29 #[.pointer none, .int .i64 off, .int .i64 n] w fun e w' => e = .returned (.string ⟨#[]⟩) ∧ w = w' := by
  go_enter Try.func29, Try.ntmps29
  go_wp2
  go_ret
  exact ⟨rfl, rfl⟩
theorem nil_write (off : Int) (s : ByteArray) (w : World) : Calls Try.prog 27 #[.pointer none, .int .i64 off, .string s] w fun e w' => e = .returned (.int .i64 1) ∧ w = w' := by
  go_enter Try.func27, Try.ntmps27
  go_wp2
  go_ret
  exact ⟨rfl, rfl⟩
theorem nil_sync (w : World) : Calls Try.prog 28 #[.pointer none] w fun e w' => e = .returned (.int .i64 1) ∧ w = w' := by
  go_enter Try.func28, Try.ntmps28
  go_wp2
  go_ret
  exact ⟨rfl, rfl⟩
theorem nil_fail (n : Int) (w : World) : Calls Try.prog 30 #[.pointer none, .int .i64 n] w fun e w' => e = .returned (.tuple #[]) ∧ w = w' := by
  go_enter Try.func30, Try.ntmps30
  go_wp2
  go_end0
  exact ⟨rfl, rfl⟩
theorem nil_crash (v : Value) (w : World) : Calls Try.prog 23 #[.pointer none, v] w fun e w' => e = .returned (.pointer (some ⟨w.heap.size, 0, none⟩)) ∧ IsDisk w' w.heap.size [w.heap.size] DS.new ∧ Keeps [] w w' := by
  go_enter Try.func23, Try.ntmps23
  go_wp2_with fail
  refine (new_any w).mono ?_
  rintro e w1 ⟨rfl, hd, hk⟩
  have H := hide (And.intro hd hk)
  clear hd hk
  go_wp2_with fail
  go_ret
  exact ⟨rfl, H.out⟩
end Go.Proofs.Ytppgddigcoojiaa

/- What Read returns (readL), and the contract of Read. -/
import Derived.Test.YtppgddigcoojiaaDisk
import Derived.Deep.QuietTactic
import Derived.BigQuiet
namespace Go.Proofs.Ytppgddigcoojiaa
open Go.RowKit

theorem bv_window (l : List UInt8) (off k : Nat) : bv ((l.drop off).take k) = ((bv l).drop off).take k := by simp [bv, List.map_drop, List.map_take]
/-- A part of what a slice at a block's head shows. -/
theorem Src.window {w : World} {b n cap : Nat} {xs : List Value} (h : Src w 1 (.slice (some ⟨b, 0, none⟩) n cap) n xs) (off k c : Nat) (hk : off + k ≤ n) : Src w 1 (.slice (some ⟨b, off, none⟩) k c) k ((xs.drop off).take k) := by
  obtain ⟨hl, A, c', hA, _, hc⟩ := h
  injection hA with hA _ _
  subst hA
  refine ⟨by simp; omega, _, _, rfl, fun h => by (cases h), fun ad had j u hu => ?_⟩
  injection had with had
  subst had
  have hj : j < k := by
    have := (List.getElem?_eq_some_iff.1 hu).1
    simp at this; omega
  rw [List.getElem?_take, if_pos hj, List.getElem?_drop] at hu
  have := hc _ rfl (off + j) u hu
  have e1 : (⟨b, 0, none⟩ : Addr).add (off + j) = ⟨b, off + j, none⟩ := by unfold Addr.add; split <;> simp_all
  have e2 : (⟨b, off, none⟩ : Addr).add j = ⟨b, off + j, none⟩ := by unfold Addr.add; split <;> simp_all
  rw [e2, ← e1]
  exact this
/-- string(b) of whatever slice of bytes. -/
theorem run_bytes_str (w : World) (A : Option Addr) (n c : Nat) (l : List UInt8) (hn : l.length = n) (h : Src w 1 (.slice A n c) n (bv l)) : (convert 56 9 (.slice A n c)).run Try.prog w = .ok (.string ⟨l.toArray⟩) w := by
  obtain ⟨hl, A', c', hA, hnil, hc⟩ := h
  injection hA with hA _ _
  subst hA
  cases A with
  | none =>
    have := hnil rfl
    obtain rfl : l = [] := List.eq_nil_of_length_eq_zero (by omega)
    exact run_convert_bytes_nil (P := Try.prog) w 56 5 Try.underlying56 Try.underlying5 n c 9 Try.underlying9
  | some ad =>
    have hload : (loadCells ad n).run Try.prog w = .ok (l.map fun x => Value.int .u8 (x.toNat : Int)).toArray w := by
      have := run_loadCells_list (P := Try.prog) w ad (bv l) (hc ad rfl)
      rw [bv_length, hn] at this
      exact this
    have hl2 : (loadCells ad n).run Try.prog w = .ok ((l.map fun x => (x.toNat : Int)).map (Value.int .u8)).toArray w := by
      rw [hload]; simp
    rw [run_convert_bytes_string w 56 9 5 _ n c Try.underlying56 Try.underlying5 Try.underlying9, run_bytesToString w _ n c _ hl2, foldl_push_bytes]
    have e : (l.map fun x => (x.toNat : Int)).map (fun n => UInt8.ofNat n.toNat) = l := by
      rw [List.map_map]
      conv => rhs; rw [← List.map_id l]
      apply List.map_congr_left
      intro x _
      simp
    simp only [e]
    simp [ByteArray.empty, ByteArray.emptyWithCapacity]
    rfl

/-- What Read returns. -/
def readL (c : List UInt8) (off n : Int) : List UInt8 :=
  if off < 0 ∨ n < 1 ∨ (c.length : Int) ≤ off then [] else (c.drop off.toNat).take (min n (c.length - off)).toNat

set_option maxHeartbeats 400000 in
theorem read_none (g : Nat) (F : List Nat) (S : DS) (off n : Int) (w : World) (hd : IsDisk w g F S) (h1 : -9223372036854775808 ≤ off) (h2 : off ≤ 9223372036854775807) (hn : off < 0 ∨ n < 1 ∨ (S.now.length : Int) ≤ off) :
    Calls Try.prog 29 #[.pointer (some ⟨g, 0, none⟩), .int .i64 off, .int .i64 n] w fun e w' => e = .returned (.string ⟨(readL S.now off n).toArray⟩) ∧ Keeps [] w w' := by
  have hr : readL S.now off n = [] := by unfold readL; rw [if_pos hn]
  rw [hr]
  obtain ⟨vn, vs, vp, cs, hd⟩ := hd
  obtain ⟨A, c, rfl⟩ := hd.now.slice
  have h := hd.blk.cell 0
  clear hd hr
  simp at h
  by_cases ha : off < 0
  · go_enter Try.func29, Try.ntmps29
    go_wp2
    go_ret
    exact ⟨rfl, Keeps.refl _ _⟩
  · by_cases hb : n < 1
    · go_enter Try.func29, Try.ntmps29
      go_wp2
      go_ret
      exact ⟨rfl, Keeps.refl _ _⟩
    · have hc : (S.now.length : Int) ≤ off := by omega
      go_enter Try.func29, Try.ntmps29
      go_wp2
      go_ret
      exact ⟨rfl, Keeps.refl _ _⟩

set_option maxHeartbeats 400000 in
theorem read_some (g : Nat) (F : List Nat) (S : DS) (off : Nat) (n : Int) (w : World) (hd : IsDisk w g F S) (hn : 1 ≤ n) (hn' : n ≤ 9223372036854775807) (hoff : off < S.now.length) :
    Calls Try.prog 29 #[.pointer (some ⟨g, 0, none⟩), .int .i64 off, .int .i64 n] w fun e w' => e = .returned (.string ⟨(readL S.now off n).toArray⟩) ∧ Keeps [] w w' := by
  obtain ⟨vn, vs, vp, cs, hd⟩ := hd
  have hok := hd.ok.now
  obtain ⟨b, cap, rfl, hlt⟩ := own_form hd.now (by omega)
  have h := hd.blk.cell 0
  simp at h
  have HD := hide hd
  clear hd
  have hco : ¬ cap = off := by omega
  obtain ⟨m, rfl⟩ : ∃ m : Nat, n = m := ⟨n.toNat, by omega⟩
  have hle : off ≤ S.now.length := by omega
  have hcv : ∀ (nq : Nat), (convert 56 9 (.slice (some ⟨b, off, none⟩) (if (S.now.length : Int) - off < m then (S.now.length : Int) - off else m).toNat (cap - off))).run Try.prog (w.drewN nq) = .ok (.string ⟨(readL S.now off m).toArray⟩) (w.drewN nq) := by
    intro nq
    have hk : (min (m : Int) (S.now.length - off)).toNat = (if (S.now.length : Int) - off < m then (S.now.length : Int) - off else m).toNat := by split <;> omega
    have hrd : readL S.now off m = (S.now.drop off).take (if (S.now.length : Int) - off < m then (S.now.length : Int) - off else m).toNat := by
      unfold readL
      rw [if_neg (by omega), hk, Int.toNat_natCast]
    rw [hrd]
    generalize hkk : (if (S.now.length : Int) - off < m then (S.now.length : Int) - off else m).toNat = k
    have hkl : off + k ≤ S.now.length := by rw [← hkk]; split <;> omega
    have hs := (HD.out.now.src.window off k (cap - off) (by omega))
    rw [← bv_window] at hs
    exact run_bytes_str (w.drewN nq) _ _ _ _ (by simp; omega) hs
  go_enter Try.func29, Try.ntmps29
  go_wp2
  go_quiet (fail)
  go_wp2
  all_goals
    go_ret
    exact ⟨rfl, (Keeps.refl _ _).drewN _⟩

/-- Read(off, n). -/
theorem read_any (g : Nat) (F : List Nat) (S : DS) (off n : Int) (w : World) (hd : IsDisk w g F S) (h1 : -9223372036854775808 ≤ off) (h2 : off ≤ 9223372036854775807) (h3 : n ≤ 9223372036854775807) :
    Calls Try.prog 29 #[.pointer (some ⟨g, 0, none⟩), .int .i64 off, .int .i64 n] w fun e w' => e = .returned (.string ⟨(readL S.now off n).toArray⟩) ∧ Keeps [] w w' := by
  by_cases h : off < 0 ∨ n < 1 ∨ (S.now.length : Int) ≤ off
  · exact read_none g F S off n w hd h1 h2 h
  · obtain ⟨o, rfl⟩ : ∃ o : Nat, off = o := ⟨off.toNat, by omega⟩
    exact read_some g F S o n w hd (by omega) h3 (by omega)
end Go.Proofs.Ytppgddigcoojiaa

/- []byte to string. -/
import Derived.Test.YtcfglfnncpcfoaaBuild
import Derived.Lib.ConvBytes
import Derived.Deep.QuietTactic
import Derived.BigQuiet
namespace Go.Proofs.Ytcfglfnncpcfoaa
open Go.RowKit

set_option maxRecDepth 100000 in
/-- string(b) of whatever slice of bytes. -/
theorem run_bytes_str (w : World) (A : Option Addr) (n c : Nat) (l : List UInt8) (hn : l.length = n) (h : Src w 1 (.slice A n c) n (bv l)) : (convert 36 9 (.slice A n c)).run Try.prog w = .ok (.string ⟨l.toArray⟩) w := by
  obtain ⟨hl, A', c', hA, hnil, hc⟩ := h
  injection hA with hA _ _
  subst hA
  cases A with
  | none =>
    have := hnil rfl
    obtain rfl : l = [] := List.eq_nil_of_length_eq_zero (by omega)
    exact run_convert_bytes_nil (P := Try.prog) w 36 5 Try.underlying36 Try.underlying5 n c 9 Try.underlying9
  | some ad =>
    have hload : (loadCells ad n).run Try.prog w = .ok (l.map fun x => Value.int .u8 (x.toNat : Int)).toArray w := by
      have := run_loadCells_list (P := Try.prog) w ad (bv l) (hc ad rfl)
      rw [bv_length, hn] at this
      exact this
    have hl2 : (loadCells ad n).run Try.prog w = .ok ((l.map fun x => (x.toNat : Int)).map (Value.int .u8)).toArray w := by
      rw [hload]; simp
    rw [run_convert_bytes_string w 36 9 5 _ n c Try.underlying36 Try.underlying5 Try.underlying9, run_bytesToString w _ n c _ hl2, foldl_push_bytes]
    have e : (l.map fun x => (x.toNat : Int)).map (fun n => UInt8.ofNat n.toNat) = l := by
      rw [List.map_map]
      conv => rhs; rw [← List.map_id l]
      apply List.map_congr_left
      intro x _
      simp
    simp only [e]
    simp [ByteArray.empty, ByteArray.emptyWithCapacity]
    rfl

end Go.Proofs.Ytcfglfnncpcfoaa

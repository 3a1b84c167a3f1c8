/- The reference model's Mod and Put. -/
import Derived.Test.YtppgddigcoojiaaCrash
namespace Go.Proofs.Ytppgddigcoojiaa
open Go.RowKit

theorem tmod_fix (n m : Int) : (n.tmod m + m) % m = n % m := by
  rw [Int.add_emod_right, Int.tmod_def, Int.sub_mul_emod_self_left]

set_option maxHeartbeats 400000 in
theorem mod_any (n m : Int) (w : World) (hm : 0 < m) (hm' : m ≤ 1000000) (_h1 : -9223372036854775808 ≤ n) (_h2 : n ≤ 9223372036854775807) :
    Calls Try.prog 22 #[.int .i64 n, .int .i64 m] w fun e w' => e = .returned (.int .i64 (n % m)) ∧ w = w' := by
  have ha := tmod_fix n m
  have hb : -m < n.tmod m := Int.lt_tmod_of_pos n hm
  have hc : n.tmod m < m := Int.tmod_lt_of_pos n hm
  have HA := hide ha
  clear ha
  go_enter Try.func22, Try.ntmps22
  go_wp2
  go_ret
  exact ⟨by rw [← HA.out]; rfl, rfl⟩

/-- A string's bytes. -/
def bs (l : List UInt8) : ByteArray := ⟨l.toArray⟩
theorem bs_data (s : ByteArray) : bs s.data.toList = s := rfl
theorem bs_size (l : List UInt8) : (bs l).size = l.length := by simp [bs, ByteArray.size]
theorem bs_list (l : List UInt8) : (bs l).data.toList = l := rfl

theorem Try.mk_zeros (k : Nat) (hk : k ≤ 281474976710656) (w : World) : (Instr.makeSlice 56 (.int .i64 (k : Int)) (.int .i64 (k : Int))).run Try.prog w = .ok (.slice (some ⟨w.heap.size, 0, none⟩) k k) (w.alloc (.cells (Array.replicate k (.int .u8 0)) 5)) := by
  obtain ⟨i0, hi, hz0, hz1, hz2⟩ := info_parts Try.info5
  have := run_make (P := Try.prog) w 56 5 i0 _ Try.underlying56 hi hz0 .i64 .i64 k k (by omega) (by omega) (by rw [hz2]; omega) (by omega)
  simp only [Int.toNat_natCast] at this
  rw [this, hz1]
  congr 3
  apply Array.ext'
  have : (Value.int .u8 0).cells = #[.int .u8 0] := rfl
  rw [this, toList_madeCells_one]
  simp

theorem zeros_str (w : World) (k : Nat) : (convert 56 9 (.slice (some ⟨w.heap.size, 0, none⟩) k k)).run Try.prog (w.alloc (.cells (Array.replicate k (.int .u8 0)) 5)) = .ok (.string (bs (List.replicate k 0))) (w.alloc (.cells (Array.replicate k (.int .u8 0)) 5)) := by
  refine run_bytes_str _ _ _ _ _ (by simp) ?_
  have := Src.built w 5 (Array.replicate k (.int .u8 0)) 1 k (by simp) w.heap.size rfl
  rw [bv_zeros]
  simpa using this

theorem putL_short (c : List UInt8) (off : Nat) (s : List UInt8) (h : off ≤ c.length) (he : c.length ≤ off + s.length) : putL c off s = c.take off ++ s := by
  unfold putL
  rw [List.drop_of_length_le (by simp; omega), List.take_append, List.append_nil, show off - c.length = 0 by omega]
  simp
theorem putL_mid (c : List UInt8) (off : Nat) (s : List UInt8) (he : off + s.length ≤ c.length) : putL c off s = c.take off ++ s ++ c.drop (off + s.length) := by
  unfold putL
  rw [show off + s.length - c.length = 0 by omega]
  simp
theorem putL_far (c : List UInt8) (off : Nat) (s : List UInt8) (h : c.length ≤ off) : putL c off s = (c ++ List.replicate (off - c.length) 0) ++ s := by
  unfold putL
  rw [List.drop_of_length_le (by simp; omega), List.append_nil, List.take_append, List.take_of_length_le h, List.take_replicate]
  congr 3
  omega

theorem bs_append (l m : List UInt8) : bs l ++ bs m = bs (l ++ m) := by
  apply ByteArray.ext
  simp [bs, ByteArray.data_append]

theorem sExt {a b : ByteArray} (h : a.data.toList = b.data.toList) : a = b := ByteArray.ext (Array.ext' h)
theorem sLen (s : ByteArray) : s.data.toList.length = s.size := by simp
theorem sCut (s : ByteArray) (a b : Nat) (_hb : b ≤ s.size) : (s.extract a b).data.toList = (s.data.toList.drop a).take (b - a) := by
  rw [ByteArray.data_extract, Array.toList_extract]
theorem sCutEnd (s : ByteArray) (a : Nat) : (s.extract a s.size).data.toList = s.data.toList.drop a := by
  rw [sCut s a s.size (Nat.le_refl _)]
  exact List.take_of_length_le (by simp)
theorem sCutHead (s : ByteArray) (b : Nat) (hb : b ≤ s.size) : (s.extract 0 b).data.toList = s.data.toList.take b := by
  rw [sCut s 0 b hb]; simp
theorem sApp (a b : ByteArray) : (a ++ b).data.toList = a.data.toList ++ b.data.toList := by simp [ByteArray.data_append]

theorem rput_fin (c x s : ByteArray) (off : Nat) (hlt : off ≤ x.size) (hx : x = c ∨ (off ≤ x.size ∧ x = c ++ bs (List.replicate (off - c.size) 0))) :
    (x.size ≤ off + s.size → x.extract 0 off ++ s = bs (putL c.data.toList off s.data.toList)) ∧ (off + s.size < x.size → x.extract 0 off ++ s ++ x.extract (off + s.size) x.size = bs (putL c.data.toList off s.data.toList)) := by
  have hs := sLen s
  have hcl := sLen c
  rcases hx with rfl | ⟨h1, h2⟩
  · refine ⟨fun he => sExt ?_, fun he => sExt ?_⟩
    · rw [bs_list, putL_short _ _ _ (by omega) (by omega), sApp, sCutHead x off hlt]
    · rw [bs_list, putL_mid _ _ _ (by omega), sApp, sApp, sCutHead x off hlt, sCutEnd, hs]
  · rcases Nat.lt_or_ge off c.size with hc | hc
    · have e : x = c := by rw [h2, show off - c.size = 0 by omega]; exact sExt (by simp [bs])
      subst e
      refine ⟨fun he => sExt ?_, fun he => sExt ?_⟩
      · rw [bs_list, putL_short _ _ _ (by omega) (by omega), sApp, sCutHead x off hlt]
      · rw [bs_list, putL_mid _ _ _ (by omega), sApp, sApp, sCutHead x off hlt, sCutEnd, hs]
    · have hxs : x.size = off := by rw [h2, ByteArray.size_append, bs_size, List.length_replicate]; omega
      refine ⟨fun he => sExt ?_, fun he => by omega⟩
      rw [bs_list, putL_far _ _ _ (by omega), sApp, sCutHead x off hlt, List.take_of_length_le (by rw [sLen]; omega), h2, sApp, bs_list, hcl]

set_option maxHeartbeats 400000 in
theorem rput_any (c : ByteArray) (off : Nat) (s : ByteArray) (w : World) (hc : c.size ≤ 16777216) (hl : off + s.size ≤ 16777216) :
    Calls Try.prog 38 #[.string c, .int .i64 off, .string s] w fun e w' => e = .returned (.string (bs (putL c.data.toList off s.data.toList))) ∧ Keeps [] w w' := by
  have hmk := fun (W : World) => Try.mk_zeros (off - c.size) (by omega) W
  have hcv := fun (W : World) => zeros_str W (off - c.size)
  go_enter Try.func38, Try.ntmps38
  go_wp2_with fail
  go_loopw [0] (fun v wr => ∃ x : ByteArray, v = .string x ∧ Keeps [] w wr ∧ x.size ≤ 16777216 ∧ (x = c ∨ (off ≤ x.size ∧ x = c ++ bs (List.replicate (off - c.size) 0)))) (fun v _ => off - strLen v)
  case atStart => exact ⟨c, rfl, Keeps.refl _ _, hc, .inl rfl⟩
  case round =>
    obtain ⟨x, rfl, hk, hx, hx2⟩ := hrel
    have HX := hide hx2
    clear hx2
    by_cases hlt : x.size < off
    · have hxc : x = c := by
        rcases HX.out with h | h
        · exact h
        · omega
      subst hxc
      have hsub : (off : Int) - x.size = ((off - x.size : Nat) : Int) := by omega
      have hbz : (bs (List.replicate (off - x.size) 0)).size ≤ off := by rw [bs_size, List.length_replicate]; omega
      have HK := hide hk
      clear hk
      go_wp2_with fail
      refine ⟨⟨x ++ bs (List.replicate (off - x.size) 0), rfl, HK.out.alloc _, ?_, .inr ⟨?_, rfl⟩⟩, ?_⟩
      · rw [ByteArray.size_append, bs_size, List.length_replicate]; omega
      · rw [ByteArray.size_append, bs_size, List.length_replicate]; omega
      · simp only [strLen]; rw [ByteArray.size_append, bs_size, List.length_replicate]; omega
    · have hfin : (x.size ≤ off + s.size → x.extract 0 off ++ s = bs (putL c.data.toList off s.data.toList)) ∧ (off + s.size < x.size → x.extract 0 off ++ s ++ x.extract (off + s.size) x.size = bs (putL c.data.toList off s.data.toList)) := by
        exact rput_fin c x s off (by omega) HX.out
      have HF := hide hfin
      have HK := hide hk
      clear hfin hk hmk hcv
      have hle : off ≤ x.size := by omega
      have z1 : (x.extract 0 off).size ≤ 16777216 := by simp [ByteArray.size_extract]; omega
      have z2 : (x.extract (off + s.size) x.size).size ≤ 16777216 := by simp [ByteArray.size_extract]; omega
      have z3 : (x.extract 0 off ++ s).size ≤ 33554432 := by rw [ByteArray.size_append]; omega
      by_cases he : x.size ≤ off + s.size
      · go_wp2_with fail
        go_ret
        exact ⟨by rw [← HF.out.1 he]; rfl, HK.out⟩
      · have hle2 : off + s.size ≤ x.size := by omega
        have hle3 : (off : Int) + s.size ≤ x.size := by omega
        have hto : ((off : Int) + s.size).toNat = off + s.size := by omega
        go_wp2_with fail
        go_quiet (fail)
        go_wp2
        go_ret
        exact ⟨by rw [← HF.out.2 (by omega)]; rfl, HK.out.drewN _⟩
end Go.Proofs.Ytppgddigcoojiaa

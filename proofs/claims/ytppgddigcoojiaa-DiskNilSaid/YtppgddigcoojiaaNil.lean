/- The walk of DiskNil. -/
import Derived.Test.YtppgddigcoojiaaCrashes
namespace Go.Proofs.Ytppgddigcoojiaa
open Go.RowKit
attribute [local go_sem ↓] Go.wp_at_zero Go.wp_at_succ

/-- A zero disk is a new one. -/
theorem zero_disk (w : World) : IsDisk (w.alloc (.cells #[.slice none 0 0, .slice none 0 0, .slice none 0 0, .int .i64 0, .bool false, .int .i64 0] 62)) w.heap.size [w.heap.size] DS.new := by
  refine ⟨.slice none 0 0, .slice none 0 0, .slice none 0 0, [], ?_⟩
  exact ⟨Bk.new _ _ _, by simp, World.ownsRow_nil _ _ _ _, World.ownsRow_nil _ _ _ _, World.ownsRow_nil _ _ _ _, by simp [DS.new], by simp [Value.ownBlock], by simp [Value.ownBlock], by simp [Value.ownBlock], by simp [In], DS.new_ok⟩

theorem n_e1 : writeE DS.new 0 [97] = 0 := by decide +kernel
set_option maxRecDepth 100000 in
set_option maxHeartbeats 3200000 in
theorem nil_walk (off : Int) (s : ByteArray) (Aq : Option Addr) (cq : Nat) (q : List Int) (w : World) (ho1 : -9223372036854775808 ≤ off) (ho2 : off ≤ 9223372036854775807) (hs : s.size ≤ 140737488355328) :
    Calls Try.prog 12 #[.int .i64 off, .string s, .slice Aq q.length cq] w fun e w' => e = .returned (.bool true) ∧ Keeps [] w w' := by
  go_enter Try.func12, Try.ntmps12
  go_wp2_with fail
  refine (sanity_any w).mono ?_
  rintro e w1 ⟨rfl, hk1⟩
  have HK1 := hide hk1
  clear hk1
  go_wp2_with fail
  refine (nil_fail off w1).mono ?_
  rintro e w2 ⟨rfl, rfl⟩
  go_wp2_with fail
  refine (nil_crash _ w1).mono ?_
  rintro e w2 ⟨rfl, hd2, hk2⟩
  have HK2 := hide (HK1.out.trans' hk2)
  have HD2 := hide hd2
  have hgc := HK1.out.size
  generalize w1.heap.size = gc at HD2 hgc ⊢
  clear hd2 hk2
  go_wp2_with fail
  have hd3 := zero_disk w2
  have hk3 := (Keeps.refl [] w2).alloc (.cells #[.slice none 0 0, .slice none 0 0, .slice none 0 0, .int .i64 0, .bool false, .int .i64 0] 62)
  generalize w2.alloc (.cells #[.slice none 0 0, .slice none 0 0, .slice none 0 0, .int .i64 0, .bool false, .int .i64 0] 62) = w3 at hd3 hk3 ⊢
  refine (rnew_any w3).mono ?_
  rintro e w4 ⟨rfl, hm4, hk4⟩
  have hst := Going.start hd3 hk3 hm4 hk4
  have HD4 := hide ((HD2.out.keep hk3 (apart_nil _)).keep hk4 (apart_nil _))
  have HST := hide hst
  clear hd3 hk3 hm4 hk4 hst
  go_wp2_with fail
  generalize w4.alloc (.cells #[.pointer (some ⟨w2.heap.size, 0, none⟩), .pointer (some ⟨w3.heap.size, 0, none⟩)] 30) = w5 at HST ⊢
  generalize w4.heap.size = gx at HST ⊢
  clear HD4
  have hact := HST.out.act (Keeps.refl [] w5) ⟨0, off, 0, s⟩ ⟨by simp only; omega, by simp only; omega, ho1, ho2, by simp only; omega, by simp only; omega, hs⟩ (by omega)
  have HA := hide hact
  clear hact
  unfold ActD.val at HA
  refine HA.out.mono ?_
  rintro e w6 ⟨rfl, hG6⟩
  have hact := hG6.act (Keeps.refl [] w6) ⟨7, 0, off, ByteArray.empty⟩ ⟨by simp only; omega, by simp only; omega, by simp only; omega, by simp only; omega, ho1, ho2, by simp⟩ (by omega)
  have HA := hide hact
  clear hact hG6
  unfold ActD.val at HA
  go_wp2_with fail
  refine HA.out.mono ?_
  rintro e w7 ⟨rfl, hG7⟩
  obtain ⟨gd, gm, Fd, Fm, S, M, hx, hsim, hc, hp, hA, hK⟩ := hG7
  have hsame := same_any gx gd gm Fd Fm S M w7 hx hsim
  have HS := hide hsame
  have HK7 := hide (HK2.out.trans' hK)
  have HD7 := hide (HD2.out.keep hK (apart_nil _))
  clear hsame hx hsim hc hp hA hK HA HST
  go_wp2_with fail
  refine HS.out.mono ?_
  rintro e w8 ⟨rfl, hk8⟩
  have HK8 := hide (HK7.out.trans' hk8)
  have HD8 := hide (HD7.out.keep hk8 (apart_nil _))
  clear hk8 HS
  go_wp2_with fail
  refine (nil_size w8).mono ?_
  rintro e w9 ⟨rfl, rfl⟩
  go_wp2_with fail
  refine (nil_calls w8).mono ?_
  rintro e w9 ⟨rfl, rfl⟩
  go_wp2_with fail
  refine (nil_read off 5 w8).mono ?_
  rintro e w9 ⟨rfl, rfl⟩
  go_wp2_with fail
  refine (nil_write off s w8).mono ?_
  rintro e w9 ⟨rfl, rfl⟩
  go_wp2_with fail
  refine (nil_sync w8).mono ?_
  rintro e w9 ⟨rfl, rfl⟩
  go_wp2_with fail
  refine (size_at gc [gc] DS.new 0 w8 HD8.out rfl).mono ?_
  rintro e w9 ⟨rfl, rfl⟩
  go_wp2_with fail
  refine (write_at gc [gc] DS.new 0 [97] 0 w8 HD8.out (by omega) (by omega) (by simp) (by decide) (by decide) n_e1).mono ?_
  rintro e w9 ⟨rfl, F9, hd9, had9, hk9⟩
  have HK9 : Hid (Keeps [] w w9) := hide (HK8.out.trans hk9 (fun i hi => .inr (by
    rw [List.mem_singleton] at hi
    subst hi
    exact hgc)))
  clear hd9 had9 hk9
  go_wp2_with fail
  go_ret
  exact ⟨rfl, HK9.out⟩
end Go.Proofs.Ytppgddigcoojiaa

/- The law's 'sanity' returns true. -/
import Derived.Test.YtppgddigcoojiaaSame
namespace Go.Proofs.Ytppgddigcoojiaa
open Go.RowKit

def sd1 : DS := writeD DS.new 2 [97, 98]
def sd2 : DS := syncD sd1
def sd3 : DS := writeD sd2 3 [120, 121, 122]
def sx : List UInt8 := List.replicate 70 120
def se1 : DS := writeD DS.new 60 sx
def sg1 : DS := failS DS.new 1
def sg2 : DS := syncD sg1
theorem s_e1 : writeE DS.new 2 [97, 98] = 0 := by decide +kernel
theorem s_l1 : sd1.now.length = 4 := by decide +kernel
theorem s_r1 : readL sd1.now 0 9 = [0, 0, 97, 98] := by decide +kernel
theorem s_e2 : syncE sd1 = 0 := by decide +kernel
theorem s_e3 : writeE sd2 3 [120, 121, 122] = 0 := by decide +kernel
theorem s_r2 : readL (crashS sd3 []).now 0 9 = [0, 0, 97, 98] := by decide +kernel
theorem s_e4 : writeE DS.new 60 sx = 0 := by decide +kernel
theorem s_l2 : (crashS se1 [0, 1]).now.length = 128 := by decide +kernel
theorem s_r3 : readL (crashS se1 [0, 1]).now 60 9 = [0, 0, 0, 0, 120, 120, 120, 120, 120] := by decide +kernel
theorem s_e5 : syncE sg1 = 0 := by decide +kernel
theorem s_e6 : writeE sg2 0 [97] = 70 := by decide +kernel
theorem s_e7 : writeE (writeD sg2 0 [97]) (-1) [97] = 1 := by decide +kernel
theorem s_c7 : (writeD (writeD sg2 0 [97]) (-1) [97]).calls = 1 := by decide +kernel

/-- A Write of a constant text, its number known. -/
theorem write_at (g : Nat) (F : List Nat) (S : DS) (off : Int) (l : List UInt8) (r : Int) (w : World) (hd : IsDisk w g F S) (h1 : -9223372036854775808 ≤ off) (h2 : off ≤ 9223372036854775807) (hs : l.length ≤ 140737488355328)
    (hc : S.calls < 1099511627776) (hp : S.pieces.length + 16777216 ≤ 1099511627776) (hr : writeE S off l = r) :
    Calls Try.prog 27 #[.pointer (some ⟨g, 0, none⟩), .int .i64 off, .string ⟨l.toArray⟩] w fun e w' => e = .returned (.int .i64 r) ∧ ∃ F', IsDisk w' g F' (writeD S off l) ∧ Adds w F F' ∧ Keeps F w w' := by
  subst hr
  exact (write_any g F S off ⟨l.toArray⟩ w hd h1 h2 (by simpa [ByteArray.size] using hs) hc hp).mono fun e w' h => h
theorem read_at (g : Nat) (F : List Nat) (S : DS) (off n : Int) (l : List UInt8) (w : World) (hd : IsDisk w g F S) (h1 : -9223372036854775808 ≤ off) (h2 : off ≤ 9223372036854775807) (h3 : n ≤ 9223372036854775807) (hr : readL S.now off n = l) :
    Calls Try.prog 29 #[.pointer (some ⟨g, 0, none⟩), .int .i64 off, .int .i64 n] w fun e w' => e = .returned (.string ⟨l.toArray⟩) ∧ Keeps [] w w' := by
  subst hr
  exact read_any g F S off n w hd h1 h2 h3
theorem sync_at (g : Nat) (F : List Nat) (S : DS) (r : Int) (w : World) (hd : IsDisk w g F S) (hc : S.calls < 1099511627776) (hr : syncE S = r) :
    Calls Try.prog 28 #[.pointer (some ⟨g, 0, none⟩)] w fun e w' => e = .returned (.int .i64 r) ∧ ∃ F', IsDisk w' g F' (syncD S) ∧ Adds w F F' ∧ Keeps F w w' := by
  subst hr
  exact sync_any g F S w hd hc
theorem size_at (g : Nat) (F : List Nat) (S : DS) (n : Nat) (w : World) (hd : IsDisk w g F S) (hr : S.now.length = n) :
    Calls Try.prog 17 #[.pointer (some ⟨g, 0, none⟩)] w fun e w' => e = .returned (.int .i64 n) ∧ w = w' := by
  subst hr
  exact size_any g F S w hd
theorem calls_at (g : Nat) (F : List Nat) (S : DS) (n : Nat) (w : World) (hd : IsDisk w g F S) (hr : S.calls = n) :
    Calls Try.prog 19 #[.pointer (some ⟨g, 0, none⟩)] w fun e w' => e = .returned (.int .i64 n) ∧ w = w' := by
  subst hr
  exact calls_any g F S w hd

/-- What a call made is all that it turns. -/
theorem own_step {w a b : World} {F F' : List Nat} (hK : Keeps [] w a) (hF : Adds w [] F) (hadd : Adds a F F') (hk : Keeps F a b) : Keeps [] w b ∧ Adds w [] F' :=
  ⟨hK.trans hk hF, hF.trans hadd hK.size⟩
theorem adds_one (w : World) : Adds w [] [w.heap.size] := fun i hi => .inr (by simp at hi; omega)
theorem src_nil (w : World) (sz : Nat) (c : Nat) : Src w sz (.slice none 0 c) 0 [] := ⟨by simp, _, _, rfl, fun _ => rfl, fun _ h => by cases h⟩

set_option maxRecDepth 100000 in
set_option maxHeartbeats 1600000 in
theorem sanity_any (w : World) : Calls Try.prog 13 #[] w fun e w' => e = .returned (.bool true) ∧ Keeps [] w w' := by
  go_enter Try.func13, Try.ntmps13
  go_wp2_with fail
  refine (new_any w).mono ?_
  rintro e w1 ⟨rfl, hd1, hk1⟩
  go_wp2_with fail
  refine (write_at _ _ _ 2 [97, 98] 0 _ hd1 (by omega) (by omega) (by simp) (by decide) (by decide) s_e1).mono ?_
  rintro e w2 ⟨rfl, F2, hd2, ha2, hk2⟩
  obtain ⟨K2, A2⟩ := own_step hk1 (adds_one w) ha2 hk2
  clear hk2 hd1 hk1 ha2
  go_wp2_with fail
  refine (size_at _ _ sd1 4 _ hd2 s_l1).mono ?_
  rintro e w3 ⟨rfl, rfl⟩
  go_wp2_with fail
  refine (read_at _ _ sd1 0 9 _ _ hd2 (by omega) (by omega) (by omega) s_r1).mono ?_
  rintro e w3 ⟨rfl, hk3⟩
  have hd3 := hd2.keep hk3 (apart_nil _)
  have K3 := K2.trans' hk3
  clear hk3 hd2 K2
  go_wp2_with fail
  refine (sync_at _ _ sd1 0 _ hd3 (by decide +kernel) s_e2).mono ?_
  rintro e w4 ⟨rfl, F4, hd4, ha4, hk4⟩
  obtain ⟨K4, A4⟩ := own_step K3 A2 ha4 hk4
  clear hk4 hd3 K3 A2 ha4
  go_wp2_with fail
  refine (write_at _ _ sd2 3 [120, 121, 122] 0 _ hd4 (by omega) (by omega) (by simp) (by decide +kernel) (by decide +kernel) s_e3).mono ?_
  rintro e w5 ⟨rfl, F5, hd5, ha5, hk5⟩
  obtain ⟨K5, A5⟩ := own_step K4 A4 ha5 hk5
  clear hk5 hd4 K4 A4 ha5
  go_wp2_with fail
  refine (crash_any _ _ sd3 none 0 [] _ hd5 (src_nil _ _ _) (by simp) (by simp)).mono ?_
  rintro e w6 ⟨rfl, F6, hd6, ha6, hk6⟩
  have K6 := K5.trans' hk6
  have A6 : Adds w [] F6 := (Adds.refl w []).trans ha6 K5.size
  clear hk6 hd5 A5 ha6 K5
  generalize w5.heap.size = gc at hd6 ⊢
  go_wp2_with fail
  refine (new_any w6).mono ?_
  rintro e w7 ⟨rfl, he7, hk7⟩
  have K7 := K6.trans' hk7
  have A7 : Adds w [] [w6.heap.size] := (Adds.refl w []).trans (adds_one w6) K6.size
  have P7 : Apart F6 [w6.heap.size] := (Apart.new (adds_one w6) hd6.all).symm
  have hd7 := hd6.keep hk7 (apart_nil _)
  clear hk7 hd6 K6
  generalize w6.heap.size = ge at he7 A7 P7 ⊢
  go_wp2_with fail
  refine (repeated_any 120 70 _ (by omega)).mono ?_
  rintro e w8 ⟨rfl, hk8⟩
  have K8 := K7.trans' hk8
  have he8 := he7.keep hk8 (apart_nil _)
  have hd8 := hd7.keep hk8 (apart_nil _)
  clear hk8 hd7 he7 K7
  go_wp2_with fail
  refine (write_at _ _ DS.new 60 sx 0 _ he8 (by omega) (by omega) (by simp [sx]) (by decide) (by decide) s_e4).mono ?_
  rintro e w9 ⟨rfl, F9, he9, ha9, hk9⟩
  have hd9 := hd8.keep hk9 P7
  have P9 : Apart F6 F9 := (P7.symm.adds ha9 hd8.all).symm
  obtain ⟨K9, A9⟩ := own_step K8 A7 ha9 hk9
  clear hk9 hd8 he8 K8 A7 ha9 P7
  go_wp2_with fail
  have kb := (Keeps.refl [] w9).alloc (.cells #[.int .i64 0, .int .i64 1] 3)
  have hsq : Src (w9.alloc (.cells #[.int .i64 0, .int .i64 1] 3)) 1 (.slice (some ⟨w9.heap.size, 0, none⟩) 2 2) 2 (iv [0, 1]) := Src.built w9 3 #[.int .i64 0, .int .i64 1] 1 2 rfl _ rfl
  have hsz9 : w9.heap.size ≤ (w9.alloc (.cells #[.int .i64 0, .int .i64 1] 3)).heap.size := by simp
  have hdb := hd9.keep kb (apart_nil _)
  have heb := he9.keep kb (apart_nil _)
  have Kb := K9.trans' kb
  generalize w9.alloc (.cells #[.int .i64 0, .int .i64 1] 3) = wb at hsq hdb heb Kb ⊢
  clear hd9 he9 K9 kb
  refine (crash_any _ _ se1 _ 2 [0, 1] _ heb hsq (by simp) (by intro x hx; simp at hx; omega)).mono ?_
  rintro e w10 ⟨rfl, F10, hf10, ha10, hk10⟩
  have K10 := Kb.trans' hk10
  have A10 : Adds w [] F10 := (Adds.refl w []).trans ha10 Kb.size
  have hd10 := hdb.keep hk10 (apart_nil _)
  clear hk10 hdb heb Kb hsq ha10 P9 A9
  generalize wb.heap.size = gf at hf10 ⊢
  go_wp2_with fail
  refine (new_any w10).mono ?_
  rintro e w11 ⟨rfl, hg11, hk11⟩
  have K11 := K10.trans' hk11
  have A11 : Adds w [] [w10.heap.size] := (Adds.refl w []).trans (adds_one w10) K10.size
  have P11 : Apart F6 [w10.heap.size] := (Apart.new (adds_one w10) hd10.all).symm
  have Q11 : Apart F10 [w10.heap.size] := (Apart.new (adds_one w10) hf10.all).symm
  have hd11 := hd10.keep hk11 (apart_nil _)
  have hf11 := hf10.keep hk11 (apart_nil _)
  clear hk11 hd10 hf10 K10
  generalize w10.heap.size = gg at hg11 A11 P11 Q11 ⊢
  go_wp2_with fail
  refine (fail_any _ _ DS.new 1 _ hg11 (by omega) (by omega)).mono ?_
  rintro e w12 ⟨rfl, hg12, hk12⟩
  have hd12 := hd11.keep hk12 P11
  have hf12 := hf11.keep hk12 Q11
  obtain ⟨K12, _⟩ := own_step K11 A11 (Adds.refl _ _) hk12
  clear hk12 hd11 hf11 hg11 K11
  go_wp2_with fail
  refine (sync_at _ _ sg1 0 _ hg12 (by decide +kernel) s_e5).mono ?_
  rintro e w13 ⟨rfl, F13, hg13, ha13, hk13⟩
  have hd13 := hd12.keep hk13 P11
  have hf13 := hf12.keep hk13 Q11
  have P13 : Apart F6 F13 := (P11.symm.adds ha13 hd12.all).symm
  have Q13 : Apart F10 F13 := (Q11.symm.adds ha13 hf12.all).symm
  obtain ⟨K13, A13⟩ := own_step K12 A11 ha13 hk13
  clear hk13 hd12 hf12 hg12 K12 ha13 A11 P11 Q11
  go_wp2_with fail
  refine (write_at _ _ sg2 0 [97] 70 _ hg13 (by omega) (by omega) (by simp) (by decide +kernel) (by decide +kernel) s_e6).mono ?_
  rintro e w14 ⟨rfl, F14, hg14, ha14, hk14⟩
  have hd14 := hd13.keep hk14 P13
  have hf14 := hf13.keep hk14 Q13
  have P14 : Apart F6 F14 := (P13.symm.adds ha14 hd13.all).symm
  have Q14 : Apart F10 F14 := (Q13.symm.adds ha14 hf13.all).symm
  obtain ⟨K14, A14⟩ := own_step K13 A13 ha14 hk14
  clear hk14 hd13 hf13 hg13 K13 ha14 A13 P13 Q13
  go_wp2_with fail
  refine (write_at _ _ (writeD sg2 0 [97]) (-1) [97] 1 _ hg14 (by omega) (by omega) (by simp) (by decide +kernel) (by decide +kernel) s_e7).mono ?_
  rintro e w15 ⟨rfl, F15, hg15, ha15, hk15⟩
  have hd15 := hd14.keep hk15 P14
  have hf15 := hf14.keep hk15 Q14
  obtain ⟨K15, A15⟩ := own_step K14 A14 ha15 hk15
  clear hk15 hd14 hf14 hg14 K14 ha15 A14 P14 Q14 A15
  go_wp2_with fail
  refine (calls_at _ _ (writeD (writeD sg2 0 [97]) (-1) [97]) 1 _ hg15 s_c7).mono ?_
  rintro e w16 ⟨rfl, rfl⟩
  go_wp2_with fail
  refine (read_at _ _ (crashS sd3 []) 0 9 _ _ hd15 (by omega) (by omega) (by omega) s_r2).mono ?_
  rintro e w17 ⟨rfl, hk17⟩
  have hf17 := hf15.keep hk17 (apart_nil _)
  have K17 := K15.trans' hk17
  clear hk17 hd15 hg15 K15 hf15
  go_wp2_with fail
  refine (size_at _ _ (crashS se1 [0, 1]) 128 _ hf17 s_l2).mono ?_
  rintro e w18 ⟨rfl, rfl⟩
  go_wp2_with fail
  refine (read_at _ _ (crashS se1 [0, 1]) 60 9 _ _ hf17 (by omega) (by omega) (by omega) s_r3).mono ?_
  rintro e w19 ⟨rfl, hk19⟩
  have HK := hide (K17.trans' hk19)
  clear hk19 hf17 K17
  go_wp2_with fail
  go_ret
  exact ⟨rfl, HK.out⟩
end Go.Proofs.Ytppgddigcoojiaa

/- A net and the reference's beside each other, and the walk of NetPlays. -/
import Derived.Test.YtefjoiinoaofcaaRsendA
import Derived.Test.YtefjoiinoaofcaaRsendB
import Derived.Test.YtefjoiinoaofcaaRnext
import Derived.Test.YtefjoiinoaofcaaOwn
import Derived.Test.YtefjoiinoaofcaaOpen
namespace Go.Proofs.Ytefjoiinoaofcaa
open Go.RowKit

theorem rsend_any (g : Nat) (F : List Nat) (N : NS) (now a b n : Int) (x : ByteArray) (w : World) (h : IsRef w g F N) (hf : N.sent < 100000)
    (hb : N.drops b = false → -1000000000000000000 ≤ now ∧ now ≤ 1000000000000000000 ∧ N.tr.delay ≤ 1000000000000000000) :
    Calls Try.prog 15 #[.pointer (some ⟨g, 0, none⟩), .int .i64 now, msgV a b n x] w fun e w' => e = .returned (.tuple #[]) ∧ ∃ F', IsRef w' g F' (sendS N now a b n x) ∧ Adds w F F' ∧ Keeps F w w' := by
  cases hd : N.drops b with
  | true =>
    refine (rsend_drop g F N now a b n x w h hf hd).mono ?_
    rintro e w' ⟨he, h1, h2⟩
    refine ⟨he, F, ?_, Adds.refl _ _, h2⟩
    unfold sendS
    rw [if_pos hd]
    exact h1
  | false =>
    obtain ⟨b1, b2, b3⟩ := hb hd
    have hk : Calls Try.prog 15 #[.pointer (some ⟨g, 0, none⟩), .int .i64 now, msgV a b n x] w fun e w' => e = .returned (.tuple #[]) ∧ ∃ F', IsRef w' g F' (sentN N a b n x (now + max N.tr.delay 0) (copiesOf N.tr)) ∧ Adds w F F' ∧ Keeps F w w' := by
      by_cases h0 : N.scr.length = 0
      · exact rsend_keepA g F N now a b n x w h hf h0 hd b1 b2 b3
      · exact rsend_keepB g F N now a b n x w h hf h0 hd b1 b2 b3
    refine hk.mono ?_
    rintro e w' ⟨he, F', h1, h2, h3⟩
    refine ⟨he, F', ?_, h2, h3⟩
    unfold sendS
    rw [if_neg (by rw [hd]; simp)]
    exact h1

/-- A net and the reference's, and blocks beside them. -/
def Both (w wr : World) (g : Nat) (N : NS) (h : Nat) (M : NS) (T : List (Nat × TypeId × Array Value)) : Prop :=
  ∃ F G, IsNet wr g F N ∧ IsRef wr h G M ∧ Apart F G ∧ Adds w [] F ∧ Adds w [] G ∧ Keeps [] w wr ∧ ∀ t ∈ T, Bk wr t.1 t.2.1 t.2.2 ∧ t.1 ∉ F ∧ t.1 ∉ G
section
variable {w wr w' : World} {g h : Nat} {N M : NS} {T : List (Nat × TypeId × Array Value)}
theorem Both.keep (t : Both w wr g N h M T) (k : Keeps [] wr w') : Both w w' g N h M T := by
  obtain ⟨F, G, h1, h2, h3, h4, h5, h6, h7⟩ := t
  exact ⟨F, G, h1.keep0 k, h2.keep0 k, h3, h4, h5, h6.trans' k, fun x hx => ⟨(h7 x hx).1.keep k (by simp), (h7 x hx).2⟩⟩
theorem Both.keeps (t : Both w wr g N h M T) : Keeps [] w wr := by
  obtain ⟨F, G, h1, h2, h3, h4, h5, h6, h7⟩ := t
  exact h6
theorem Both.bare (t : Both w wr g N h M T) : Both w wr g N h M [] := by
  obtain ⟨F, G, h1, h2, h3, h4, h5, h6, h7⟩ := t
  exact ⟨F, G, h1, h2, h3, h4, h5, h6, by simp⟩
theorem Both.blk (t : Both w wr g N h M T) {x : Nat × TypeId × Array Value} (hx : x ∈ T) : Bk wr x.1 x.2.1 x.2.2 := by
  obtain ⟨F, G, h1, h2, h3, h4, h5, h6, h7⟩ := t
  exact (h7 x hx).1
theorem Both.box (t : Both w wr g N h M T) (ty : TypeId) (cs : Array Value) : Both w (wr.alloc (.cells cs ty)) g N h M ((wr.heap.size, ty, cs) :: T) := by
  obtain ⟨F, G, h1, h2, h3, h4, h5, h6, h7⟩ := t
  refine ⟨F, G, h1.keep0 ((Keeps.refl [] wr).alloc _), h2.keep0 ((Keeps.refl [] wr).alloc _), h3, h4, h5, h6.alloc _, fun x hx => ?_⟩
  rw [List.mem_cons] at hx
  rcases hx with rfl | hx
  · exact ⟨Bk.new _ _ _, fun hm => Nat.lt_irrefl _ (h1.all _ hm), fun hm => Nat.lt_irrefl _ (h2.all _ hm)⟩
  · exact ⟨(h7 x hx).1.alloc _, (h7 x hx).2⟩
theorem Both.stepN {N' : NS} {F G F' : List Nat} (h2 : IsRef wr h G M) (h3 : Apart F G) (h4 : Adds w [] F) (h5 : Adds w [] G) (h6 : Keeps [] w wr) (h7 : ∀ t ∈ T, Bk wr t.1 t.2.1 t.2.2 ∧ t.1 ∉ F ∧ t.1 ∉ G)
    (hn : IsNet w' g F' N') (ha : Adds wr F F') (hk : Keeps F wr w') : Both w w' g N' h M T := by
  obtain ⟨hK, hA⟩ := own_step h6 h4 ha hk
  refine ⟨F', G, hn, h2.keep hk h3.symm, h3.adds ha h2.all, hA, h5, hK, fun x hx => ?_⟩
  obtain ⟨k1, k2⟩ := (h7 x hx).1.beside (h7 x hx).2.1 ha hk
  exact ⟨k1, k2, (h7 x hx).2.2⟩
theorem Both.stepM {M' : NS} {F G G' : List Nat} (h1 : IsNet wr g F N) (h3 : Apart F G) (h4 : Adds w [] F) (h5 : Adds w [] G) (h6 : Keeps [] w wr) (h7 : ∀ t ∈ T, Bk wr t.1 t.2.1 t.2.2 ∧ t.1 ∉ F ∧ t.1 ∉ G)
    (hn : IsRef w' h G' M') (ha : Adds wr G G') (hk : Keeps G wr w') : Both w w' g N h M' T := by
  obtain ⟨hK, hA⟩ := own_step h6 h5 ha hk
  refine ⟨F, G', h1.keep hk h3, hn, (h3.symm.adds ha h1.all).symm, h4, hA, hK, fun x hx => ?_⟩
  obtain ⟨k1, k2⟩ := (h7 x hx).1.beside (h7 x hx).2.2 ha hk
  exact ⟨k1, (h7 x hx).2.1, k2⟩
theorem Both.send (t : Both w wr g N h M T) (now a b n : Int) (x : ByteArray) (hf : N.sent < 100000)
    (hb : N.drops b = false → -1000000000000000000 ≤ now ∧ now ≤ 1000000000000000000 ∧ N.tr.delay ≤ 1000000000000000000) :
    Calls Try.prog 14 #[.pointer (some ⟨g, 0, none⟩), .int .i64 now, msgV a b n x] wr fun e w' => e = .returned (.tuple #[]) ∧ Both w w' g (sendS N now a b n x) h M T := by
  obtain ⟨F, G, h1, h2, h3, h4, h5, h6, h7⟩ := t
  refine (send_any g F N now a b n x wr h1 hf hb).mono ?_
  rintro e w' ⟨he, F', hn, ha, hk⟩
  exact ⟨he, Both.stepN h2 h3 h4 h5 h6 h7 hn ha hk⟩
theorem Both.rsend (t : Both w wr g N h M T) (now a b n : Int) (x : ByteArray) (hf : M.sent < 100000)
    (hb : M.drops b = false → -1000000000000000000 ≤ now ∧ now ≤ 1000000000000000000 ∧ M.tr.delay ≤ 1000000000000000000) :
    Calls Try.prog 15 #[.pointer (some ⟨h, 0, none⟩), .int .i64 now, msgV a b n x] wr fun e w' => e = .returned (.tuple #[]) ∧ Both w w' g N h (sendS M now a b n x) T := by
  obtain ⟨F, G, h1, h2, h3, h4, h5, h6, h7⟩ := t
  refine (rsend_any h G M now a b n x wr h2 hf hb).mono ?_
  rintro e w' ⟨he, F', hn, ha, hk⟩
  exact ⟨he, Both.stepM h1 h3 h4 h5 h6 h7 hn ha hk⟩
theorem Both.next (t : Both w wr g N h M T) (q : Par) (S : List Par) (hS : N.S = q :: S) :
    Calls Try.prog 16 #[.pointer (some ⟨g, 0, none⟩)] wr fun e w' => e = .returned (.tuple #[msgV q.fr q.to q.num q.tx, .int .i64 q.time, .bool true]) ∧ Both w w' g { N with S := S } h M T := by
  obtain ⟨F, G, h1, h2, h3, h4, h5, h6, h7⟩ := t
  refine (next_some g F N q S wr h1 hS).mono ?_
  rintro e w' ⟨he, F', hn, ha, hk⟩
  exact ⟨he, Both.stepN h2 h3 h4 h5 h6 h7 hn ha hk⟩
theorem Both.rnext (t : Both w wr g N h M T) (q : Par) (S : List Par) (hS : M.S = q :: S) :
    Calls Try.prog 17 #[.pointer (some ⟨h, 0, none⟩)] wr fun e w' => e = .returned (.tuple #[msgV q.fr q.to q.num q.tx, .int .i64 q.time, .bool true]) ∧ Both w w' g N h { M with S := S } T := by
  obtain ⟨F, G, h1, h2, h3, h4, h5, h6, h7⟩ := t
  refine (rnext_some h G M q S wr h2 hS).mono ?_
  rintro e w' ⟨he, F', hn, ha, hk⟩
  exact ⟨he, Both.stepM h1 h3 h4 h5 h6 h7 hn ha hk⟩
theorem Both.empty (t : Both w wr g N h M T) (hS : N.S = []) :
    Calls Try.prog 16 #[.pointer (some ⟨g, 0, none⟩)] wr fun e w' => e = .returned (.tuple #[msgV 0 0 0 ⟨#[]⟩, .int .i64 0, .bool false]) ∧ Both w w' g N h M T := by
  have t' := t
  obtain ⟨F, G, h1, h2, h3, h4, h5, h6, h7⟩ := t
  refine (next_none g F N wr h1 hS).mono ?_
  rintro e w' ⟨he, _, hk⟩
  exact ⟨he, t'.keep hk⟩
theorem Both.rempty (t : Both w wr g N h M T) (hS : M.S = []) :
    Calls Try.prog 17 #[.pointer (some ⟨h, 0, none⟩)] wr fun e w' => e = .returned (.tuple #[msgV 0 0 0 ⟨#[]⟩, .int .i64 0, .bool false]) ∧ Both w w' g N h M T := by
  have t' := t
  obtain ⟨F, G, h1, h2, h3, h4, h5, h6, h7⟩ := t
  refine (rnext_none h G M wr h2 hS).mono ?_
  rintro e w' ⟨he, hk⟩
  exact ⟨he, t'.keep hk⟩
theorem Both.waiting (t : Both w wr g N h M T) (n : Nat) (hn : N.S.length = n) : Calls Try.prog 18 #[.pointer (some ⟨g, 0, none⟩)] wr fun e w' => e = .returned (.int .i64 n) ∧ wr = w' := by
  subst hn
  obtain ⟨F, G, h1, _⟩ := t
  exact waiting_any g F N wr h1
theorem Both.rwaiting (t : Both w wr g N h M T) (n : Nat) (hn : M.S.length = n) : Calls Try.prog 19 #[.pointer (some ⟨h, 0, none⟩)] wr fun e w' => e = .returned (.int .i64 n) ∧ wr = w' := by
  subst hn
  obtain ⟨F, G, _, h1, _⟩ := t
  exact rwaiting_any h G M wr h1
end
theorem both_new {w w1 w2 : World} {g h : Nat} {N M : NS} (a : MadeNet w N g w1) (b : MadeRef w1 M h w2) : Both w w2 g N h M [] := by
  obtain ⟨F, h1, h2, h3⟩ := a
  obtain ⟨G, k1, k2, k3⟩ := b
  exact ⟨F, G, h1.keep0 k3, k1, apart_new h1.all k2, h2, (Adds.refl w []).trans k2 h3.size, h3.trans' k3, by simp⟩
theorem acts_at : ∀ (l : List ActD) (k : Nat) (a : ActD), l[k]? = some a → (l.flatMap ActD.cells)[k * 6]? = some (.int .i64 a.kind) ∧ (l.flatMap ActD.cells)[k * 6 + 1]? = some (.int .i64 a.now) ∧ (l.flatMap ActD.cells)[k * 6 + 2]? = some (.int .i64 a.m.fr) ∧
    (l.flatMap ActD.cells)[k * 6 + 3]? = some (.int .i64 a.m.to) ∧ (l.flatMap ActD.cells)[k * 6 + 4]? = some (.int .i64 a.m.num) ∧ (l.flatMap ActD.cells)[k * 6 + 5]? = some (.string a.m.tx)
  | [], k, m, h => by simp at h
  | q :: l, 0, m, h => by
    simp at h; subst h
    exact ⟨rfl, rfl, rfl, rfl, rfl, rfl⟩
  | q :: l, k + 1, m, h => by
    have ih := acts_at l k m (by simpa using h)
    have e : (q :: l).flatMap ActD.cells = .int .i64 q.kind :: .int .i64 q.now :: .int .i64 q.m.fr :: .int .i64 q.m.to :: .int .i64 q.m.num :: .string q.m.tx :: l.flatMap ActD.cells := rfl
    rw [e, show (k + 1) * 6 = k * 6 + 6 by omega]
    exact ⟨by simpa using ih.1, by simpa using ih.2.1, by simpa using ih.2.2.1, by simpa using ih.2.2.2.1, by simpa using ih.2.2.2.2.1, by simpa using ih.2.2.2.2.2⟩
theorem tmod_bd (x : Int) : -1000000 < x.tmod 1000000 ∧ x.tmod 1000000 < 1000000 := by
  have h1 := Int.natAbs_tmod x 1000000
  have h2 : x.natAbs % 1000000 < 1000000 := Nat.mod_lt _ (by omega)
  have e : (1000000 : Int).natAbs = 1000000 := rfl
  rw [e] at h1
  omega

set_option maxRecDepth 100000 in
set_option maxHeartbeats 3200000 in
theorem plays_walk (nodes : Int) (A : Option Addr) (c : Nat) (l : List Tr) (A1 : Option Addr) (c1 : Nat) (ac : List ActD) (w : World) (hn0 : 0 ≤ nodes) (hn1 : nodes ≤ 255) (hl : Src w 3 (.slice A l.length c) l.length (trs l)) (hlen : l.length ≤ 9223372036854775807)
    (ha : Src w 6 (.slice A1 ac.length c1) ac.length (ac.flatMap ActD.cells)) (hok : ∀ a ∈ ac, a.ok) (hal : ac.length ≤ 9223372036854775807) :
    Calls Try.prog 3 #[.int .u8 nodes, .slice A l.length c, .slice A1 ac.length c1] w fun e w' => e = .returned (.bool true) ∧ Keeps [] w w' := by
  have HL := hide hl
  have HA := hide ha
  have HOK := hide hok
  clear hl ha hok
  have nb0 : 0 ≤ nodes % 7 := by omega
  have nb1 : nodes % 7 ≤ 6 := by omega
  go_enter Try.func3, Try.ntmps3
  go_wp2_with fail
  refine (sanity_any _).mono ?_
  rintro e w1 ⟨rfl, hk1⟩
  have HK1 := hide hk1
  clear hk1
  go_wp2_with fail
  refine (script_any A c l w1 (HL.out.keep HK1.out (by simp)) hlen).mono ?_
  rintro e w2 ⟨v, rfl, hv, hk2, hnew⟩
  obtain ⟨m, hm⟩ : ∃ m, (scrL l).length = m := ⟨_, rfl⟩
  have hm12 : m ≤ 12 := by rw [← hm]; exact scrL_length l
  obtain ⟨A2, c2, hvs⟩ := hv.slice
  rw [hm] at hvs
  subst hvs
  have HV := hide hv.src
  have HN := hide hm
  have HK2 := hide (HK1.out.trans' hk2)
  clear hv hnew hk2 hm
  go_wp2_with fail
  have hnn := new_any (nodes % 7 - 1) A2 c2 (scrL l) w2 (by rw [HN.out]; have := HV.out; rw [HN.out] at this; exact this) (by rw [HN.out]; omega)
  rw [HN.out] at hnn
  refine hnn.mono ?_
  rintro e w3 ⟨g, rfl, hm3⟩
  have HM3 := hide hm3
  clear hm3 hnn HL
  go_wp2_with fail
  have hnn := rnew_any (nodes % 7 - 1) A2 c2 (scrL l) w3 (by rw [HN.out]; have := HV.out.keep HM3.out.keeps (by simp); rw [HN.out] at this; exact this) (by rw [HN.out]; omega)
  rw [HN.out] at hnn
  refine hnn.mono ?_
  rintro e w4 ⟨h, rfl, hm4⟩
  have HB := hide (both_new HM3.out hm4)
  clear hm4 hnn HV HN HM3
  go_wp2_with fail
  go_loopw [11] (fun kv wr => ∃ (k : Nat) (N : NS), kv = .int .i64 k ∧ k ≤ ac.length ∧ k ≤ 60 ∧ Hid (Both w2 wr g N h N [] ∧ N.scr = scrL l ∧ N.sent ≤ k)) (fun kv _ => 60 - (intOf kv).toNat)
  case atStart => exact ⟨0, _, rfl, Nat.zero_le _, by omega, hide ⟨HB.out, rfl, Nat.le_refl _⟩⟩
  case round =>
    obtain ⟨k, N, rfl, hk, hk60, HR⟩ := hrel
    by_cases hlt : k < ac.length ∧ k < 60
    · obtain ⟨hlt1, hlt2⟩ := hlt
      have d60 : decide ((k : Int) < 60) = true := by simp; omega
      have kw := HK2.out.trans' HR.out.1.keeps
      obtain ⟨b, o, hA, hcells⟩ := (HA.out.keep kw (by simp)).headN (by omega) (by omega)
      subst hA
      obtain ⟨x0, x1, x2, x3, x4, x5⟩ := acts_at ac k ac[k] (List.getElem?_eq_getElem hlt1)
      have q0 := hcells _ _ x0
      have q1 := hcells _ _ x1
      have q2 := hcells _ _ x2
      have q3 := hcells _ _ x3
      have q4 := hcells _ _ x4
      have q5 := hcells _ _ x5
      rw [← Nat.add_assoc] at q1 q2 q3 q4 q5
      have hbl := World.block_lt_of_cell? wr _ q0
      have haok := HOK.out ac[k] (List.getElem_mem hlt1)
      have HAO := hide haok
      have b1 : (0 : Int) ≤ (k : Int) := by omega
      have b2 : (k : Int) < (ac.length : Int) := by omega
      clear hcells x0 x1 x2 x3 x4 x5 kw haok
      generalize ac[k] = a at *
      go_wp2_with fail
      · have hbx := HR.out.1.box 33 #[.int .i64 a.kind, .int .i64 a.now, .int .i64 a.m.fr, .int .i64 a.m.to, .int .i64 a.m.num, .string a.m.tx]
        have htm := tmod_bd a.now
        have hs := hbx.send (a.now.tmod 1000000) a.m.fr a.m.to a.m.num a.m.tx (by have := HR.out.2.2; omega) (fun _ => ⟨by omega, by omega, scr_delay _ l HR.out.2.1⟩)
        unfold msgV at hs
        refine hs.mono ?_
        rintro e w5 ⟨rfl, h5⟩
        have hb5 := h5.blk (x := (wr.heap.size, 33, #[.int .i64 a.kind, .int .i64 a.now, .int .i64 a.m.fr, .int .i64 a.m.to, .int .i64 a.m.num, .string a.m.tx])) (by simp)
        have r1 := hb5.cell 1
        have r2 := hb5.cell 2
        have r3 := hb5.cell 3
        have r4 := hb5.cell 4
        have r5 := hb5.cell 5
        simp at r1 r2 r3 r4 r5
        have hs2 := h5.rsend (a.now.tmod 1000000) a.m.fr a.m.to a.m.num a.m.tx (by have := HR.out.2.2; omega) (fun _ => ⟨by omega, by omega, scr_delay _ l HR.out.2.1⟩)
        unfold msgV at hs2
        have HS2 := hide hs2
        clear hs hs2 hbx h5 hb5 htm
        go_wp2_with fail
        refine HS2.out.mono ?_
        rintro e w6 ⟨rfl, h6⟩
        have HW1 := hide (h6.waiting _ rfl)
        have HW2 := hide (h6.rwaiting _ rfl)
        have H6 : Hid (Both w2 w6 g (sendS N (a.now.tmod 1000000) a.m.fr a.m.to a.m.num a.m.tx) h (sendS N (a.now.tmod 1000000) a.m.fr a.m.to a.m.num a.m.tx) [] ∧ (sendS N (a.now.tmod 1000000) a.m.fr a.m.to a.m.num a.m.tx).scr = scrL l ∧ (sendS N (a.now.tmod 1000000) a.m.fr a.m.to a.m.num a.m.tx).sent ≤ k + 1) :=
          hide ⟨h6.bare, by rw [sendS_scr]; exact HR.out.2.1, by rw [sendS_sent]; have := HR.out.2.2; omega⟩
        clear h6 HS2
        go_wp2_with fail
        refine HW1.out.mono ?_
        rintro e w8 ⟨rfl, rfl⟩
        go_wp2_with fail
        refine HW2.out.mono ?_
        rintro e w8 ⟨rfl, rfl⟩
        go_wp2_with fail
        go_roundw
        case rel => exact ⟨k + 1, _, by go_num, by omega, by omega, H6⟩
        case measure => simp [intOf]; omega
      · cases hS : N.S with
        | nil =>
          have HSS := hide hS
          clear hS
          have hs := (HR.out.1.box 33 #[.int .i64 a.kind, .int .i64 a.now, .int .i64 a.m.fr, .int .i64 a.m.to, .int .i64 a.m.num, .string a.m.tx]).empty HSS.out
          unfold msgV at hs
          have HS := hide hs
          clear hs
          refine HS.out.mono ?_
          rintro e w6 ⟨rfl, h6⟩
          have hs2 := (h6.box 31 #[.int .i64 0, .int .i64 0, .int .i64 0, .string ⟨#[]⟩]).rempty HSS.out
          unfold msgV at hs2
          have HS2 := hide hs2
          clear hs2 h6 HS
          go_wp2_with fail
          refine HS2.out.mono ?_
          rintro e w7 ⟨rfl, h7⟩
          have hb7 := h7.blk (x := (w6.heap.size, 31, #[.int .i64 0, .int .i64 0, .int .i64 0, .string ⟨#[]⟩])) (by simp)
          have r0 := hb7.cell 0
          have r1 := hb7.cell 1
          have r2 := hb7.cell 2
          have r3 := hb7.cell 3
          have hl7 := hb7.lt
          simp at r0 r1 r2 r3
          have h7' := h7.keep ((Keeps.refl [] _).alloc (.cells #[.int .i64 0, .int .i64 0, .int .i64 0, .string ⟨#[]⟩] 31))
          have HW1 := hide (h7'.waiting _ rfl)
          have HW2 := hide (h7'.rwaiting _ rfl)
          have H7 : Hid (Both w2 (w7.alloc (.cells #[.int .i64 0, .int .i64 0, .int .i64 0, .string ⟨#[]⟩] 31)) g N h N [] ∧ (N : NS).scr = scrL l ∧ (N : NS).sent ≤ k + 1) := hide ⟨h7'.bare, HR.out.2.1, Nat.le_succ_of_le HR.out.2.2⟩
          clear h7 h7' hb7 HS2
          go_wp2_with fail
          refine HW1.out.mono ?_
          rintro e w8 ⟨rfl, rfl⟩
          go_wp2_with fail
          refine HW2.out.mono ?_
          rintro e w8 ⟨rfl, rfl⟩
          go_wp2_with fail
          go_roundw
          case rel => exact ⟨k + 1, _, by go_num, by omega, by omega, H7⟩
          case measure => simp [intOf]; omega
        | cons q S =>
          have HSS := hide hS
          clear hS
          have hs := (HR.out.1.box 33 #[.int .i64 a.kind, .int .i64 a.now, .int .i64 a.m.fr, .int .i64 a.m.to, .int .i64 a.m.num, .string a.m.tx]).next q S HSS.out
          unfold msgV at hs
          have HS := hide hs
          clear hs
          refine HS.out.mono ?_
          rintro e w6 ⟨rfl, h6⟩
          have hs2 := (h6.box 31 #[.int .i64 q.fr, .int .i64 q.to, .int .i64 q.num, .string q.tx]).rnext q S HSS.out
          unfold msgV at hs2
          have HS2 := hide hs2
          clear hs2 h6 HS
          go_wp2_with fail
          refine HS2.out.mono ?_
          rintro e w7 ⟨rfl, h7⟩
          have hb7 := h7.blk (x := (w6.heap.size, 31, #[.int .i64 q.fr, .int .i64 q.to, .int .i64 q.num, .string q.tx])) (by simp)
          have r0 := hb7.cell 0
          have r1 := hb7.cell 1
          have r2 := hb7.cell 2
          have r3 := hb7.cell 3
          have hl7 := hb7.lt
          simp at r0 r1 r2 r3
          have h7' := h7.keep ((Keeps.refl [] _).alloc (.cells #[.int .i64 q.fr, .int .i64 q.to, .int .i64 q.num, .string q.tx] 31))
          have HW1 := hide (h7'.waiting _ rfl)
          have HW2 := hide (h7'.rwaiting _ rfl)
          have H7 : Hid (Both w2 (w7.alloc (.cells #[.int .i64 q.fr, .int .i64 q.to, .int .i64 q.num, .string q.tx] 31)) g { N with S := S } h { N with S := S } [] ∧ ({ N with S := S } : NS).scr = scrL l ∧ ({ N with S := S } : NS).sent ≤ k + 1) := hide ⟨h7'.bare, HR.out.2.1, Nat.le_succ_of_le HR.out.2.2⟩
          clear h7 h7' hb7 HS2
          go_wp2_with fail
          refine HW1.out.mono ?_
          rintro e w8 ⟨rfl, rfl⟩
          go_wp2_with fail
          refine HW2.out.mono ?_
          rintro e w8 ⟨rfl, rfl⟩
          go_wp2_with fail
          go_roundw
          case rel => exact ⟨k + 1, _, by go_num, by omega, by omega, H7⟩
          case measure => simp [intOf]; omega
    · by_cases hlt1 : k < ac.length
      · have d60 : decide ((k : Int) < 60) = false := by simp; omega
        go_wp2_with fail
        go_ret
        exact ⟨rfl, HK2.out.trans' HR.out.1.keeps⟩
      · go_wp2_with fail
        go_ret
        exact ⟨rfl, HK2.out.trans' HR.out.1.keeps⟩
end Go.Proofs.Ytefjoiinoaofcaa

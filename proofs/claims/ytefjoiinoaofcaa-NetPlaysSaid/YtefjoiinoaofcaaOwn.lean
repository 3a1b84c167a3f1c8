/- The walk of NetOwn. -/
import Derived.Test.YtefjoiinoaofcaaTwo
import Derived.Laws.StructEq
namespace Go.Proofs.Ytefjoiinoaofcaa
open Go.RowKit

/-- Three cells stored over place i. -/
def set3 (l : List Value) (o : Nat) (t : Tr) : List Value := ((l.set o (.bool t.lost)).set (o + 1) (.int .i64 t.copies)).set (o + 2) (.int .i64 t.delay)
theorem set3_trs : ∀ (L : List Tr) (i : Nat) (p : Tr), i < L.length → set3 (trs L) (i * 3) p = trs (L.set i p)
  | [], i, p, h => by simp at h
  | q :: L, 0, p, _ => by rw [trs_cons]; simp [set3, trs_cons]
  | q :: L, i + 1, p, h => by
    have ih := set3_trs L i p (by simpa using h)
    rw [List.set_cons_succ, trs_cons, trs_cons, ← ih, show (i + 1) * 3 = i * 3 + 3 by omega]
    simp [set3]
theorem set3_take (l : List Value) (o m : Nat) (p : Tr) : (set3 l o p).take m = set3 (l.take m) o p := by
  simp [set3, List.take_set]
def putT (w : World) (g o : Nat) (t : Tr) : World := ((w.setCell ⟨g, o, none⟩ (.bool t.lost)).setCell ⟨g, o + 1, none⟩ (.int .i64 t.copies)).setCell ⟨g, o + 2, none⟩ (.int .i64 t.delay)
theorem putT_own {w : World} {g c : Nat} {L : List Tr} {i : Nat} {cur : Array Value} (t : Tr) (hi : i < L.length) (hc : L.length ≤ c) (hm : c ≤ 9223372036854775807) (hb : Bk w g 42 cur) (hs : cur.size = c * 3) (ht : cur.toList.take (L.length * 3) = trs L) :
    Own (putT w g (i * 3) t) 42 3 (.slice (some ⟨g, 0, none⟩) L.length c) L.length (trs (L.set i t)) := by
  have h2 := ((hb.set (i * 3) (.bool t.lost)).set (i * 3 + 1) (.int .i64 t.copies)).set (i * 3 + 2) (.int .i64 t.delay)
  refine own_of h2 (by rw [trs_length]; simp) hc (le_maxLen hm) (by simp [hs]) ?_
  have e : (((cur.setIfInBounds (i * 3) (.bool t.lost)).setIfInBounds (i * 3 + 1) (.int .i64 t.copies)).setIfInBounds (i * 3 + 2) (.int .i64 t.delay)).toList = set3 cur.toList (i * 3) t := by simp [set3]
  rw [e, set3_take, ht, set3_trs L i t hi]
theorem putT_keeps {w : World} {g o : Nat} (t : Tr) : Keeps [g] w (putT w g o t) :=
  (((Keeps.refl _ _).setCell (.inl (List.mem_singleton_self g)) _).setCell (.inl (List.mem_singleton_self g)) _).setCell (.inl (List.mem_singleton_self g)) _

def stO (s : List Tr) : Nat → NS
  | 0 => NS.new 1 s
  | k + 1 => sendS (stO s k) k 0 0 k ⟨#[]⟩
theorem sendS_sent (N : NS) (now a b n : Int) (x : ByteArray) : (sendS N now a b n x).sent = N.sent + 1 := by unfold sendS; split <;> rfl
theorem sendS_scr (N : NS) (now a b n : Int) (x : ByteArray) : (sendS N now a b n x).scr = N.scr := by unfold sendS; split <;> rfl
theorem sendS_nodes (N : NS) (now a b n : Int) (x : ByteArray) : (sendS N now a b n x).nodes = N.nodes := by unfold sendS; split <;> rfl
theorem stO_sent (s : List Tr) : ∀ k, (stO s k).sent = k
  | 0 => rfl
  | k + 1 => by rw [stO, sendS_sent, stO_sent s k]
theorem stO_scr (s : List Tr) : ∀ k, (stO s k).scr = s
  | 0 => rfl
  | k + 1 => by rw [stO, sendS_scr, stO_scr s k]
theorem scr_delay (N : NS) (l : List Tr) (h : N.scr = scrL l) : N.tr.delay ≤ 1000000000000000000 := by
  refine tr_delay N _ (by omega) (fun t ht => ?_)
  rw [h] at ht
  have := scrL_delay l t ht
  omega

/-- While the script that was passed is changed: it lies beside both nets. -/
def Chg (w wr : World) (g : Nat) (N : NS) (h : Nat) (M : NS) (v : Value) (n : Nat) : Prop :=
  ∃ F G, IsNet wr g F N ∧ IsNet wr h G M ∧ Apart F G ∧ Adds w [] F ∧ Adds w [] G ∧ Keeps [] w wr ∧ (∀ b, v.ownBlock = some b → b ∉ F ∧ b ∉ G ∧ w.heap.size ≤ b) ∧ ∃ l' : List Tr, l'.length = n ∧ Own wr 42 3 v n (trs l')
theorem Chg.two {w wr : World} {g h : Nat} {N M : NS} {v : Value} {n : Nat} (c : Chg w wr g N h M v n) : Two w wr g N h M := by
  obtain ⟨F, G, h1, h2, h3, h4, h5, h6, _⟩ := c
  exact ⟨F, G, h1, h2, h3, h4, h5, h6⟩
theorem Chg.put {w wr : World} {g h : Nat} {N M : NS} {n b c : Nat} (ch : Chg w wr g N h M (.slice (some ⟨b, 0, none⟩) n c) n) (i : Nat) (hi : i < n) (t : Tr) : Chg w (putT wr b (i * 3) t) g N h M (.slice (some ⟨b, 0, none⟩) n c) n := by
  obtain ⟨F, G, h1, h2, h3, h4, h5, h6, h7, l', h8, h9⟩ := ch
  obtain ⟨m1, m2, m3⟩ := h7 b rfl
  subst h8
  obtain ⟨g', c', cur, hv, hc, hm, hb, hs, ht, _⟩ := h9.head (by omega)
  injection hv with hv1 _ hv3
  injection hv1 with hv1
  injection hv1 with hv1
  subst hv1 hv3
  have kk := putT_keeps (w := wr) (g := b) (o := i * 3) t
  refine ⟨F, G, h1.keep kk (fun k hk hm => by rw [List.mem_singleton] at hm; subst hm; exact m1 hk), h2.keep kk (fun k hk hm => by rw [List.mem_singleton] at hm; subst hm; exact m2 hk), h3, h4, h5, h6.trans kk (fun k hk => .inr (by rw [List.mem_singleton] at hk; omega)), h7, l'.set i t, by simp, ?_⟩
  exact putT_own t hi hc hm hb hs ht

/-- Next, where a block has just been made: it stays. -/
theorem Two.next_box {w wr : World} {g h : Nat} {N M : NS} (t : Two w wr g N h M) (ty : TypeId) (cs : Array Value) (q : Par) (S : List Par) (hS : N.S = q :: S) :
    Calls Try.prog 16 #[.pointer (some ⟨g, 0, none⟩)] (wr.alloc (.cells cs ty)) fun e w' => e = .returned (.tuple #[msgV q.fr q.to q.num q.tx, .int .i64 q.time, .bool true]) ∧ Two w w' g { N with S := S } h M ∧ Bk w' wr.heap.size ty cs := by
  obtain ⟨F, G, h1, h2, h3, h4, h5, h6⟩ := t
  have ka := (Keeps.refl [] wr).alloc (.cells cs ty)
  refine (next_some g F N q S _ (h1.keep0 ka) hS).mono ?_
  rintro e w' ⟨he, F', hn, ha, hk⟩
  obtain ⟨hK, hA⟩ := own_step (h6.trans' ka) h4 ha hk
  exact ⟨he, ⟨F', G, hn, (h2.keep0 ka).keep hk h3.symm, h3.adds ha (h2.keep0 ka).all, hA, h5, hK⟩, (Bk.new wr ty cs).keep hk (fun hm => Nat.lt_irrefl _ (h1.all _ hm))⟩
theorem Two.empty_box {w wr : World} {g h : Nat} {N M : NS} (t : Two w wr g N h M) (ty : TypeId) (cs : Array Value) (hS : N.S = []) :
    Calls Try.prog 16 #[.pointer (some ⟨g, 0, none⟩)] (wr.alloc (.cells cs ty)) fun e w' => e = .returned (.tuple #[msgV 0 0 0 ⟨#[]⟩, .int .i64 0, .bool false]) ∧ Two w w' g N h M ∧ Bk w' wr.heap.size ty cs := by
  have ka := (Keeps.refl [] wr).alloc (.cells cs ty)
  have t' := t.keep ka
  obtain ⟨F, G, h1, h2, h3, h4, h5, h6⟩ := t
  refine (next_none g F N _ (h1.keep0 ka) hS).mono ?_
  rintro e w' ⟨he, _, hk⟩
  exact ⟨he, t'.keep hk, (Bk.new wr ty cs).keep hk (by simp)⟩

set_option maxRecDepth 100000 in
set_option maxHeartbeats 1600000 in
theorem own_walk (A : Option Addr) (c : Nat) (l : List Tr) (many : Int) (w : World) (hl : Src w 3 (.slice A l.length c) l.length (trs l)) (hlen : l.length ≤ 9223372036854775807) (hm0 : 0 ≤ many) (hm1 : many ≤ 255) :
    Calls Try.prog 8 #[.slice A l.length c, .int .u8 many] w fun e w' => e = .returned (.bool true) ∧ Keeps [] w w' := by
  obtain ⟨i0, hi, hz0, hz1, hz2⟩ := info_parts Try.info42
  have HZ := hide (And.intro hi (And.intro hz0 (And.intro hz1 hz2)))
  have HL := hide hl
  clear hl hi hz0 hz1 hz2
  go_enter Try.func8, Try.ntmps8
  go_wp2_with fail
  refine (sanity_any _).mono ?_
  rintro e w1 ⟨rfl, hk1⟩
  have HK1 := hide hk1
  clear hk1
  go_wp2_with fail
  refine (script_any A c l w1 (HL.out.keep HK1.out (by simp)) hlen).mono ?_
  rintro e w2 ⟨v, rfl, hv, hk2, hnew⟩
  obtain ⟨n, hn⟩ : ∃ n, (scrL l).length = n := ⟨_, rfl⟩
  have hn12 : n ≤ 12 := by rw [← hn]; exact scrL_length l
  obtain ⟨A2, c2, hvs⟩ := hv.slice
  rw [hn] at hvs
  subst hvs
  have hsrc := hv.src
  have HV := hide hv
  have HN := hide hn
  have HNEW := hide hnew
  have HK2 := hide hk2
  clear hv hnew hk2 hn
  go_wp2_with fail
  have hnn := new_any 1 A2 c2 (scrL l) w2 (by rw [HN.out] at hsrc ⊢; exact hsrc) (by rw [HN.out]; omega)
  rw [HN.out] at hnn
  refine hnn.mono ?_
  rintro e w3 ⟨g, rfl, hm3⟩
  have HM3 := hide hm3
  clear hm3 hnn hsrc
  go_wp2_with (first | (with_reducible refine Halt.append ?_))
  refine Halt.on ?_
  have hk0 := (Keeps.refl [] w3).alloc (.cells #[] 42)
  have hs0 : Src (w3.alloc (.cells #[] 42)) 3 (.slice A2 n c2) n (trs (scrL l)) := by
    have := (HV.out.src.keep HM3.out.keeps (by simp)).keep hk0 (by simp)
    rw [HN.out] at this
    exact this
  have he0 : Own (w3.alloc (.cells #[] 42)) 42 3 (.slice (some ⟨w3.heap.size, 0, none⟩) 0 0) 0 [] := World.ownsRow_made w3 #[] 0 (Nat.zero_le _) (by unfold maxLen; omega) rfl
  refine wpList_append_src _ rfl _ _ _ rfl 42 i0 _ 3 24 Try.underlying22 HZ.out.1 HZ.out.2.1 HZ.out.2.2.1 HZ.out.2.2.2 rfl (by omega) (.slice (some ⟨w3.heap.size, 0, none⟩) 0 0) 0 [] rfl he0 (.slice A2 n c2) n (trs (scrL l)) rfl hs0 (trs_one _) (by unfold maxLen; omega) (by omega) ?_
  intro v4 w4 hown4 hg4 hat4
  rw [Nat.zero_add, List.nil_append] at hown4
  obtain ⟨A4, c4, hv4⟩ := hown4.slice
  subst hv4
  have hk4 : Keeps [] w3 w4 := hk0.trans (Keeps.of_grown hg4 (F := [w3.heap.size]) (fun k hk => by simp [Value.ownBlock] at hk; simp [hk])) (fun i hi => .inr (by simp at hi; omega))
  have hsrc4 := hown4.src
  have HK4 := hide hk4
  clear hk4 hat4 hg4 hown4 he0 hs0 hk0 HZ
  go_wp2_with fail
  have hnn := new_any 1 A4 c4 (scrL l) w4 (by rw [HN.out]; exact hsrc4) (by rw [HN.out]; omega)
  rw [HN.out] at hnn
  refine hnn.mono ?_
  rintro e w5 ⟨h, rfl, hm5⟩
  have hch : Chg w1 w5 g (stO (scrL l) 0) h (stO (scrL l) 0) (.slice A2 n c2) n := by
    obtain ⟨F, a1, a2, a3⟩ := HM3.out
    obtain ⟨G, b1, b2, b3⟩ := hm5
    have k35 := HK4.out.trans' b3
    refine ⟨F, G, a1.keep0 k35, b1, apart_new (a1.keep0 HK4.out).all b2, (Adds.refl w1 []).trans a2 HK2.out.size, (Adds.refl w1 []).trans b2 ((HK2.out.trans' a3).trans' HK4.out).size, (HK2.out.trans' a3).trans' k35, fun b hb => ?_, scrL l, HN.out, ?_⟩
    · have hb2 := HV.out.lt b hb
      refine ⟨fun hm => ?_, fun hm => ?_, HNEW.out b hb⟩
      · rcases a2 b hm with h | h
        · cases h
        · omega
      · rcases b2 b hm with h | h
        · cases h
        · have := (a3.trans' HK4.out).size; omega
    · have := (HV.out.keep a3 (by simp)).keep k35 (by simp)
      rw [HN.out] at this
      exact this
  have HC := hide hch
  clear hch hm5 hnn hsrc4 HM3 HK4 HV HNEW HK2
  go_wp2_with fail
  go_loopw [9] (fun xv wr => ∃ k : Nat, xv = .int .i64 k ∧ k ≤ n ∧ Hid (Chg w1 wr g (stO (scrL l) 0) h (stO (scrL l) 0) (.slice A2 n c2) n)) (fun xv _ => n - (intOf xv).toNat)
  case atStart => exact ⟨0, rfl, Nat.zero_le _, HC⟩
  case round =>
    obtain ⟨k, rfl, hk, HR⟩ := hrel
    by_cases hlt : k < n
    · obtain ⟨b, hA2⟩ : ∃ b, A2 = some ⟨b, 0, none⟩ := by
        obtain ⟨F, G, _, _, _, _, _, _, _, l', h8, h9⟩ := HR.out
        rcases h9.addr with ⟨_, h0, _⟩ | hb
        · omega
        · exact hb
      subst hA2
      obtain ⟨q0, q1, q2, f0⟩ : (∃ t : Tr, wr.cell? ⟨b, k * 3, none⟩ = some (.bool t.lost) ∧ wr.cell? ⟨b, k * 3 + 1, none⟩ = some (.int .i64 t.copies) ∧ wr.cell? ⟨b, k * 3 + 2, none⟩ = some (.int .i64 t.delay)) ∧ True ∧ True ∧ (∀ j, wr.frozen? ⟨b, j, none⟩ = false) := by
        obtain ⟨F, G, _, _, _, _, _, _, _, l', h8, h9⟩ := HR.out
        subst h8
        obtain ⟨g', c', cur, hv, _, _, hb, _, _, hcell⟩ := h9.head (by omega)
        injection hv with hv1 _ hv3
        injection hv1 with hv1
        injection hv1 with hv1
        subst hv1 hv3
        obtain ⟨x0, x1, x2⟩ := trs_at l' k hlt
        exact ⟨⟨trAt l' k, hcell _ _ x0, hcell _ _ x1, hcell _ _ x2⟩, trivial, trivial, fun j => hb.free j⟩
      obtain ⟨t, q0, q1', q2'⟩ := q0
      clear q1 q2
      have HP := hide (HR.out.put k hlt ⟨!t.lost, 0, 3⟩)
      unfold putT at HP
      have b1 : (0 : Int) ≤ (k : Int) := by omega
      have b2 : (k : Int) < (n : Int) := by omega
      go_wp2_with fail
      go_roundw
      case rel => exact ⟨k + 1, by go_num, by omega, HP⟩
      case measure => simp [intOf]; omega
    · have HT := hide HR.out.two
      clear HR HC
      obtain ⟨mm, hmm⟩ : ∃ mm : Nat, many % 30 = (mm : Int) := ⟨(many % 30).toNat, by omega⟩
      have hm30 : mm < 30 := by omega
      go_wp2_with fail
      go_loopw [10] (fun xv wr => ∃ k : Nat, xv = .int .i64 k ∧ k ≤ mm ∧ Hid (Two w1 wr g (stO (scrL l) k) h (stO (scrL l) k))) (fun xv _ => mm - (intOf xv).toNat)
      case atStart => exact ⟨0, rfl, Nat.zero_le _, HT⟩
      case round =>
        obtain ⟨k, rfl, hk, HR⟩ := hrel
        by_cases hlt : k < mm
        · have hs := HR.out.send k 0 0 k ⟨#[]⟩ (by rw [stO_sent]; omega) (fun _ => ⟨by omega, by omega, scr_delay _ l (stO_scr _ _)⟩)
          unfold msgV at hs
          go_wp2_with fail
          refine hs.mono ?_
          rintro e w6 ⟨rfl, h6⟩
          have hs2 := h6.symm.send k 0 0 k ⟨#[]⟩ (by rw [stO_sent]; omega) (fun _ => ⟨by omega, by omega, scr_delay _ l (stO_scr _ _)⟩)
          unfold msgV at hs2
          have HS2 := hide hs2
          clear hs hs2 h6
          go_wp2_with fail
          refine HS2.out.mono ?_
          rintro e w7 ⟨rfl, h7⟩
          have HT7 := hide h7.symm
          clear h7 HS2
          go_wp2_with fail
          go_roundw
          case rel => exact ⟨k + 1, by go_num, by omega, HT7⟩
          case measure => simp [intOf]; omega
        · have hd2 : decide (k < mm) = false := by simpa using hlt
          go_wp2_with fail
          clear hmm
          go_loopw [11] (fun xv wr => ∃ (k : Nat) (N : NS), xv = .int .i64 k ∧ k ≤ 300 ∧ Hid (Two w1 wr g N h N)) (fun xv _ => 300 - (intOf xv).toNat)
          case atStart => exact ⟨0, _, rfl, by omega, HR⟩
          case round =>
            obtain ⟨k, N, rfl, hk, HR3⟩ := hrel
            by_cases hlt : k < 300
            · cases hS : N.S with
              | nil =>
                have HS := hide hS
                clear hS
                have hs := HR3.out.empty HS.out
                unfold msgV at hs
                go_wp2_with fail
                refine hs.mono ?_
                rintro e w6 ⟨rfl, h6⟩
                have hs2 := h6.symm.empty_box 31 #[.int .i64 0, .int .i64 0, .int .i64 0, .string ⟨#[]⟩] HS.out
                unfold msgV at hs2
                have HS2 := hide hs2
                clear hs hs2 h6
                go_wp2_with fail
                refine HS2.out.mono ?_
                rintro e w7 ⟨rfl, h7, hb7⟩
                have r0 := hb7.cell 0
                have r1 := hb7.cell 1
                have r2 := hb7.cell 2
                have r3 := hb7.cell 3
                simp at r0 r1 r2 r3
                have hl7 := hb7.lt
                have HT7 := hide (h7.symm.keep ((Keeps.refl [] _).alloc (.cells #[.int .i64 0, .int .i64 0, .int .i64 0, .string ⟨#[]⟩] 31)))
                clear h7 hb7 HS2
                go_wp2_with fail
                go_roundw
                case rel => exact ⟨k + 1, _, by go_num, by omega, HT7⟩
                case measure => simp [intOf]; omega
              | cons q S =>
                have HS := hide hS
                clear hS
                have hs := HR3.out.next q S HS.out
                unfold msgV at hs
                go_wp2_with fail
                refine hs.mono ?_
                rintro e w6 ⟨rfl, h6⟩
                have hs2 := h6.symm.next_box 31 #[.int .i64 q.fr, .int .i64 q.to, .int .i64 q.num, .string q.tx] q S HS.out
                unfold msgV at hs2
                have HS2 := hide hs2
                clear hs hs2 h6
                go_wp2_with fail
                refine HS2.out.mono ?_
                rintro e w7 ⟨rfl, h7, hb7⟩
                have r0 := hb7.cell 0
                have r1 := hb7.cell 1
                have r2 := hb7.cell 2
                have r3 := hb7.cell 3
                simp at r0 r1 r2 r3
                have hl7 := hb7.lt
                have HT7 := hide (h7.symm.keep ((Keeps.refl [] _).alloc (.cells #[.int .i64 q.fr, .int .i64 q.to, .int .i64 q.num, .string q.tx] 31)))
                clear h7 hb7 HS2
                go_wp2_with fail
                go_roundw
                case rel => exact ⟨k + 1, _, by go_num, by omega, HT7⟩
                case measure => simp [intOf]; omega
            · go_wp2_with fail
              go_ret
              exact ⟨rfl, HK1.out.trans' HR3.out.keeps⟩
end Go.Proofs.Ytefjoiinoaofcaa

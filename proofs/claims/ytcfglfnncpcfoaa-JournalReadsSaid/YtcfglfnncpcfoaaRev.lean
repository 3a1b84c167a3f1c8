/- journal.ReadEvent. -/
import Derived.Test.YtcfglfnncpcfoaaMade
import Derived.Test.YtcfglfnncpcfoaaRin
namespace Go.Proofs.Ytcfglfnncpcfoaa
open Go.RowKit Go.Shelf
/-- An event of numbers and a text. -/
def evOf (n : List Int) (x : ByteArray) : Ev := ⟨n.getD 0 0, n.getD 1 0, n.getD 2 0, n.getD 3 0, n.getD 4 0, n.getD 5 0, n.getD 6 0, n.getD 7 0, n.getD 8 0, n.getD 9 0, n.getD 10 0, n.getD 11 0, n.getD 12 0, n.getD 13 0, n.getD 14 0, n.getD 15 0, n.getD 16 0, x⟩
/-- Reading an event, as plain data. -/
def readE (l : List UInt8) : Ev × Int :=
  if (unpB l).2 ≠ 0 then (z0, (unpB l).2)
  else match (unpB l).1 with
  | [a, x] => if (readI a.data.toList).2 ≠ 0 then (z0, (readI a.data.toList).2) else if (readI a.data.toList).1.length ≠ 17 then (z0, 11) else (evOf (readI a.data.toList).1 x, 0)
  | _ => (z0, 11)
def Fine (l : List UInt8) : Prop := l.length ≤ 140737488355328 ∧ (readN l).1 ≤ 100000000 ∧ ∀ a x, unpB l = ([a, x], 0) → a.size ≤ 1000000000
theorem readE_err {l : List UInt8} {o : List ByteArray} {er : Int} (h : unpB l = (o, er)) (he : er ≠ 0) : readE l = (z0, er) := by
  unfold readE
  rw [h]
  exact if_pos he
theorem readE_form {l : List UInt8} {o : List ByteArray} (h : unpB l = (o, 0)) (h2 : o.length ≠ 2) : readE l = (z0, 11) := by
  unfold readE
  rw [h]
  match o, h2 with
  | [], _ => rfl
  | [_], _ => rfl
  | [_, _], h => exact absurd rfl h
  | _ :: _ :: _ :: _, _ => rfl
theorem readE_two {l : List UInt8} {a x : ByteArray} (h : unpB l = ([a, x], 0)) : readE l = if (readI a.data.toList).2 ≠ 0 then (z0, (readI a.data.toList).2) else if (readI a.data.toList).1.length ≠ 17 then (z0, 11) else (evOf (readI a.data.toList).1 x, 0) := by
  unfold readE
  rw [h]
  rfl
theorem ec_step (n : List Int) (x : ByteArray) (k : Nat) (hl : n.length = 17) (hk : k < 17) : (ec (evOf (n.take k) x)).toArray.setIfInBounds k (.int .i64 (n[k]'(by omega))) = (ec (evOf (n.take (k + 1)) x)).toArray := by
  match n, hl with
  | [a0, a1, a2, a3, a4, a5, a6, a7, a8, a9, a10, a11, a12, a13, a14, a15, a16], _ =>
    match k, hk with
    | 0, _ => rfl
    | 1, _ => rfl
    | 2, _ => rfl
    | 3, _ => rfl
    | 4, _ => rfl
    | 5, _ => rfl
    | 6, _ => rfl
    | 7, _ => rfl
    | 8, _ => rfl
    | 9, _ => rfl
    | 10, _ => rfl
    | 11, _ => rfl
    | 12, _ => rfl
    | 13, _ => rfl
    | 14, _ => rfl
    | 15, _ => rfl
    | 16, _ => rfl
    | k + 17, h => exact absurd h (by omega)
theorem results_two_ev {fn : Func} {p s : Tmp} (h : fn.results = #[.cell p 27, .tmp s]) (tmps : Array Value) (w : World) (g : Nat) (e : Ev) (u : Value) (hp : tmps.getD p undef = .pointer (some ⟨g, 0, none⟩)) (hu : tmps.getD s undef = u) (hg : EvAt w g 0 e) : (results fn tmps).run Try.prog w = .ok (.tuple #[ev e, u]) w := by
  have hp' : tmps[p]?.getD undef = .pointer (some ⟨g, 0, none⟩) := by simpa using hp
  have hu' : tmps[s]?.getD undef = u := by simpa using hu
  simp [results, h, hp', hu', asAddr, run_load_ev hg]
theorem as_bs (a : ByteArray) : ∃ l, a = bs l := ⟨a.data.toList, (bs_ext (by rw [bs_list])).symm⟩
set_option maxHeartbeats 4000000 in
set_option maxRecDepth 100000 in
theorem read_event_any (l : List UInt8) (w : World) (hf : Fine l) : Calls Try.prog 15 #[.string (bs l)] w fun r w' => r = .returned (.tuple #[ev (readE l).1, .int .i64 (readE l).2]) ∧ Keeps [] w w' := by
  have HF := hide hf
  have HB := hide (Bk.new w 27 (ec z0).toArray)
  have HK := hide ((Keeps.refl [] w).alloc (.cells (ec z0).toArray 27))
  clear hf
  go_enter Try.func15, Try.ntmps15
  go_wp2_with fail
  change Calls _ _ _ (w.alloc (.cells (ec z0).toArray 27)) _
  generalize w.alloc (.cells (ec z0).toArray 27) = w0 at HB HK ⊢
  obtain ⟨bx, hbx⟩ : ∃ b, w.heap.size = b := ⟨_, rfl⟩
  rw [hbx] at HB ⊢
  have HNW := hide (Nat.le_of_eq hbx)
  clear hbx
  refine (unpack_any l w0 HF.out.1 HF.out.2.1).mono ?_
  rintro r w1 ⟨v, rfl, ho, hn, k1⟩
  obtain ⟨A, c, rfl⟩ := Own.slice ho
  replace HB := hide (HB.out.keep k1 (by simp))
  replace HK := hide (HK.out.trans' k1)
  obtain ⟨⟨o, er⟩, hu⟩ : ∃ p, unpB l = p := ⟨_, rfl⟩
  rw [hu] at ho ⊢
  simp only at ho ⊢
  have HU := hide hu
  have HO := hide ho
  have ⟨hol, hol2⟩ : (0 : Int) ≤ (o.length : Int) ∧ True := ⟨by omega, trivial⟩
  clear hu ho hn k1 hol2
  by_cases he : er = 0
  case neg =>
    have he0 : (er != 0) = true := by simp [he]
    have HE := hide (readE_err HU.out he)
    clear he
    go_wp2_with (with_reducible refine Halt.store (t := 27) ?_)
    refine Halt.on ?_
    refine wpList_store_ev rfl _ _ rfl bx z0 rfl rfl 27 _ HB.out rfl ?_
    have HX := hide (row_bk HB.out (ec z0).toArray)
    have HKX := hide (HK.out.setRow (g := bx) (.inr HNW.out) (ec z0).toArray)
    generalize w1.setRow bx (ec z0).toArray = w9 at HX HKX ⊢
    go_wp2_with fail
    refine bodyPost_ret (v := .tuple #[ev z0, .int .i64 er]) ?_ rfl ⟨by rw [HE.out], HKX.out⟩
    exact results_two_ev rfl _ w9 bx _ _ rfl rfl (EvAt.box HX.out)
  case pos =>
  subst he
  by_cases h2 : o.length = 2
  case neg =>
    have hne : ((o.length : Int) != 2) = true := by simp; omega
    have HE := hide (readE_form HU.out h2)
    clear h2
    go_wp2_with (with_reducible refine Halt.store (t := 27) ?_)
    refine Halt.on ?_
    refine wpList_store_ev rfl _ _ rfl bx z0 rfl rfl 27 _ HB.out rfl ?_
    have HX := hide (row_bk HB.out (ec z0).toArray)
    have HKX := hide (HK.out.setRow (g := bx) (.inr HNW.out) (ec z0).toArray)
    generalize w1.setRow bx (ec z0).toArray = w9 at HX HKX ⊢
    go_wp2_with fail
    refine bodyPost_ret (v := .tuple #[ev z0, .int .i64 11]) ?_ rfl ⟨by rw [HE.out], HKX.out⟩
    exact results_two_ev rfl _ w9 bx _ _ rfl rfl (EvAt.box HX.out)
  case pos =>
  have ⟨a, x, hox⟩ : ∃ a x, o = [a, x] := by
    match o, h2 with
    | [a, x], _ => exact ⟨a, x, rfl⟩
  subst hox
  clear h2 hol
  obtain ⟨g9, c9, cur, hv, _, _, _, _, _, hcell⟩ := Own.head HO.out (by simp)
  injection hv with hA _ hc
  subst hA hc
  have q0 : w1.cell? ⟨g9, 0, none⟩ = some (.string a) := hcell 0 _ rfl
  have q1 : w1.cell? ⟨g9, 1, none⟩ = some (.string x) := hcell 1 _ rfl
  clear hcell
  have hrd := readE_two HU.out
  have hla := HF.out.2.2 _ _ HU.out
  obtain ⟨la, rfl⟩ := as_bs a
  rw [bs_list] at hrd
  rw [bs_size] at hla
  have HLA := hide hla
  have HQ1 := hide q1
  obtain ⟨⟨q, f⟩, hq⟩ : ∃ p, readI la = p := ⟨_, rfl⟩
  rw [hq] at hrd
  simp only at hrd
  have HRD := hide hrd
  have HQ := hide hq
  clear hrd hla q1 hq HO
  go_wp2_with fail
  refine (readints_any la w1 HLA.out).mono ?_
  rintro r w2 ⟨v2, rfl, ho2, hn2, k2⟩
  obtain ⟨A2, c2, rfl⟩ := Own.slice ho2
  rw [HQ.out] at ho2 ⊢
  simp only at ho2 ⊢
  have HO2 := hide ho2
  have q1 : w2.cell? ⟨g9, 1, none⟩ = some (.string x) := k2.cell HQ1.out
  replace HB := hide (HB.out.keep k2 (by simp))
  replace HK := hide (HK.out.trans' k2)
  clear ho2 hn2 k2 q0 HQ1 HLA
  by_cases hf0 : f = 0
  case neg =>
    have he0 : (f != 0) = true := by simp [hf0]
    have HE := hide (HRD.out.trans (if_pos hf0))
    clear hf0 q1
    go_wp2_with (with_reducible refine Halt.store (t := 27) ?_)
    refine Halt.on ?_
    refine wpList_store_ev rfl _ _ rfl bx z0 rfl rfl 27 _ HB.out rfl ?_
    have HX := hide (row_bk HB.out (ec z0).toArray)
    have HKX := hide (HK.out.setRow (g := bx) (.inr HNW.out) (ec z0).toArray)
    generalize w2.setRow bx (ec z0).toArray = w9 at HX HKX ⊢
    go_wp2_with fail
    refine bodyPost_ret (v := .tuple #[ev z0, .int .i64 f]) ?_ rfl ⟨by rw [HE.out], HKX.out⟩
    exact results_two_ev rfl _ w9 bx _ _ rfl rfl (EvAt.box HX.out)
  case pos =>
  subst hf0
  go_wp2_with (with_reducible refine Halt.store (t := 27) ?_)
  refine Halt.on ?_
  change wpList _ _ _ _ _ (w2.alloc (.cells (ec z0).toArray 27))
  refine wpList_store_ev rfl _ _ rfl w2.heap.size (evOf [] x) rfl rfl 27 _ (Bk.new w2 27 _) rfl ?_
  simp only [Act.put]
  have K1 : Keeps [w2.heap.size] w2 ((w2.alloc (.cells (ec z0).toArray 27)).setRow w2.heap.size (ec (evOf [] x)).toArray) := ((Keeps.refl [w2.heap.size] w2).alloc _).setRow (g := w2.heap.size) (.inl (by simp)) _
  have HBE := hide (row_bk (Bk.new w2 27 (ec z0).toArray) (ec (evOf [] x)).toArray)
  have hbn : bx ≠ w2.heap.size := by have := HB.out.lt; omega
  have HIN := hide (fun g (hg : (Value.slice A2 q.length c2).ownBlock = some g) => show g ≠ w2.heap.size by have := Own.lt HO2.out g hg; omega)
  replace HO2 := hide (Own.keep HO2.out K1 (fun g hg hm => HIN.out g hg (by simpa using hm)))
  replace HB := hide (HB.out.keep K1 (by simpa using hbn))
  have HBN := hide hbn
  have HEN := hide HK.out.size
  replace HK := hide (HK.out.trans K1 (fun i hi => .inr (by simp at hi; subst hi; exact HK.out.size)))
  generalize (w2.alloc (.cells (ec z0).toArray 27)).setRow w2.heap.size (ec (evOf [] x)).toArray = w3 at HBE HO2 HB HK ⊢
  generalize w2.heap.size = be at HBE HIN HBN HEN ⊢
  clear K1 q1 hbn
  go_wp2_with fail
  refine (fields_any be w3).mono ?_
  rintro r w4 ⟨gp, rfl, hp, hg, k4⟩
  have hgb : gp ≠ be := by have := HBE.out.lt; omega
  replace HBE := hide (HBE.out.keep k4 (by simp))
  replace HO2 := hide (Own.keep HO2.out k4 (by simp))
  replace HB := hide (HB.out.keep k4 (by simp))
  replace HK := hide (HK.out.trans' k4)
  have HP := hide hp
  have HGB := hide hgb
  clear hp hg k4 hgb
  have ⟨hql, hql2⟩ : (0 : Int) ≤ (q.length : Int) ∧ True := ⟨by omega, trivial⟩
  clear hql2
  by_cases h17 : q.length = 17
  case neg =>
    have hne : ((q.length : Int) != 17) = true := by simp; omega
    have HE := hide (HRD.out.trans ((if_neg (by simp)).trans (if_pos h17)))
    clear h17
    go_wp2_with (with_reducible refine Halt.store (t := 27) ?_)
    refine Halt.on ?_
    refine wpList_store_ev rfl _ _ rfl bx z0 rfl rfl 27 _ HB.out rfl ?_
    have HX := hide (row_bk HB.out (ec z0).toArray)
    have HKX := hide (HK.out.setRow (g := bx) (.inr HNW.out) (ec z0).toArray)
    generalize w4.setRow bx (ec z0).toArray = w9 at HX HKX ⊢
    go_wp2_with fail
    refine bodyPost_ret (v := .tuple #[ev z0, .int .i64 11]) ?_ rfl ⟨by rw [HE.out], HKX.out⟩
    exact results_two_ev rfl _ w9 bx _ _ rfl rfl (EvAt.box HX.out)
  case pos =>
  have HE := hide (HRD.out.trans ((if_neg (by simp)).trans (if_neg (by simp [h17]))))
  rw [h17] at HO2 HIN ⊢
  clear hql
  obtain ⟨g5, c5, cur, hv, _, _, _, _, _, hcell⟩ := Own.head HO2.out (by simp)
  injection hv with hA _ hc
  subst hA hc
  have HC := hide hcell
  have HGE := hide (HIN.out g5 rfl)
  have H17 := hide h17
  clear hcell h17 HIN HRD
  go_wp2
  go_loopw [48] (fun s48 wr => ∃ k : Nat, k ≤ 17 ∧ s48 = .int .i64 k ∧ Hid (Bk wr be 27 (ec (evOf (q.take k) x)).toArray ∧ Keeps [be] w4 wr)) (fun s48 _ => 17 - (intOf s48).toNat)
  case atStart => exact ⟨0, by omega, rfl, hide ⟨HBE.out, Keeps.refl _ _⟩⟩
  case round =>
    obtain ⟨k, hk, rfl, HR⟩ := hrel
    have hk0 : (0 : Int) ≤ (k : Int) := by omega
    by_cases hlt : k < 17
    · have hltz : (k : Int) < 17 := by omega
      have hkq : k < q.length := by have := H17.out; omega
      have q2 : wr.cell? ⟨g5, k, none⟩ = some (.int .i64 q[k]) := HR.out.2.cellF (HC.out k _ (by simp [isv, hkq])) (by simpa using HGE.out)
      have q3 : wr.cell? ⟨gp, k, none⟩ = some (.pointer (some ⟨be, k, none⟩)) := by rw [(HP.out.keep HR.out.2 (by simpa using HGB.out)).cell k]; exact ptrs_at be k hlt
      obtain ⟨u4, q4⟩ : ∃ u, wr.cell? ⟨be, k, none⟩ = some u := ⟨(ec (evOf (q.take k) x))[k]'(by rw [ec_length]; omega), by rw [HR.out.1.cell k]; simp only [List.getElem?_toArray]; exact List.getElem?_eq_getElem _⟩
      have q5 : wr.frozen? ⟨be, k, none⟩ = false := HR.out.1.free k
      have HST := hide (ec_step q x k H17.out hlt)
      have HN := hide (And.intro (HR.out.1.set k (.int .i64 q[k])) (HR.out.2.setCell (p := ⟨be, k, none⟩) (.inl (by simp)) (.int .i64 q[k])))
      rw [HST.out] at HN
      clear HR HST
      go_wp2
      go_roundw
      case measure => simp [intOf]; omega
      case rel => exact ⟨k + 1, by omega, by go_num, HN⟩
    · obtain rfl : k = 17 := by omega
      have hbe := HR.out.1
      rw [List.take_of_length_le (by have := H17.out; omega)] at hbe
      have HBF := hide hbe
      have HBX := hide (HB.out.keep HR.out.2 (by simpa using HBN.out))
      have HKF := hide (HK.out.trans HR.out.2 (fun i hi => .inr (by simp at hi; subst hi; exact HEN.out)))
      clear hbe HR HB HK HBE HO2
      go_wp2_with (with_reducible refine Halt.load (t := 27) ?_)
      refine Halt.on ?_
      refine wpList_load_ev rfl _ rfl be 0 (evOf q x) rfl (EvAt.box HBF.out) ?_
      go_wp2_with (with_reducible refine Halt.store (t := 27) ?_)
      refine Halt.on ?_
      refine wpList_store_ev rfl _ _ rfl bx (evOf q x) rfl rfl 27 _ HBX.out rfl ?_
      have HX := hide (row_bk HBX.out (ec (evOf q x)).toArray)
      have HKX := hide (HKF.out.setRow (g := bx) (.inr HNW.out) (ec (evOf q x)).toArray)
      generalize wr.setRow bx (ec (evOf q x)).toArray = w9 at HX HKX ⊢
      go_wp2_with fail
      refine bodyPost_ret (v := .tuple #[ev (evOf q x), .int .i64 0]) ?_ rfl ⟨by rw [HE.out], HKX.out⟩
      exact results_two_ev rfl _ w9 bx _ _ rfl rfl (EvAt.box HX.out)
end Go.Proofs.Ytcfglfnncpcfoaa

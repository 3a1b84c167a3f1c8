/- queue.For, whole. -/
import Derived.Test.YtlpmalkjbagbgaaFor
import Derived.Laws.EntriesVeiled
namespace Go.Proofs.Ytlpmalkjbagbgaa
open Go.RowKit Go.Shelf
def forL (L : List Hold) (item ts tn : Int) (T : List Sm) (day : Int) : List Hold := (L.filter (act day)).filter (serve item (titleOf ts tn T).1 (titleOf ts tn T).2 T)
set_option maxHeartbeats 2000000 in
theorem for_any (A : Option Addr) (c : Nat) (L : List Hold) (item ts tn : Int) (A' : Option Addr) (c' : Nat) (T : List Sm) (day : Int) (w : World) (hL : L.length ≤ 64) (hT : T.length ≤ 64) (hs : HS w (.slice A L.length c) L) (ht : TS w (.slice A' T.length c') T) :
    Calls Try.prog 16 #[.slice A L.length c, .int .i64 item, .agg #[.int .i64 ts, .int .i64 tn], .slice A' T.length c', .int .i64 day] w fun e w' => ∃ v, e = .returned v ∧ HO w' v (forL L item ts tn T day) ∧ New w v ∧ Keeps [] w w' := by
  have e32 := enters_of Try.func32 (by kernel_rfl) rfl
  go_enter Try.func16, Try.ntmps16
  go_wp2_with fail
  let W0 : World := ((((w.alloc (.cells #[.int .i64 item] 3)).alloc (.cells #[.int .i64 ts, .int .i64 tn] 24)).alloc (.cells #[.slice A' T.length c'] 37)).alloc (.cells #[.func (.func 32) #[] #[.pointer (some ⟨w.heap.size + 1 + 1, 0, none⟩)]] 64))
  have hK : Keeps [] w W0 := ((((Keeps.refl [] w).alloc _).alloc _).alloc _).alloc _
  have h6 : Bk W0 w.heap.size 3 #[.int .i64 item] := (((Bk.new w 3 _).alloc _).alloc _).alloc _
  have h8 : Bk W0 (w.heap.size + 1 + 1) 37 #[.slice A' T.length c'] := by
    have := (Bk.new ((w.alloc (.cells #[.int .i64 item] 3)).alloc (.cells #[.int .i64 ts, .int .i64 tn] 24)) 37 #[.slice A' T.length c']).alloc (.cells #[.func (.func 32) #[] #[.pointer (some ⟨w.heap.size + 1 + 1, 0, none⟩)]] 64)
    simpa [W0] using this
  have h11 : Bk W0 (w.heap.size + 1 + 1 + 1) 64 #[.func (.func 32) #[] #[.pointer (some ⟨w.heap.size + 1 + 1, 0, none⟩)]] := by
    have := Bk.new (((w.alloc (.cells #[.int .i64 item] 3)).alloc (.cells #[.int .i64 ts, .int .i64 tn] 24)).alloc (.cells #[.slice A' T.length c'] 37)) 64 #[.func (.func 32) #[] #[.pointer (some ⟨w.heap.size + 1 + 1, 0, none⟩)]]
    simpa [W0] using this
  change Calls _ _ _ W0 _
  generalize W0 = w0 at hK h6 h8 h11 ⊢
  replace hs := Src.keep hs hK (by simp)
  replace ht := Src.keep ht hK (by simp)
  refine (of_any ts tn _ A' c' T w0 hT (h8.cell 0) ht).mono ?_
  rintro e w1 ⟨rfl, k1⟩
  obtain ⟨⟨ms, mn⟩, hmt⟩ : ∃ p : Int × Int, p = titleOf ts tn T := ⟨_, rfl⟩
  have HF := hide (show forL L item ts tn T day = (L.filter (act day)).filter (serve item ms mn T) by rw [forL, ← hmt])
  rw [← hmt]
  clear hmt
  simp only []
  have HK := hide ((hK.trans' k1).alloc (.cells #[.int .i64 ms, .int .i64 mn] 24))
  have k1a := k1.alloc (.cells #[.int .i64 ms, .int .i64 mn] 24)
  have H6 := hide (h6.keep k1a (by simp))
  have H8 := hide (h8.keep k1a (by simp))
  have H11 := hide (h11.keep k1a (by simp))
  have H12 := hide (Bk.new w1 24 #[.int .i64 ms, .int .i64 mn])
  have HSS := hide (Src.keep hs k1a (by simp))
  have HTT := hide (Src.keep ht k1a (by simp))
  clear k1 k1a h6 h8 h11 hs ht hK e32
  go_wp2_with fail
  generalize w1.alloc (.cells #[Value.int .i64 ms, .int .i64 mn] 24) = w2 at HK H6 H8 H11 H12 HSS HTT ⊢
  refine (active_any A c L day w2 hL HSS.out).mono ?_
  rintro e w3 ⟨v3, rfl, ho3, hn3, k3⟩
  obtain ⟨A3, c3, hv3, _, _⟩ := HO.form ho3
  subst hv3
  have hlen : (L.filter (act day)).length ≤ 64 := Nat.le_trans (List.length_filter_le _ _) hL
  have HP := hide (serve_pred item ms mn T A' c' w.heap.size (w.heap.size + 1 + 1) (w.heap.size + 1 + 1 + 1) w1.heap.size w3 hT ((H6.out.keep k3 (by simp)).cell 0) ((H8.out.keep k3 (by simp)).cell 0) (Src.keep HTT.out k3 (by simp)) ((H11.out.keep k3 (by simp)).cell 0) ((H12.out.keep k3 (by simp)).cell 0) ((H12.out.keep k3 (by simp)).cell 1))
  have HC := hide (with_any 36 _ _ A3 c3 _ w3 hlen (HO.hs ho3) HP.out)
  have HK3 := hide (HK.out.trans' k3)
  clear ho3 hn3 k3 hlen
  go_wp2_with fail
  refine HC.out.mono ?_
  rintro e w4 ⟨v4, rfl, ho4, hn4, k4⟩
  go_wp2
  go_ret
  exact ⟨_, rfl, by rw [HF.out]; exact ho4, fun g hg => Nat.le_trans HK3.out.size (hn4 g hg), HK3.out.trans' k4⟩
end Go.Proofs.Ytlpmalkjbagbgaa

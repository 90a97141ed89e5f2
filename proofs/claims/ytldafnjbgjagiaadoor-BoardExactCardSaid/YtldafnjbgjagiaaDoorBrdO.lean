/-
  Walks of BoardExpects and BoardObserves.
-/
import Derived.Test.YtldafnjbgjagiaaDoorBrdN
namespace Go.Proofs.YtldafnjbgjagiaaDoor
open Go.RowKit
set_option linter.unusedVariables false
set_option linter.unusedSimpArgs false

theorem sl_low {w : World} {v : Value} {l : List ByteArray} (h : SL w v l) : In (fun b => b < w.heap.size) v l.length := fun hn b hb => by
  obtain ⟨A, c, rfl, _, h⟩ := h
  obtain ⟨a, rfl, hr⟩ := h hn
  have := hr.lt
  simp only [Value.ownBlock, Option.some.injEq] at hb
  omega
theorem il_low {w : World} {v : Value} {l : List Int} (h : IL w v l) : In (fun b => b < w.heap.size) v l.length := fun hn b hb => by
  obtain ⟨A, c, rfl, _, h⟩ := h
  obtain ⟨a, rfl, hr, _⟩ := h hn
  simp only [Value.ownBlock, Option.some.injEq] at hb
  omega
/-- What lies in a world leans on that world's blocks. -/
theorem rs_low {w : World} {v : Value} {ts : List Tx} (h : Rs txR w v ts anyB) : Rs txR w v ts (fun b => b < w.heap.size) := by
  obtain ⟨A, c, rfl, hc, h⟩ := h
  refine ⟨A, c, rfl, hc, fun hl => ?_⟩
  obtain ⟨b, o, e, hlt, hx⟩ := h hl
  refine ⟨b, o, e, hlt, fun j x hj => ?_⟩
  obtain ⟨us, hu, u1, u2, e1, s1, s2, _, _⟩ := hx j x hj
  exact ⟨us, hu, u1, u2, e1, s1, s2, sl_low s1, il_low s2⟩
theorem rs_lowB {w W : World} {v : Value} {ts : List Tx} (h : Rs txR w v ts anyB) (hb : Below w.heap.size w W) : Rs txR W v ts (Ty W w.heap.size txR.ts) := ((rs_low h).below hb).mono fun _ h => .inl h
theorem tx_lowB {w W : World} {u1 u2 : Value} {t : Tx} (s1 : SL w u1 t.1) (s2 : IL w u2 t.2) (hb : Below w.heap.size w W) : txR.R W [u1, u2] t (Ty W w.heap.size txR.ts) :=
  ⟨u1, u2, rfl, s1.below hb, s2.below hb, fun hn b hb => .inl (sl_low s1 hn b hb), fun hn b hb => .inl (il_low s2 hn b hb)⟩

/-- Two boards that read are compared. -/
theorem same_bdf (W : World) (v1 v2 : Value) (a b : Bd) (C1 C2 : Nat) (h1 : BDF W C1 v1 a) (h2 : BDF W C2 v2 b) (za : BZ a) (zb : BZ b) : Calls Tryd.prog 11 #[v1, v2] W fun e w' => e = .returned (.bool (sameBd a b)) ∧ Below W.heap.size W w' := by
  obtain ⟨A, c, A2, c2, rfl, r1, s1⟩ := h1.rd
  obtain ⟨B, d, B2, d2, rfl, r2, s2⟩ := h2.rd
  exact brrSame W a b A A2 B B2 c c2 d d2 r1 s1 r2 s2 za zb
theorem same_one (W : World) (v1 v2 : Value) (a : Bd) (C1 C2 : Nat) (h1 : BDF W C1 v1 a) (h2 : BDF W C2 v2 a) (za : BZ a) : Calls Tryd.prog 11 #[v1, v2] W fun e w' => e = .returned (.bool true) ∧ Below W.heap.size W w' := by
  have := same_bdf W v1 v2 a a C1 C2 h1 h2 za za
  rwa [show sameBd a a = true from decide_eq_true rfl] at this
theorem bz_nil (o : Bool) (s : ByteArray) : BZ ⟨o, s, [], 0, []⟩ := ⟨by simp, by simp, fun t ht => by simp at ht⟩
theorem bz_ok {b : Bd} (h : OkB b) : BZ b := ⟨by have := h.1; omega, by have := h.2.1; omega, fun t ht => by
  have := tz_of (h.2.2.2.2 t ht).1
  exact ⟨this.1, this.2.1⟩⟩
theorem bz_exp (b : Bd) (t : Tx) : BZ (expT b t).1 := by
  rcases exp_ways b t with ⟨c, hc, ha, e⟩ | ⟨ha, hok, htv, hf, e⟩ | ⟨ha, hok, htv, hf, e⟩
  · rw [e]; exact bz_nil _ _
  · rw [e]; exact bz_nil _ _
  · have h1 : expS b t = (expT b t).1 := by unfold expS; rw [if_pos (by rw [e])]
    rw [← h1]; exact bz_ok (exp_ok hok)
theorem obs_bz (b : Bd) (t : Tx) : (obsT b t).1 = bd0 ∨ OkB (obsT b t).1 := by
  by_cases h : (obsT b t).2 = 0
  · have hok : OkB b := by
      rcases obs_ways b t with ⟨c, hc, ha, e⟩ | ⟨ha, hok, _⟩ | ⟨ha, hok, _⟩ | ⟨k, ha, hok, _⟩
      · rw [e] at h; exact absurd h hc
      all_goals exact hok
    have h1 : obsS b t = (obsT b t).1 := by unfold obsS; rw [if_pos h]
    exact .inr (h1 ▸ obs_ok hok)
  · left
    unfold obsT at h ⊢
    split
    · rfl
    · rename_i h1
      rw [if_neg h1] at h
      split
      · rfl
      · rename_i h2
        rw [if_neg h2] at h
        exfalso
        apply h
        split
        · split <;> rfl
        · rfl
theorem bz_obs (b : Bd) (t : Tx) : BZ (obsT b t).1 := by
  rcases obs_bz b t with h | h
  · rw [h]; exact bz_nil _ _
  · exact bz_ok h
theorem bz_fin {b : Bd} (h : BZ b) : BZ (finT b) := by
  unfold finT
  split
  · exact h
  · rename_i hok
    have ok : OkB b := okb_iff.1 (by simpa using hok)
    refine ⟨by simp, ?_, fun t ht => by simp at ht⟩
    simp only
    rw [loss_len]
    have := ok.1; have := ok.2.1
    omega

set_option maxRecDepth 100000 in
set_option maxHeartbeats 16000000 in
theorem walkBoardExpects {H : Type} {enc : TypeId × Value → H} {base : Nat} {w : World} (v0 : Value) (d0 : DataW H) (p0 : List MemPlace) (g0 : DataW.Trod enc Tryd.prog w 0 (fun _ => true) true 25 v0 d0 p0) (hv0 : Value.okWide Tryd.prog w .any base 25 v0)
    (v1 : Value) (d1 : DataW H) (p1 : List MemPlace) (g1 : DataW.Trod enc Tryd.prog w 0 (fun _ => true) true 28 v1 d1 p1) (hv1 : Value.okWide Tryd.prog w .any base 28 v1) (ht : Tab w) (hm : MLen w) (hk : KW w) :
    Calls Tryd.prog 3 #[v0, v1] w fun e w' => e = .returned (.bool true) ∧ Below w.heap.size w w' := by
  obtain ⟨b, A1, A2, c1, c2, rfl, h1, h2, -, -, n1, n2, hz, -⟩ := arg_board g0 hv0
  obtain ⟨u1, u2, t, rfl, s1, s2, tz⟩ := arg_tx g1 hv1
  clear g0 hv0 g1 hv1
  have HK := Lib.hid hk
  have HM := Lib.hid hm
  have HT := Lib.hid ht
  have CE : Hid (∀ W, Below w.heap.size w W → Calls Tryd.prog 9 #[.agg #[.bool b.ord, .string b.key, .slice A1 b.want.length c1, .int .i64 b.mat, .slice A2 b.wrg.length c2], .agg #[u1, u2]] W (RETB W 0 (expT b t))) := Lib.hid fun W hW =>
    brdExpect W b t _ _ u1 u2 (h1.below hW) (h2.below hW) (s1.below hW) (s2.below hW) n1 n2 hz tz (hk.below hW) (hm.below hW)
  have CR : Hid (∀ W, Below w.heap.size w W → Calls Tryd.prog 10 #[.agg #[.bool b.ord, .string b.key, .slice A1 b.want.length c1, .int .i64 b.mat, .slice A2 b.wrg.length c2], .agg #[u1, u2]] W (RETB W w.heap.size (expT b t))) := Lib.hid fun W hW =>
    brrExpect W b t _ A1 A2 c1 c2 u1 u2 (rs_lowB h1 hW) (h2.below hW) (tx_lowB s1 s2 hW) hW.size n1 n2 hz tz
  have CC := Lib.hid (fun W => brdClean W b A1 A2 c1 c2)
  have CD := Lib.hid (fun W => brrClean W b A1 A2 c1 c2)
  have BZE := Lib.hid (bz_exp b t)
  obtain ⟨B1, e1, rfl, -⟩ := id s1
  obtain ⟨B2, e2, rfl, -⟩ := id s2
  generalize expT b t = r at *
  generalize cleanB b = cl at *
  obtain ⟨ord, key, want, mat, wrg⟩ := b
  simp only at *
  generalize want.length = N at *
  generalize wrg.length = G at *
  generalize t.1.length = L1 at *
  generalize t.2.length = L2 at *
  clear h1 h2 s1 s2 hz tz hk hm ht n1 n2
  have CW := Lib.hid (fun W (hW : Below w.heap.size w W) => lawAwake W (HK.out.below hW) (HM.out.below hW) (HT.out.below hW))
  have CN := Lib.hid (fun W => same_one W (.agg #[.bool ord, .string key, .slice none 0 0, .int .i64 0, .slice none 0 0]) (.agg #[.bool ord, .string key, .slice none 0 0, .int .i64 0, .slice none 0 0]) ⟨ord, key, [], 0, []⟩ 0 0 (BDF.nil W 0 ord key) (BDF.nil W 0 ord key) (bz_nil ord key))
  go_enter Tryd.func3, Tryd.ntmps3
  go_upto_region 1 with fail
  have XA := Lib.hid ((box_new (W := w) (g := w.heap.size) 25 #[.bool ord, .string key, .slice A1 N c1, .int .i64 mat, .slice A2 G c2] (by simp)).below (below_alloc _ (.cells #[.slice B1 L1 e1, .slice B2 L2 e2] 28)))
  have XT := Lib.hid (box_new (W := (w.alloc (.cells #[.bool ord, .string key, .slice A1 N c1, .int .i64 mat, .slice A2 G c2] 25))) (g := w.heap.size + 1) 28 #[.slice B1 L1 e1, .slice B2 L2 e2] (by simp))
  have HB := Lib.hid (below_step (below_alloc w (.cells #[.bool ord, .string key, .slice A1 N c1, .int .i64 mat, .slice A2 G c2] 25)) (below_alloc (w.alloc (.cells #[.bool ord, .string key, .slice A1 N c1, .int .i64 mat, .slice A2 G c2] 25)) (.cells #[.slice B1 L1 e1, .slice B2 L2 e2] 28)))
  generalize (w.alloc (.cells #[.bool ord, .string key, .slice A1 N c1, .int .i64 mat, .slice A2 G c2] 25)).alloc (.cells #[.slice B1 L1 e1, .slice B2 L2 e2] 28) = w1 at *
  have XA_0 := XA.out.at_ 0 _ rfl
  have XA_1 := XA.out.at_ 1 _ rfl
  have XA_2 := XA.out.at_ 2 _ rfl
  have XA_3 := XA.out.at_ 3 _ rfl
  have XA_4 := XA.out.at_ 4 _ rfl
  have XT_0 := XT.out.at_ 0 _ rfl
  have XT_1 := XT.out.at_ 1 _ rfl
  go_wp2_with fail
  clear XA_0 XA_1 XA_2 XA_3 XA_4 XT_0 XT_1
  refine (CE.out w1 HB.out).mono ?_; rintro e w2 ⟨v', rfl, hbd', hb⟩
  replace XA := Lib.hid (XA.out.below hb)
  replace XT := Lib.hid (XT.out.below hb)
  replace HB := Lib.hid (below_step HB.out hb)
  clear hb
  obtain ⟨FA, fc, FA2, fc2, fn, fg, rfl, -, -⟩ := hbd'.cells
  have HBE := Lib.hid hbd'
  clear hbd' CE
  go_upto_region 2 with fail
  have XE := Lib.hid (box_new (W := w2) (g := w2.heap.size) 25 #[.bool r.1.ord, .string r.1.key, .slice FA fn fc, .int .i64 r.1.mat, .slice FA2 fg fc2] (by simp))
  have hba := (below_alloc w2 (.cells #[.bool r.1.ord, .string r.1.key, .slice FA fn fc, .int .i64 r.1.mat, .slice FA2 fg fc2] 25))
  replace XA := Lib.hid (XA.out.below hba)
  replace XT := Lib.hid (XT.out.below hba)
  replace HBE := Lib.hid (HBE.out.below hba)
  replace HB := Lib.hid (below_step HB.out hba)
  clear hba
  generalize w2.alloc (.cells #[.bool r.1.ord, .string r.1.key, .slice FA fn fc, .int .i64 r.1.mat, .slice FA2 fg fc2] 25) = w3 at *
  have XA_0 := XA.out.at_ 0 _ rfl
  have XA_1 := XA.out.at_ 1 _ rfl
  have XA_2 := XA.out.at_ 2 _ rfl
  have XA_3 := XA.out.at_ 3 _ rfl
  have XA_4 := XA.out.at_ 4 _ rfl
  have XT_0 := XT.out.at_ 0 _ rfl
  have XT_1 := XT.out.at_ 1 _ rfl
  go_wp2_with fail
  clear XA_0 XA_1 XA_2 XA_3 XA_4 XT_0 XT_1
  refine (CR.out w3 HB.out).mono ?_; rintro e w4 ⟨v', rfl, hbd', hb⟩
  replace XA := Lib.hid (XA.out.below hb)
  replace XT := Lib.hid (XT.out.below hb)
  replace HBE := Lib.hid (HBE.out.below hb)
  replace XE := Lib.hid (XE.out.below hb)
  replace HB := Lib.hid (below_step HB.out hb)
  clear hb
  obtain ⟨GA, gc, GA2, gc2, gn, gg, rfl, -, -⟩ := hbd'.cells
  have HBR := Lib.hid hbd'
  clear hbd' CR
  go_upto_region 3 with fail
  have XR := Lib.hid (box_new (W := w4) (g := w4.heap.size) 25 #[.bool r.1.ord, .string r.1.key, .slice GA gn gc, .int .i64 r.1.mat, .slice GA2 gg gc2] (by simp))
  have hba := (below_alloc w4 (.cells #[.bool r.1.ord, .string r.1.key, .slice GA gn gc, .int .i64 r.1.mat, .slice GA2 gg gc2] 25))
  replace XA := Lib.hid (XA.out.below hba)
  replace XT := Lib.hid (XT.out.below hba)
  replace HBE := Lib.hid (HBE.out.below hba)
  replace XE := Lib.hid (XE.out.below hba)
  replace HBR := Lib.hid (HBR.out.below hba)
  replace HB := Lib.hid (below_step HB.out hba)
  clear hba
  generalize w4.alloc (.cells #[.bool r.1.ord, .string r.1.key, .slice GA gn gc, .int .i64 r.1.mat, .slice GA2 gg gc2] 25) = w5 at *
  have CS := Lib.hid (fun p : Lat w5 => same_one p.w _ _ r.1 _ _ (HBE.out.below p.h) (HBR.out.below p.h) BZE.out)
  have CNp := Lib.hid (fun p : Lat w5 => CN.out p.w)
  have CN1 := Lib.hid (fun p : Lat w5 => brdNew p.w ord key)
  have CN2 := Lib.hid (fun p : Lat w5 => brrNew p.w ord key)
  have CCp := Lib.hid (fun p : Lat w5 => CC.out p.w)
  have CDp := Lib.hid (fun p : Lat w5 => CD.out p.w)
  have CWp := Lib.hid (fun p : Lat w5 => CW.out p.w (below_step HB.out p.h))
  have a0 := XA.out.lat 0 _ rfl
  have a1 := XA.out.lat 1 _ rfl
  have a2 := XA.out.lat 2 _ rfl
  have a3 := XA.out.lat 3 _ rfl
  have a4 := XA.out.lat 4 _ rfl
  have b0 := XE.out.lat 0 _ rfl
  have b1 := XE.out.lat 1 _ rfl
  have b2 := XE.out.lat 2 _ rfl
  have b3 := XE.out.lat 3 _ rfl
  have b4 := XE.out.lat 4 _ rfl
  have k0 := XR.out.lat 0 _ rfl
  have k1 := XR.out.lat 1 _ rfl
  have k2 := XR.out.lat 2 _ rfl
  have k3 := XR.out.lat 3 _ rfl
  have k4 := XR.out.lat 4 _ rfl
  have q1 : (r.2 == r.2) = true := by simp
  have q2 : (cl == cl) = true := by simp
  clear HBE HBR CN CC CD CW
  refine wp_region_lat (by kernel_rfl) (by kernel_rfl) ?_
  repeat (go_big_quiet_step (first | (with_reducible exact lat_call (CN1.out _)) | (with_reducible exact lat_call (CN2.out _)) | (with_reducible exact lat_call (CNp.out _)) | (with_reducible exact lat_call (CS.out _)) | (with_reducible exact lat_call (CCp.out _)) | (with_reducible exact lat_call (CDp.out _)) | (with_reducible exact lat_call (CWp.out _))))
  refine wpQuiet_nil ?_; intro w6 hb
  clear a0 a1 a2 a3 a4 b0 b1 b2 b3 b4 k0 k1 k2 k3 k4
  replace HB := Lib.hid (below_step HB.out hb)
  clear hb
  go_wp2_with fail
  go_ret
  exact ⟨rfl, HB.out⟩

end Go.Proofs.YtldafnjbgjagiaaDoor

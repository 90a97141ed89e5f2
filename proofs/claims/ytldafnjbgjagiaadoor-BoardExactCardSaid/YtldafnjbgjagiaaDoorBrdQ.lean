/-
  Walk of BoardKeeps.
-/
import Derived.Test.YtldafnjbgjagiaaDoorBrdP
namespace Go.Proofs.YtldafnjbgjagiaaDoor
open Go.RowKit
set_option linter.unusedVariables false
set_option linter.unusedSimpArgs false

theorem keeps_obs {b : Bd} {t : Tx} (h : (obsT b t).2 = 0) : OkB b ∧ OkB (obsT b t).1 ∧ 0 ≤ (obsT b t).1.mat - b.mat ∧ 0 ≤ ((obsT b t).1.wrg.length : Int) - b.wrg.length ∧ ((obsT b t).1.mat - b.mat) + (((obsT b t).1.wrg.length : Int) - b.wrg.length) = 1 ∧
    (obsT b t).1.mat - b.mat ≤ (b.want.length : Int) - (obsT b t).1.want.length ∧ (b.want.length : Int) - (obsT b t).1.want.length ≤ 1 ∧ 0 ≤ (b.want.length : Int) - (obsT b t).1.want.length := by
  have hS : obsS b t = (obsT b t).1 := by unfold obsS; rw [if_pos h]
  rcases obs_ways b t with ⟨c, hc, ha, e⟩ | ⟨ha, hok, htv, hf, e⟩ | ⟨ha, hok, htv, h1, h2, h3, e⟩ | ⟨k, ha, hok, htv, h1, h2, h3, hk, hw⟩
  · rw [e] at h; exact absurd h hc
  · rw [e] at h; simp at h
  · refine ⟨hok, hS ▸ obs_ok hok, ?_⟩
    rw [e]; simp; omega
  · refine ⟨hok, hS ▸ obs_ok hok, ?_⟩
    have hl : (b.want.eraseIdx k).length = b.want.length - 1 := by rw [List.length_eraseIdx, if_pos hk]
    rcases hw with ⟨_, e⟩ | ⟨_, e⟩ <;> rw [e] <;> simp only [hl, List.length_append, List.length_cons, List.length_nil] <;> omega
theorem keeps_exp {b : Bd} {t : Tx} (h : (expT b t).2 = 0) : OkB b ∧ OkB (expT b t).1 ∧ expT b t = ({ b with want := b.want ++ [t] }, 0) ∧ b.want.length < 1024 := by
  have hS : expS b t = (expT b t).1 := by unfold expS; rw [if_pos h]
  rcases exp_ways b t with ⟨c, hc, ha, e⟩ | ⟨ha, hok, htv, hf, e⟩ | ⟨ha, hok, htv, hf, e⟩
  · rw [e] at h; exact absurd h hc
  · rw [e] at h; simp at h
  · exact ⟨hok, hS ▸ exp_ok hok, e, by omega⟩
theorem keeps_fin {b : Bd} (h : OkB b) : OkB (finT b) ∧ (finT b).want.length = 0 ∧ (finT b).mat = b.mat ∧ (finT b).wrg.length = min (b.wrg.length + b.want.length) 1024 := by
  have hf : finT b = { b with want := [], wrg := lossK b b.want.length } := by unfold finT; rw [if_neg (by rw [okb_iff.2 h]; decide)]
  rw [hf]
  have h2 := h.2.1
  have hl : (lossK b b.want.length).length = min (b.wrg.length + b.want.length) 1024 := by rw [loss_len]; omega
  exact ⟨⟨by simp, by show (lossK b b.want.length).length ≤ 1024; omega, h.2.2.1, h.2.2.2.1, fun t ht => by simp at ht⟩, rfl, rfl, hl⟩
theorem okb_of {b : Bd} (h : OkB b) : okB b = true := okb_iff.2 h

set_option maxRecDepth 100000 in
set_option maxHeartbeats 32000000 in
theorem walkBoardKeeps {H : Type} {enc : TypeId × Value → H} {base : Nat} {w : World} (v0 : Value) (d0 : DataW H) (p0 : List MemPlace) (g0 : DataW.Trod enc Tryd.prog w 0 (fun _ => true) true 25 v0 d0 p0) (hv0 : Value.okWide Tryd.prog w .any base 25 v0)
    (v1 : Value) (d1 : DataW H) (p1 : List MemPlace) (g1 : DataW.Trod enc Tryd.prog w 0 (fun _ => true) true 28 v1 d1 p1) (hv1 : Value.okWide Tryd.prog w .any base 28 v1) (ht : Tab w) (hm : MLen w) (hk : KW w) (hr : ∀ n ∈ d0.weights Tryd.prog 25, n ≤ reachBytes) (_ : ∀ n ∈ d1.weights Tryd.prog 28, n ≤ reachBytes) :
    Calls Tryd.prog 7 #[v0, v1] w fun e w' => e = .returned (.bool true) ∧ Below w.heap.size w w' := by
  obtain ⟨b, A1, A2, c1, c2, rfl, h1, h2, -, -, n1, n2, hz, hwt⟩ := arg_board g0 hv0
  obtain ⟨u1, u2, t, rfl, s1, s2, tz⟩ := arg_tx g1 hv1
  obtain ⟨x1, x2, hf⟩ := hwt hr
  clear g0 hv0 g1 hv1 hwt hr
  have HK := Lib.hid hk
  have HM := Lib.hid hm
  have HT := Lib.hid ht
  have CO : Hid (∀ W, Below w.heap.size w W → Calls Tryd.prog 17 #[.agg #[.bool b.ord, .string b.key, .slice A1 b.want.length c1, .int .i64 b.mat, .slice A2 b.wrg.length c2], .agg #[u1, u2]] W (RETB W 0 (obsT b t))) := Lib.hid fun W hW =>
    brdObserve W b t _ _ u1 u2 (h1.below hW) (h2.below hW) (s1.below hW) (s2.below hW) n1 n2 hz tz (hk.below hW) (hm.below hW) (ht.below hW)
  have CE : Hid (∀ W, Below w.heap.size w W → Calls Tryd.prog 9 #[.agg #[.bool b.ord, .string b.key, .slice A1 b.want.length c1, .int .i64 b.mat, .slice A2 b.wrg.length c2], .agg #[u1, u2]] W (RETB W 0 (expT b t))) := Lib.hid fun W hW =>
    brdExpect W b t _ _ u1 u2 (h1.below hW) (h2.below hW) (s1.below hW) (s2.below hW) n1 n2 hz tz (hk.below hW) (hm.below hW)
  have CF : Hid (∀ W, Below w.heap.size w W → Calls Tryd.prog 19 #[.agg #[.bool b.ord, .string b.key, .slice A1 b.want.length c1, .int .i64 b.mat, .slice A2 b.wrg.length c2]] W fun e w' => ∃ v, e = .returned v ∧ BDF w' 0 v (finT b) ∧ Below W.heap.size W w') := Lib.hid fun W hW =>
    brdFinish W b _ _ (h1.below hW) (h2.below hW) (by omega) (by omega) (fun t ht => ⟨hf t ht, hz t ht⟩) (hk.below hW) (hm.below hW) (ht.below hW)
  have CV : Hid (∀ W, Below w.heap.size w W → Calls Tryd.prog 28 #[.agg #[.bool b.ord, .string b.key, .slice A1 b.want.length c1, .int .i64 b.mat, .slice A2 b.wrg.length c2]] W fun e w' => e = .returned (.bool (okB b)) ∧ Below W.heap.size W w') := Lib.hid fun W hW =>
    brrValid W b _ _ (h1.below hW) (h2.below hW) n1 n2 hz
  have CX : Hid (∀ W (C N G c c2 : Nat) (A A2 : Option Addr) (o : Bool) (s : ByteArray) (m : Int) (a : Bd), OkB a → BDF W C (.agg #[.bool o, .string s, .slice A N c, .int .i64 m, .slice A2 G c2]) a → Calls Tryd.prog 28 #[.agg #[.bool o, .string s, .slice A N c, .int .i64 m, .slice A2 G c2]] W fun e w' => e = .returned (.bool true) ∧ Below W.heap.size W w') := Lib.hid fun W C N G c c2 A A2 o s m a hok h => by
    obtain ⟨rfl, rfl, rfl, h1, h2⟩ := h.args
    have := brrValid W a _ _ h1 h2 (by have := hok.1; omega) (by have := hok.2.1; omega) (fun u hu => tz_of (hok.2.2.2.2 u hu).1)
    rwa [okb_of hok] at this
  have CS : Hid (∀ W a1 a2, SL W a1 t.1 → IL W a2 t.2 → Below w.heap.size w W → Calls Tryd.prog 29 #[.agg #[a1, a2], .agg #[u1, u2]] W fun e w' => e = .returned (.bool true) ∧ Below W.heap.size W w') := Lib.hid fun W a1 a2 q1 q2 hW => by
    have := refSame W a1 a2 u1 u2 t.1 t.2 t.1 t.2 q1 q2 (s1.below hW) (s2.below hW) tz.1 tz.2.1 tz.1 tz.2.1
    rwa [show sameT t.1 t.2 t.1 t.2 = true by simp [sameT]] at this
  have KO : Hid ((obsT b t).2 = 0 → _) := Lib.hid fun h => keeps_obs (b := b) (t := t) h
  have KE : Hid ((expT b t).2 = 0 → _) := Lib.hid fun h => keeps_exp (b := b) (t := t) h
  have KF : Hid (OkB b → _) := Lib.hid fun h => keeps_fin (b := b) h
  obtain ⟨B1, e1, rfl, -⟩ := id s1
  obtain ⟨B2, e2, rfl, -⟩ := id s2
  have hok2 : okB b = false ∨ (okB b = true ∧ OkB b) := by
    cases h : okB b
    · exact .inl rfl
    · exact .inr ⟨rfl, okb_iff.1 h⟩
  generalize obsT b t = r at *
  generalize expT b t = x at *
  generalize finT b = fb at *
  obtain ⟨ro, re⟩ := r
  obtain ⟨xo, xe⟩ := x
  clear h1 h2 s1 s2 hz tz hk hm ht x1 x2 hf
  have CW := Lib.hid (fun W (hW : Below w.heap.size w W) => lawAwake W (HK.out.below hW) (HM.out.below hW) (HT.out.below hW))
  obtain ⟨N, hN⟩ : ∃ N, N = b.want.length := ⟨_, rfl⟩
  obtain ⟨G, hG⟩ : ∃ G, G = b.wrg.length := ⟨_, rfl⟩
  have HN := Lib.hid hN
  have HG := Lib.hid hG
  simp only at KO KE
  rw [← hN] at CO CE CF CV n1 ⊢
  rw [← hG] at CO CE CF CV n2 ⊢
  clear hN hG
  generalize hm0 : b.mat = m at CO CE CF CV ⊢
  have HM0 := Lib.hid hm0
  clear hm0
  generalize b.ord = ord at CO CE CF CV ⊢
  generalize b.key = key at CO CE CF CV ⊢
  generalize t.1.length = L1 at CO CE CS ⊢
  generalize t.2.length = L2 at CO CE CS ⊢
  go_enter Tryd.func7, Tryd.ntmps7
  go_upto_region 1 with fail
  have XA := Lib.hid ((box_new (W := w) (g := w.heap.size) 25 #[.bool ord, .string key, .slice A1 N c1, .int .i64 m, .slice A2 G c2] (by simp)).below (below_alloc _ (.cells #[.slice B1 L1 e1, .slice B2 L2 e2] 28)))
  have XT := Lib.hid (box_new (W := (w.alloc (.cells #[.bool ord, .string key, .slice A1 N c1, .int .i64 m, .slice A2 G c2] 25))) (g := w.heap.size + 1) 28 #[.slice B1 L1 e1, .slice B2 L2 e2] (by simp))
  have HB := Lib.hid (below_step (below_alloc w (.cells #[.bool ord, .string key, .slice A1 N c1, .int .i64 m, .slice A2 G c2] 25)) (below_alloc (w.alloc (.cells #[.bool ord, .string key, .slice A1 N c1, .int .i64 m, .slice A2 G c2] 25)) (.cells #[.slice B1 L1 e1, .slice B2 L2 e2] 28)))
  generalize (w.alloc (.cells #[.bool ord, .string key, .slice A1 N c1, .int .i64 m, .slice A2 G c2] 25)).alloc (.cells #[.slice B1 L1 e1, .slice B2 L2 e2] 28) = w1 at *
  have XA_0 := XA.out.at_ 0 _ rfl
  have XA_1 := XA.out.at_ 1 _ rfl
  have XA_2 := XA.out.at_ 2 _ rfl
  have XA_3 := XA.out.at_ 3 _ rfl
  have XA_4 := XA.out.at_ 4 _ rfl
  have XT_0 := XT.out.at_ 0 _ rfl
  have XT_1 := XT.out.at_ 1 _ rfl
  go_wp2_with fail
  clear XA_0 XA_1 XA_2 XA_3 XA_4 XT_0 XT_1
  refine (CO.out w1 HB.out).mono ?_; rintro e w2 ⟨v', rfl, hbd', hb⟩
  replace XA := Lib.hid (XA.out.below hb)
  replace XT := Lib.hid (XT.out.below hb)
  replace HB := Lib.hid (below_step HB.out hb)
  clear hb
  obtain ⟨FA, fc, FA2, fc2, fn, fg, rfl, hfn, hfg⟩ := hbd'.cells
  have HFN := Lib.hid hfn
  have HFG := Lib.hid hfg
  have HBE := Lib.hid hbd'
  clear hbd' CO hfn hfg
  generalize hM : ro.mat = M at HBE ⊢
  have HMM := Lib.hid hM
  clear hM
  generalize ro.ord = ord1 at HBE ⊢
  generalize ro.key = key1 at HBE ⊢
  go_upto_region 2 with fail
  have XE := Lib.hid (box_new (W := w2) (g := w2.heap.size) 25 #[.bool ord1, .string key1, .slice FA fn fc, .int .i64 M, .slice FA2 fg fc2] (by simp))
  have hba := (below_alloc w2 (.cells #[.bool ord1, .string key1, .slice FA fn fc, .int .i64 M, .slice FA2 fg fc2] 25))
  replace XA := Lib.hid (XA.out.below hba)
  replace XT := Lib.hid (XT.out.below hba)
  replace HBE := Lib.hid (HBE.out.below hba)
  replace HB := Lib.hid (below_step HB.out hba)
  clear hba
  generalize w2.alloc (.cells #[.bool ord1, .string key1, .slice FA fn fc, .int .i64 M, .slice FA2 fg fc2] 25) = w3 at *
  have XA_0 := XA.out.at_ 0 _ rfl
  have XA_1 := XA.out.at_ 1 _ rfl
  have XA_2 := XA.out.at_ 2 _ rfl
  have XA_3 := XA.out.at_ 3 _ rfl
  have XA_4 := XA.out.at_ 4 _ rfl
  have XT_0 := XT.out.at_ 0 _ rfl
  have XT_1 := XT.out.at_ 1 _ rfl
  go_wp2_with fail
  clear XA_0 XA_1 XA_2 XA_3 XA_4 XT_0 XT_1
  refine (CE.out w3 HB.out).mono ?_; rintro e w4 ⟨v', rfl, hbd', hb⟩
  replace XA := Lib.hid (XA.out.below hb)
  replace XT := Lib.hid (XT.out.below hb)
  replace HBE := Lib.hid (HBE.out.below hb)
  replace XE := Lib.hid (XE.out.below hb)
  replace HB := Lib.hid (below_step HB.out hb)
  clear hb
  obtain ⟨GA, gc, GA2, gc2, gn, gg, rfl, hgn, hgg⟩ := hbd'.cells
  have HGN := Lib.hid hgn
  have HBR := Lib.hid hbd'
  clear hbd' CE hgn hgg
  generalize hM : xo.mat = M2 at HBR ⊢
  have HM2 := Lib.hid hM
  clear hM
  generalize xo.ord = ord2 at HBR ⊢
  generalize xo.key = key2 at HBR ⊢
  go_upto_region 3 with fail
  have XR := Lib.hid (box_new (W := w4) (g := w4.heap.size) 25 #[.bool ord2, .string key2, .slice GA gn gc, .int .i64 M2, .slice GA2 gg gc2] (by simp))
  have hba := (below_alloc w4 (.cells #[.bool ord2, .string key2, .slice GA gn gc, .int .i64 M2, .slice GA2 gg gc2] 25))
  replace XA := Lib.hid (XA.out.below hba)
  replace XT := Lib.hid (XT.out.below hba)
  replace HBE := Lib.hid (HBE.out.below hba)
  replace XE := Lib.hid (XE.out.below hba)
  replace HBR := Lib.hid (HBR.out.below hba)
  replace HB := Lib.hid (below_step HB.out hba)
  clear hba
  generalize w4.alloc (.cells #[.bool ord2, .string key2, .slice GA gn gc, .int .i64 M2, .slice GA2 gg gc2] 25) = w5 at *
  have hre : (re == 0) = false ∨ ((re == 0) = true ∧ re = 0) := by by_cases h : re = 0 <;> simp [h]
  rcases hre with f0 | ⟨f0, hre⟩
  case' inl =>
    clear KO
    go_upto_region 7 with fail
    rename World => w7
  case' inr =>
    obtain ⟨hok, hok1, g1, g2, g3, g4, g5, g6⟩ := KO.out hre
    have HOK1 := Lib.hid hok1
    rw [HMM.out, HM0.out] at g1 g3 g4
    rw [← HFG.out, ← HG.out] at g2 g3
    rw [← HFN.out, ← HN.out] at g4 g5 g6
    have o1 := hok.1
    have o2 := hok.2.1
    have o3 := hok.2.2.1
    have o4 := hok.2.2.2.1
    rw [HM0.out] at o3 o4
    rw [← HN.out] at o1
    rw [← HG.out] at o2
    have j1 : ¬ M - m < 0 := by omega
    have j2 : ¬ (fg : Int) - G < 0 := by omega
    have j3 : ((M - m) + ((fg : Int) - G) != 1) = false := by rw [g3]; rfl
    have j4 : ¬ (N : Int) - fn < M - m := by omega
    have j5 : ¬ 1 < (N : Int) - fn := by omega
    clear KO hre hok hok1
    go_upto_region 4 with fail
    have b2 := XE.out.lat 2 _ rfl
    have b3 := XE.out.lat 3 _ rfl
    have b4 := XE.out.lat 4 _ rfl
    have a2 := XA.out.lat 2 _ rfl
    have a3 := XA.out.lat 3 _ rfl
    have a4 := XA.out.lat 4 _ rfl
    refine wp_region_lat (by kernel_rfl) (by kernel_rfl) ?_
    repeat (go_big_quiet_step (fail))
    refine wpQuiet_nil ?_; intro w6 hb
    clear a2 a3 a4 b2 b3 b4
    replace XA := Lib.hid (XA.out.below hb)
    replace XT := Lib.hid (XT.out.below hb)
    replace HBE := Lib.hid (HBE.out.below hb)
    replace XE := Lib.hid (XE.out.below hb)
    replace HBR := Lib.hid (HBR.out.below hb)
    replace XR := Lib.hid (XR.out.below hb)
    replace HB := Lib.hid (below_step HB.out hb)
    clear hb
    have XE_0 := XE.out.at_ 0 _ rfl
    have XE_1 := XE.out.at_ 1 _ rfl
    have XE_2 := XE.out.at_ 2 _ rfl
    have XE_3 := XE.out.at_ 3 _ rfl
    have XE_4 := XE.out.at_ 4 _ rfl
    go_wp2_with fail
    clear XE_0 XE_1 XE_2 XE_3 XE_4
    refine (CX.out w6 _ _ _ _ _ _ _ _ _ _ _ HOK1.out HBE.out).mono ?_; rintro e w7 ⟨rfl, hb⟩
    replace XA := Lib.hid (XA.out.below hb)
    replace XT := Lib.hid (XT.out.below hb)
    replace HBE := Lib.hid (HBE.out.below hb)
    replace XE := Lib.hid (XE.out.below hb)
    replace HBR := Lib.hid (HBR.out.below hb)
    replace XR := Lib.hid (XR.out.below hb)
    replace HB := Lib.hid (below_step HB.out hb)
    clear hb
    go_upto_region 7 with fail
    clear HOK1 g1 g2 g3 g4 g5 g6 o1 o2 o3 o4 j1 j2 j3 j4 j5
  all_goals
    have hxe : (xe == 0) = false ∨ ((xe == 0) = true ∧ xe = 0) := by by_cases h : xe = 0 <;> simp [h]
    clear HBE XE HFN HFG HMM f0
    rcases hxe with f7 | ⟨f7, hxe⟩
    case' inl =>
      refine wp_region_lat (by kernel_rfl) (by kernel_rfl) ?_
      repeat (go_big_quiet_step (fail))
      refine wpQuiet_nil ?_; intro w8 hb
      replace XA := Lib.hid (XA.out.below hb)
      replace XT := Lib.hid (XT.out.below hb)
      replace HBR := Lib.hid (HBR.out.below hb)
      replace XR := Lib.hid (XR.out.below hb)
      replace HB := Lib.hid (below_step HB.out hb)
      clear hb
    case' inr =>
      obtain ⟨hok, hok1, hx, hn⟩ := KE.out hxe
      obtain ⟨hxo, -⟩ := Prod.mk.inj hx
      have HOK2 := Lib.hid hok1
      have hw : xo.want = b.want ++ [t] := by rw [hxo]
      have hgn : gn = N + 1 := by rw [HGN.out, hw, HN.out, List.length_append]; rfl
      have hmm : M2 = m := by rw [← HM2.out, ← HM0.out, hxo]
      have hget : xo.want.getD N tx0 = t := by rw [hw, HN.out, List.getD_eq_getElem?_getD, List.getElem?_append_right (Nat.le_refl _), Nat.sub_self]; rfl
      rw [← HN.out] at hn
      obtain ⟨-, -, -, hrs, -⟩ := HBR.out.args
      obtain ⟨A', c', e', -, hX⟩ := hrs.txs
      simp only [Value.slice.injEq] at e'
      obtain ⟨rfl, -, rfl⟩ := e'
      obtain ⟨q, p, y1, y2, rfl, hql, q1, q2, z1, z2, -⟩ := hX N (by rw [hw, List.length_append, ← HN.out]; exact Nat.lt_succ_self N)
      rw [hget] at z1 z2
      have VP := Lib.hid (fun p : Lat w7 => CX.out p.w _ _ _ _ _ _ _ _ _ _ _ HOK2.out (HBR.out.below p.h))
      have SP := Lib.hid (fun p : Lat w7 => CS.out p.w _ _ (z1.below p.h) (z2.below p.h) (below_step HB.out p.h))
      obtain ⟨Y1, d1, rfl, -⟩ := id z1
      obtain ⟨Y2, d2, rfl, -⟩ := id z2
      have i1 : ∀ x : Lat w7, x.w.cell? ⟨q, p + N * 2, none⟩ = _ := fun x => (x.h.cell (p := ⟨q, p + N * 2, none⟩) hql).trans q1
      have i2 : ∀ x : Lat w7, x.w.cell? ⟨q, p + N * 2 + 1, none⟩ = _ := fun x => (x.h.cell (p := ⟨q, p + N * 2 + 1, none⟩) hql).trans q2
      have j1 : ((gn : Int) != (N : Int) + 1) = false := by rw [hgn]; simp
      have j2 : (M2 != m) = false := by rw [hmm]; simp
      have j3 : (N : Int) < gn := by omega
      have j4 : (0 : Int) ≤ (N : Int) := by omega
      generalize t.1.length = L3 at i1 i2 VP SP
      generalize t.2.length = L4 at i1 i2 VP SP
      clear z1 z2 q1 q2 hX hrs hget hw hx hxo hok hok1 hxe hmm hgn
      have k0 := XR.out.lat 0 _ rfl
      have k1 := XR.out.lat 1 _ rfl
      have k2 := XR.out.lat 2 _ rfl
      have k3 := XR.out.lat 3 _ rfl
      have k4 := XR.out.lat 4 _ rfl
      have a2 := XA.out.lat 2 _ rfl
      have a3 := XA.out.lat 3 _ rfl
      have t0 := XT.out.lat 0 _ rfl
      have t1 := XT.out.lat 1 _ rfl
      refine wp_region_lat (by kernel_rfl) (by kernel_rfl) ?_
      repeat (go_big_quiet_step (first | (with_reducible exact lat_call (VP.out _)) | (with_reducible exact lat_call (SP.out _))))
      refine wpQuiet_nil ?_; intro w8 hb
      replace XA := Lib.hid (XA.out.below hb)
      replace XT := Lib.hid (XT.out.below hb)
      replace HBR := Lib.hid (HBR.out.below hb)
      replace XR := Lib.hid (XR.out.below hb)
      replace HB := Lib.hid (below_step HB.out hb)
      clear hb
      clear k0 k1 k2 k3 k4 a2 a3 t0 t1 i1 i2 VP SP j1 j2 j3 j4 hql hn HOK2
  all_goals
    clear f7 XT XR HBR HGN HM2 KE CS
    have XA_0 := XA.out.at_ 0 _ rfl
    have XA_1 := XA.out.at_ 1 _ rfl
    have XA_2 := XA.out.at_ 2 _ rfl
    have XA_3 := XA.out.at_ 3 _ rfl
    have XA_4 := XA.out.at_ 4 _ rfl
    go_wp2_with fail
    clear XA_0 XA_1 XA_2 XA_3 XA_4
    refine (CF.out w8 HB.out).mono ?_; rintro e w9 ⟨v', rfl, hbd', hb⟩
    replace XA := Lib.hid (XA.out.below hb)
    replace HB := Lib.hid (below_step HB.out hb)
    clear hb
    obtain ⟨DA, dc, DA2, dc2, dn, dg, rfl, hdn, hdg⟩ := hbd'.cells
    have HBF := Lib.hid hbd'
    have HDN := Lib.hid hdn
    have HDG := Lib.hid hdg
    clear hbd' CF hdn hdg
    generalize hM : fb.mat = M3 at HBF ⊢
    have HM3 := Lib.hid hM
    clear hM
    generalize fb.ord = ord3 at HBF ⊢
    generalize fb.key = key3 at HBF ⊢
    go_upto_region 10 with fail
    have XD := Lib.hid (box_new (W := w9) (g := w9.heap.size) 25 #[.bool ord3, .string key3, .slice DA dn dc, .int .i64 M3, .slice DA2 dg dc2] (by simp))
    have hba := (below_alloc w9 (.cells #[.bool ord3, .string key3, .slice DA dn dc, .int .i64 M3, .slice DA2 dg dc2] 25))
    replace XA := Lib.hid (XA.out.below hba)
    replace HBF := Lib.hid (HBF.out.below hba)
    replace HB := Lib.hid (below_step HB.out hba)
    clear hba
    generalize w9.alloc (.cells #[.bool ord3, .string key3, .slice DA dn dc, .int .i64 M3, .slice DA2 dg dc2] 25) = w10 at *
    have XA_0 := XA.out.at_ 0 _ rfl
    have XA_1 := XA.out.at_ 1 _ rfl
    have XA_2 := XA.out.at_ 2 _ rfl
    have XA_3 := XA.out.at_ 3 _ rfl
    have XA_4 := XA.out.at_ 4 _ rfl
    rcases hok2 with fo | ⟨fo, hok⟩
    case' inl =>
      rw [fo] at CV
      go_wp2_with fail
      clear XA_0 XA_1 XA_2 XA_3 XA_4
      refine (CV.out w10 HB.out).mono ?_; rintro e w11 ⟨rfl, hb⟩
      replace XA := Lib.hid (XA.out.below hb)
      replace HBF := Lib.hid (HBF.out.below hb)
      replace XD := Lib.hid (XD.out.below hb)
      replace HB := Lib.hid (below_step HB.out hb)
      clear hb
      go_wp2_with fail
    case' inr =>
      rw [fo] at CV
      obtain ⟨h1, h2, h3, h4⟩ := KF.out hok
      have HOK := Lib.hid h1
      rw [← HDN.out] at h2
      rw [HM3.out, HM0.out] at h3
      rw [← HDG.out, ← HG.out, ← HN.out] at h4
      have o1 := hok.1
      have o2 := hok.2.1
      rw [← HN.out] at o1
      rw [← HG.out] at o2
      clear h1 hok KF
      have j1 : ((dn : Int) == 0) = true := by rw [h2]; rfl
      have j2 : (M3 == m) = true := by rw [h3]; simp
      have e3 : (dg : Int) = min ((G : Int) + N) 1024 := by omega
      have j3 : ((dg : Int) == min ((G : Int) + N) 1024) = true := by rw [e3]; simp
      clear e3
      clear h2 h3 h4
      go_wp2_with fail
      clear XA_0 XA_1 XA_2 XA_3 XA_4
      refine (CV.out w10 HB.out).mono ?_; rintro e w11 ⟨rfl, hb⟩
      replace XA := Lib.hid (XA.out.below hb)
      replace HBF := Lib.hid (HBF.out.below hb)
      replace XD := Lib.hid (XD.out.below hb)
      replace HB := Lib.hid (below_step HB.out hb)
      clear hb
      have XD_0 := XD.out.at_ 0 _ rfl
      have XD_1 := XD.out.at_ 1 _ rfl
      have XD_2 := XD.out.at_ 2 _ rfl
      have XD_3 := XD.out.at_ 3 _ rfl
      have XD_4 := XD.out.at_ 4 _ rfl
      have XA_0 := XA.out.at_ 0 _ rfl
      have XA_1 := XA.out.at_ 1 _ rfl
      have XA_2 := XA.out.at_ 2 _ rfl
      have XA_3 := XA.out.at_ 3 _ rfl
      have XA_4 := XA.out.at_ 4 _ rfl
      go_wp2_with fail
      clear XD_0 XD_1 XD_2 XD_3 XD_4 XA_0 XA_1 XA_2 XA_3 XA_4
      refine (CX.out w11 _ _ _ _ _ _ _ _ _ _ _ HOK.out HBF.out).mono ?_; rintro e w12 ⟨rfl, hb⟩
      replace XA := Lib.hid (XA.out.below hb)
      replace HBF := Lib.hid (HBF.out.below hb)
      replace XD := Lib.hid (XD.out.below hb)
      replace HB := Lib.hid (below_step HB.out hb)
      clear hb
      have XD_0 := XD.out.at_ 0 _ rfl
      have XD_1 := XD.out.at_ 1 _ rfl
      have XD_2 := XD.out.at_ 2 _ rfl
      have XD_3 := XD.out.at_ 3 _ rfl
      have XD_4 := XD.out.at_ 4 _ rfl
      have XA_0 := XA.out.at_ 0 _ rfl
      have XA_1 := XA.out.at_ 1 _ rfl
      have XA_2 := XA.out.at_ 2 _ rfl
      have XA_3 := XA.out.at_ 3 _ rfl
      have XA_4 := XA.out.at_ 4 _ rfl
      go_wp2_with fail
      clear XD_0 XD_1 XD_2 XD_3 XD_4 XA_0 XA_1 XA_2 XA_3 XA_4
  all_goals
    refine (CW.out _ HB.out).mono ?_; rintro e w13 ⟨rfl, hb⟩
    replace HB := Lib.hid (below_step HB.out hb)
    clear hb
    go_wp2_with fail
    go_ret
    exact ⟨rfl, HB.out⟩

end Go.Proofs.YtldafnjbgjagiaaDoor

/-
  Contract of the reference's Run.
-/
import Derived.Test.YtldafnjbgjagiaaDoorBrrF
import Derived.Test.YtldafnjbgjagiaaDoorLate
namespace Go.Proofs.YtldafnjbgjagiaaDoor
open Go.RowKit
set_option linter.unusedVariables false
set_option linter.unusedSimpArgs false

theorem BDF.setBox {w : World} {C g : Nat} {v : Value} {b : Bd} {cs : Array Value} {T : TypeId} (h : BDF w C v b) (hx : Box w g cs T) (hT : T ∉ tsB) (hC : C ≤ g) (_ : True) (i : Nat) (u : Value) : BDF (w.setCell ⟨g, i, none⟩ u) C v b := h.set hx hT hC
theorem allocBoard : AllocRun Tryd.prog 25 #[.bool false, .string ⟨#[]⟩, .slice none 0 0, .int .i64 0, .slice none 0 0] := fun o ho a w => by
  simp [execOp, ho, go_sem]
/-- A fresh board and a number. -/
def gBd (j : Nat) (D : List Nat) (C : Nat) (r : Bd × Int) : FOp := ⟨j, D, fun v => ∃ A c A2 c2, v = .tuple #[.agg #[.bool r.1.ord, .string r.1.key, .slice A r.1.want.length c, .int .i64 r.1.mat, .slice A2 r.1.wrg.length c2], .int .i64 r.2], fun v w => ∃ u, v = .tuple #[u, .int .i64 r.2] ∧ BDF w C u r.1⟩
theorem gBd_st (j : Nat) (D : List Nat) (C : Nat) (r : Bd × Int) : ∀ u w w', (gBd j D C r).Φ u w → Below w.heap.size w w' → (gBd j D C r).Φ u w' := fun u w w' ⟨v, e, h⟩ hb => ⟨v, e, h.below hb⟩
theorem gBd_kn (j : Nat) (D : List Nat) (C : Nat) (r : Bd × Int) : (∀ u w, (gBd j D C r).Φ u w → (gBd j D C r).S u) ∧ ∃ u, (gBd j D C r).S u := ⟨fun u w ⟨v, e, h⟩ => by
  obtain ⟨A, c, A2, c2, rfl, _⟩ := h.rd
  exact ⟨A, c, A2, c2, e⟩, _, none, 0, none, 0, rfl⟩
theorem gbd_at {v u : Value} {w : World} {C : Nat} {r : Bd × Int} {k : Int} (e : v = .tuple #[u, .int .i64 k]) (h : ∃ u, v = .tuple #[u, .int .i64 r.2] ∧ BDF w C u r.1) : BDF w C u r.1 := by
  obtain ⟨u', e', h⟩ := h
  rw [e] at e'
  simp at e'
  rw [e'.1]; exact h
/-- A step of a run of the reference, as a contract over whatever the board's value. -/
def RSTEP (f : FuncId) (F : Bd → Tx → Bd × Int) (b : Bd) (t : Tx) (D0 : Nat) (w : World) : Prop := ∀ W (o : Bool) (s : ByteArray) (m : Int) (A A2 : Option Addr) (N G c c2 : Nat) (v1 v2 : Value), BDF W D0 (.agg #[.bool o, .string s, .slice A N c, .int .i64 m, .slice A2 G c2]) b → txR.R W [v1, v2] t (Ty W D0 txR.ts) → Below w.heap.size w W →
  Calls Tryd.prog f #[.agg #[.bool o, .string s, .slice A N c, .int .i64 m, .slice A2 G c2], .agg #[v1, v2]] W (RETB W D0 (F b t))
theorem rstep_exp {w : World} {b : Bd} {t : Tx} {D0 : Nat} (hok : OkB b) (tz : TZ t) (hC : D0 ≤ w.heap.size) : RSTEP 10 expT b t D0 w := fun W o s m A A2 N G c c2 v1 v2 h st hW => by
  obtain ⟨rfl, rfl, rfl, rfl, rfl, h1, h2⟩ := h.rdF
  exact brrExpect W b t D0 A A2 c c2 v1 v2 h1 h2 st (Nat.le_trans hC hW.size) (by have := hok.1; omega) (by have := hok.2.1; omega) (fun u hu => tz_of (hok.2.2.2.2 u hu).1) tz
theorem rstep_obs {w : World} {b : Bd} {t : Tx} {D0 : Nat} (hok : OkB b) (tz : TZ t) (hC : D0 ≤ w.heap.size) : RSTEP 18 obsT b t D0 w := fun W o s m A A2 N G c c2 v1 v2 h st hW => by
  obtain ⟨rfl, rfl, rfl, rfl, rfl, h1, h2⟩ := h.rdF
  obtain ⟨u1, u2, e, s1, s2, _⟩ := st
  obtain ⟨rfl, rfl⟩ : v1 = u1 ∧ v2 = u2 := by simpa using e
  exact brrObserve W b t D0 A A2 c c2 v1 v2 h1 h2 s1 s2 (Nat.le_trans hC hW.size) (by have := hok.1; omega) (by have := hok.2.1; omega) (fun u hu => tz_of (hok.2.2.2.2 u hu).1) tz
theorem rstep_fin {w W : World} {b : Bd} {D0 : Nat} {o : Bool} {s : ByteArray} {m : Int} {A A2 : Option Addr} {N G c c2 : Nat} (hok : OkB b) (h : BDF W D0 (.agg #[.bool o, .string s, .slice A N c, .int .i64 m, .slice A2 G c2]) b) (hC : D0 ≤ w.heap.size) (hW : Below w.heap.size w W) :
    Calls Tryd.prog 20 #[.agg #[.bool o, .string s, .slice A N c, .int .i64 m, .slice A2 G c2]] W fun e w' => ∃ v, e = .returned v ∧ BDF w' D0 v (finT b) ∧ Below W.heap.size W w' := by
  obtain ⟨rfl, rfl, rfl, rfl, rfl, h1, h2⟩ := h.rdF
  exact brrFinish W b D0 A A2 c c2 h1 h2 (Nat.le_trans hC hW.size) (by have := hok.1; omega) (by have := hok.2.1; omega) (fun u hu => tz_of (hok.2.2.2.2 u hu).1)
theorem rs_txF {w : World} {v : Value} {ts : List Tx} {F : Nat → Prop} (h : Rs txR w v ts F) : ∃ (A : Option Addr) (c : Nat), v = .slice A ts.length c ∧ ts.length ≤ c ∧ ∀ k, k < ts.length → ∃ b o u1 u2, A = some ⟨b, o, none⟩ ∧ b < w.heap.size ∧ w.cell? ⟨b, o + k * 2, none⟩ = some u1 ∧ w.cell? ⟨b, o + k * 2 + 1, none⟩ = some u2 ∧ txR.R w [u1, u2] (ts.getD k tx0) F := by
  obtain ⟨A, c, rfl, hc, h⟩ := h.txs
  refine ⟨A, c, rfl, hc, fun k hk => ?_⟩
  obtain ⟨b, o, u1, u2, rfl, hb, q1, q2, s1, s2, s3, s4⟩ := h k hk
  exact ⟨b, o, u1, u2, rfl, hb, q1, q2, u1, u2, rfl, s1, s2, s3, s4⟩

set_option maxRecDepth 100000 in
set_option maxHeartbeats 16000000 in
theorem brrRun (w : World) (o : Bool) (s : ByteArray) (wv gv : Value) (ws gs : List Tx) (D0 : Nat) (h1 : Rs txR w wv ws (Ty w D0 txR.ts)) (h2 : Rs txR w gv gs (Ty w D0 txR.ts)) (hC : D0 ≤ w.heap.size) (n1 : ws.length ≤ 9223372036854775807) (n2 : gs.length ≤ 9223372036854775807) (hz1 : ∀ t ∈ ws, TZ t) (hz2 : ∀ t ∈ gs, TZ t) :
    Calls Tryd.prog 23 #[.bool o, .string s, wv, gv] w fun e w' => ∃ v, e = .returned v ∧ BDF w' D0 v (runT o s ws gs) ∧ Below w.heap.size w w' := by
  have HX1 := Lib.hid (rs_txF h1)
  have HX2 := Lib.hid (rs_txF h2)
  have HCW := Lib.hid hC
  obtain ⟨A1, c1, rfl, -⟩ := h1.slice
  obtain ⟨A2, c2, rfl, -⟩ := h2.slice
  obtain ⟨b0, hb0⟩ : ∃ b0 : Bd, b0 = ⟨o, s, [], 0, []⟩ := ⟨_, rfl⟩
  have ok0 : OkB b0 := by rw [hb0]; exact new_ok o s
  have CE : Hid (∀ k, k < ws.length → RSTEP 10 expT ((ws.take k).foldl expS b0) (ws.getD k tx0) D0 w) := Lib.hid fun k hk2 => rstep_exp (fold_exp_ok ok0) (hz1 _ (getD_mem tx0 hk2)) hC
  have okw : OkB (ws.foldl expS b0) := fold_exp_ok ok0
  have CO : Hid (∀ k, k < gs.length → RSTEP 18 obsT ((gs.take k).foldl obsS (ws.foldl expS b0)) (gs.getD k tx0) D0 w) := Lib.hid fun k hk2 => rstep_obs (fold_obs_ok okw) (hz2 _ (getD_mem tx0 hk2)) hC
  have CF : Hid (∀ W v (o : Bool) (s : ByteArray) (m : Int) (A A2 : Option Addr) (N G c c2 : Nat), v = Value.agg #[.bool o, .string s, .slice A N c, .int .i64 m, .slice A2 G c2] → BDF W D0 v (gs.foldl obsS (ws.foldl expS b0)) → Below w.heap.size w W → Calls Tryd.prog 20 #[v] W fun e w' => ∃ v, e = .returned v ∧ BDF w' D0 v (finT (gs.foldl obsS (ws.foldl expS b0))) ∧ Below W.heap.size W w') := Lib.hid fun W v o s m A A2 N G c c2 e h hW => by
    subst e
    exact rstep_fin (fold_obs_ok okw) h hC hW
  have HS1 := Lib.hid (fun k h => foldB_snoc expS b0 ws k h)
  have HS2 := Lib.hid (fun k h => foldB_snoc obsS (ws.foldl expS b0) gs k h)
  have HR : Hid (runT o s ws gs = finT (gs.foldl obsS (ws.foldl expS b0))) := Lib.hid (by rw [hb0]; rfl)
  have HN0 := Lib.hid (fun (W : World) => (show BDF W D0 (.agg #[.bool o, .string s, .slice none 0 0, .int .i64 0, .slice none 0 0]) b0 by rw [hb0]; exact BDF.nil W _ o s))
  have CN := Lib.hid (fun W => brrNew W o s)
  generalize runT o s ws gs = r at *
  obtain ⟨N, hN⟩ : ∃ N, N = ws.length := ⟨_, rfl⟩
  obtain ⟨M, hM⟩ : ∃ M, M = gs.length := ⟨_, rfl⟩
  have HN := Lib.hid hN
  have HM := Lib.hid hM
  rw [← hN] at n1 ⊢
  rw [← hM] at n2 ⊢
  clear h1 h2 hz1 hz2 hN hM ok0 okw hb0 hC
  go_enter Tryd.func23, Tryd.ntmps23
  go_wp2_with fail
  have XR := Lib.hid (box_new (W := w) (g := w.heap.size) 25 #[.bool false, .string ⟨#[]⟩, .slice none 0 0, .int .i64 0, .slice none 0 0] (by simp))
  have HB := Lib.hid (below_alloc w (.cells #[.bool false, .string ⟨#[]⟩, .slice none 0 0, .int .i64 0, .slice none 0 0] 25))
  generalize w.alloc (.cells #[.bool false, .string ⟨#[]⟩, .slice none 0 0, .int .i64 0, .slice none 0 0] 25) = w1 at *
  refine (CN.out _).mono ?_; rintro e w2 ⟨rfl, hb⟩
  replace XR := Lib.hid (XR.out.below hb)
  replace HB := Lib.hid (below_step HB.out hb)
  clear hb
  have HL2 := Lib.hid XR.out.lt
  go_upto_region 2 with fail
  have XB := Lib.hid (box_new (W := w2) (g := w2.heap.size) 25 #[.bool o, .string s, .slice none 0 0, .int .i64 0, .slice none 0 0] (by simp))
  have hba := (below_alloc w2 (.cells #[.bool o, .string s, .slice none 0 0, .int .i64 0, .slice none 0 0] 25))
  replace XR := Lib.hid (XR.out.below hba)
  replace HB := Lib.hid (below_step HB.out hba)
  clear hba
  generalize w2.alloc (.cells #[.bool o, .string s, .slice none 0 0, .int .i64 0, .slice none 0 0] 25) = w3 at *
  go_wp2_with fail
  go_loopw [10, 12] (fun i _ wr => ∃ (k : Nat) (bo : Bool) (bs : ByteArray) (bm : Int) (A A2 : Option Addr) (bn bg c c2 : Nat), k ≤ N ∧ i = .int .i64 k ∧ BDF wr D0 (.agg #[.bool bo, .string bs, .slice A bn c, .int .i64 bm, .slice A2 bg c2]) ((ws.take k).foldl expS b0) ∧ Box wr w.heap.size #[.bool false, .string ⟨#[]⟩, .slice none 0 0, .int .i64 0, .slice none 0 0] 25 ∧ Box wr w2.heap.size #[.bool bo, .string bs, .slice A bn c, .int .i64 bm, .slice A2 bg c2] 25 ∧ Below w.heap.size w wr) (fun i _ _ => N - (intOf i).toNat)
  case atStart => exact ⟨0, o, s, 0, none, none, 0, 0, 0, 0, Nat.zero_le _, rfl, HN0.out _, XR.out, XB.out, HB.out⟩
  case round =>
    clear XR XB HB
    obtain ⟨k, bo, bs, bm, BA, BA2, bn, bg, bc, bc2, hk, rfl, hbd, hxr, hxb, hb⟩ := hrel
    have HBD := Lib.hid hbd
    have XR := Lib.hid hxr
    have XB := Lib.hid hxb
    have HB := Lib.hid hb
    clear hbd hxr hxb hb
    by_cases hlt : k < N
    · have hlt2 : (k : Int) < N := by omega
      have hk0 : (0 : Int) ≤ (k : Int) := by omega
      have hkn : k < ws.length := by rw [← HN.out]; exact hlt
      obtain ⟨A', c', eA, -, hX⟩ := HX1.out
      simp only [Value.slice.injEq] at eA
      obtain ⟨rfl, -, rfl⟩ := eA
      obtain ⟨q, p, u1, u2, rfl, hql, q1, q2, hst⟩ := hX k hkn
      have ST := Lib.hid (fun W (hW : Below w.heap.size w W) => txr_move hst hW)
      have m1 : ∀ x : Lat wr, x.w.cell? ⟨q, p + k * 2, none⟩ = _ := fun x => ((below_step HB.out x.h).cell (p := ⟨q, p + k * 2, none⟩) hql).trans q1
      have m2 : ∀ x : Lat wr, x.w.cell? ⟨q, p + k * 2 + 1, none⟩ = _ := fun x => ((below_step HB.out x.h).cell (p := ⟨q, p + k * 2 + 1, none⟩) hql).trans q2
      obtain ⟨u1', u2', he, x1, x2, _, _⟩ := id hst
      obtain ⟨rfl, rfl⟩ : u1 = u1' ∧ u2 = u2' := by simpa using he
      obtain ⟨E1, e1, rfl, -⟩ := id x1
      obtain ⟨E2, e2, rfl, -⟩ := id x2
      have CS := Lib.hid (CE.out k hkn)
      have HST := Lib.hid (HS1.out k hkn)
      unfold RSTEP at CS
      generalize (ws.getD k tx0).1.length = L1 at *
      generalize (ws.getD k tx0).2.length = L2 at *
      generalize ws.getD k tx0 = t at *
      generalize (ws.take k).foldl expS b0 = b at *
      have hfs : Hid (expS b t = if (expT b t).2 = 0 then (expT b t).1 else b) := Lib.hid rfl
      generalize expT b t = res at *
      have HBR := HB
      have HBDr := HBD
      clear x1 x2 hX hql hkn q1 q2 he hst
      go_wp2_with fail
      have hbds := HBD.out
      refine wp_region_late 8 10 10 (Kit.of [gBd 5 [] D0 res, gBox 9 [] wr.heap.size #[.bool false, .string ⟨#[]⟩, .slice none 0 0, .int .i64 0, .slice none 0 0] 25]) (by kernel_rfl) (by kernel_rfl) (by decide) (by kernel_rfl) (fun γ => by kernel_rfl) (by kernel_rfl) (Kit.of_stable ?_) (Kit.of_known ?_) ?_
      · intro z hz; simp only [List.mem_cons, List.not_mem_nil, or_false] at hz; rcases hz with rfl | rfl
        · apply gBd_st
        · apply gBox_st
      · intro z hz; simp only [List.mem_cons, List.not_mem_nil, or_false] at hz; rcases hz with rfl | rfl
        · apply gBd_kn
        · apply gBox_kn
      intro γ hγ C hC hne
      obtain ⟨FA, fc, FA2, fc2, e5⟩ : ∃ A c A2 c2, γ 5 = .tuple #[.agg #[.bool res.1.ord, .string res.1.key, .slice A res.1.want.length c, .int .i64 res.1.mat, .slice A2 res.1.wrg.length c2], .int .i64 res.2] := hγ 5 rfl
      obtain ⟨g9, e9⟩ : ∃ g, γ 9 = .pointer (some ⟨g, 0, none⟩) := hγ 9 rfl
      have l0 := XB.out.latC (C := C) 0 _ rfl
      have l1 := XB.out.latC (C := C) 1 _ rfl
      have l2 := XB.out.latC (C := C) 2 _ rfl
      have l3 := XB.out.latC (C := C) 3 _ rfl
      have l4 := XB.out.latC (C := C) 4 _ rfl
      have m3 := fun p : LatC wr C => m1 ⟨p.w, p.h⟩
      have m4 := fun p : LatC wr C => m2 ⟨p.w, p.h⟩
      simp only at m3 m4
      clear m1 m2 hbds
      simp only [List.take_succ_cons, List.take_zero, List.drop_succ_cons, List.drop_zero]
      iterate 5 (refine wpF_quiet rfl ?_; go_big_quiet_step (fail); refine wpQuiet_nil ?_)
      refine wpF_fresh rfl (freshAt_call (args := #[.agg #[.bool bo, .string bs, .slice BA bn bc, .int .i64 bm, .slice BA2 bg bc2], .agg #[.slice E1 L1 e1, .slice E2 L2 e2]]) rfl _ _ _ (run_go Tryd.func10 (by kernel_rfl) (by kernel_rfl)) rfl (by simp [Act.eval]) (fun w' hb hf => (CS.out w' _ _ _ _ _ _ _ _ _ _ _ (HBDr.out.below hb) (ST.out _ (below_step HBR.out hb)) (below_step HBR.out hb)).mono fun e w2 ⟨v, he, h1, h2⟩ => ⟨_, he, ⟨v, rfl, h1⟩, h2⟩)) ?_
      simp only [Nat.zero_add, Nat.reduceAdd, e5]
      go_simp
      iterate 3 (refine wpF_quiet rfl ?_; go_big_quiet_step (fail); refine wpQuiet_nil ?_)
      refine wpF_fresh rfl (freshAt_alloc rfl rfl allocBoard (fun w' g hg hx => ⟨g, rfl, hx, hg⟩)) ?_
      simp only [Nat.zero_add, Nat.reduceAdd, e9]
      go_simp
      intro w6 hb hF
      have HNX := Lib.hid (gbd_at e5 (hF 5 (by decide) rfl))
      obtain ⟨Y9, hg9⟩ := gbox_at e9 (hF 9 (by decide) rfl)
      have XN := Lib.hid Y9
      have hbl := hb.size
      replace HBD := Lib.hid (HBD.out.below hb)
      have hlx := XB.out.lt
      have hlr := XR.out.lt
      have hl2 := HL2.out
      have hcw := HCW.out
      have hbs := HB.out.size
      clear l0 l1 l2 l3 l4 m3 m4 hF hγ hC hne e5 e9 Y9 CS HBR HBDr
      replace XR := Lib.hid (XR.out.below hb)
      replace XB := Lib.hid (XB.out.below hb)
      replace HB := Lib.hid (below_step HB.out hb)
      clear hb
      obtain ⟨⟨rord, rkey, rwant, rmat, rwrg⟩, re⟩ := res
      simp only at *
      obtain ⟨fn, hfn⟩ : ∃ n, n = rwant.length := ⟨_, rfl⟩
      obtain ⟨fg, hfg⟩ : ∃ n, n = rwrg.length := ⟨_, rfl⟩
      rw [← hfn, ← hfg] at HNX ⊢
      clear hfn hfg
      have XN' := Lib.hid (((((XN.out.set_ 0 (.bool rord)).set_ 1 (.string rkey)).set_ 2 (.slice FA fn fc)).set_ 3 (.int .i64 rmat)).set_ 4 (.slice FA2 fg fc2))
      have XR' := Lib.hid (((((XR.out.setNe (p := ⟨g9, 0, none⟩) (by show g9 ≠ _; first | omega | (exact boxes_apart XN.out XR.out (by decide))) (.bool rord)).setNe (p := ⟨g9, 1, none⟩) (by show g9 ≠ _; first | omega | (exact boxes_apart XN.out XR.out (by decide))) (.string rkey)).setNe (p := ⟨g9, 2, none⟩) (by show g9 ≠ _; first | omega | (exact boxes_apart XN.out XR.out (by decide))) (.slice FA fn fc)).setNe (p := ⟨g9, 3, none⟩) (by show g9 ≠ _; first | omega | (exact boxes_apart XN.out XR.out (by decide))) (.int .i64 rmat)).setNe (p := ⟨g9, 4, none⟩) (by show g9 ≠ _; first | omega | (exact boxes_apart XN.out XR.out (by decide))) (.slice FA2 fg fc2))
      have XB' := Lib.hid (((((XB.out.setNe (p := ⟨g9, 0, none⟩) (by show g9 ≠ _; first | omega | (exact boxes_apart XN.out XB.out (by decide))) (.bool rord)).setNe (p := ⟨g9, 1, none⟩) (by show g9 ≠ _; first | omega | (exact boxes_apart XN.out XB.out (by decide))) (.string rkey)).setNe (p := ⟨g9, 2, none⟩) (by show g9 ≠ _; first | omega | (exact boxes_apart XN.out XB.out (by decide))) (.slice FA fn fc)).setNe (p := ⟨g9, 3, none⟩) (by show g9 ≠ _; first | omega | (exact boxes_apart XN.out XB.out (by decide))) (.int .i64 rmat)).setNe (p := ⟨g9, 4, none⟩) (by show g9 ≠ _; first | omega | (exact boxes_apart XN.out XB.out (by decide))) (.slice FA2 fg fc2))
      have HBD' := Lib.hid (((((HBD.out.setBox XN.out (by decide) (by omega) (by decide) 0 (.bool rord)).setBox (XN.out.set_ 0 (.bool rord)) (by decide) (by omega) (by decide) 1 (.string rkey)).setBox ((XN.out.set_ 0 (.bool rord)).set_ 1 (.string rkey)) (by decide) (by omega) (by decide) 2 (.slice FA fn fc)).setBox (((XN.out.set_ 0 (.bool rord)).set_ 1 (.string rkey)).set_ 2 (.slice FA fn fc)) (by decide) (by omega) (by decide) 3 (.int .i64 rmat)).setBox ((((XN.out.set_ 0 (.bool rord)).set_ 1 (.string rkey)).set_ 2 (.slice FA fn fc)).set_ 3 (.int .i64 rmat)) (by decide) (by omega) (by decide) 4 (.slice FA2 fg fc2))
      have HNX' := Lib.hid (((((HNX.out.setBox XN.out (by decide) (by omega) (by decide) 0 (.bool rord)).setBox (XN.out.set_ 0 (.bool rord)) (by decide) (by omega) (by decide) 1 (.string rkey)).setBox ((XN.out.set_ 0 (.bool rord)).set_ 1 (.string rkey)) (by decide) (by omega) (by decide) 2 (.slice FA fn fc)).setBox (((XN.out.set_ 0 (.bool rord)).set_ 1 (.string rkey)).set_ 2 (.slice FA fn fc)) (by decide) (by omega) (by decide) 3 (.int .i64 rmat)).setBox ((((XN.out.set_ 0 (.bool rord)).set_ 1 (.string rkey)).set_ 2 (.slice FA fn fc)).set_ 3 (.int .i64 rmat)) (by decide) (by omega) (by decide) 4 (.slice FA2 fg fc2))
      have HB' := Lib.hid (((((HB.out.setCell (p := ⟨g9, 0, none⟩) (by show w.heap.size ≤ g9; omega) (.bool rord)).setCell (p := ⟨g9, 1, none⟩) (by show w.heap.size ≤ g9; omega) (.string rkey)).setCell (p := ⟨g9, 2, none⟩) (by show w.heap.size ≤ g9; omega) (.slice FA fn fc)).setCell (p := ⟨g9, 3, none⟩) (by show w.heap.size ≤ g9; omega) (.int .i64 rmat)).setCell (p := ⟨g9, 4, none⟩) (by show w.heap.size ≤ g9; omega) (.slice FA2 fg fc2))
      have XN_0 := XN.out.at_ 0 _ rfl
      have XN_1 := XN.out.at_ 1 _ rfl
      have XN_2 := XN.out.at_ 2 _ rfl
      have XN_3 := XN.out.at_ 3 _ rfl
      have XN_4 := XN.out.at_ 4 _ rfl
      have XN_l := XN.out.lt
      have XN_z0 := XN.out.frozen 0
      have XN_z1 := XN.out.frozen 1
      have XN_z2 := XN.out.frozen 2
      have XN_z3 := XN.out.frozen 3
      have XN_z4 := XN.out.frozen 4
      go_wp2_with fail
      refine ⟨rfl, ?_⟩
      go_upto_region 6 with fail
      clear XN_0 XN_1 XN_2 XN_3 XN_4 XN_l XN_z0 XN_z1 XN_z2 XN_z3 XN_z4
      clear HB XN XR XB HBD HNX
      generalize ((((w6.setCell ⟨g9, 0, none⟩ (.bool rord)).setCell ⟨g9, 1, none⟩ (.string rkey)).setCell ⟨g9, 2, none⟩ (.slice FA fn fc)).setCell ⟨g9, 3, none⟩ (.int .i64 rmat)).setCell ⟨g9, 4, none⟩ (.slice FA2 fg fc2) = w7 at *
      have XN : Hid (Box w7 g9 #[.bool rord, .string rkey, .slice FA fn fc, .int .i64 rmat, .slice FA2 fg fc2] 25) := XN'
      have XR := XR'
      have XB := XB'
      have HBD := HBD'
      have HNX := HNX'
      have HB := HB'
      clear HB' XN' XR' XB' HBD' HNX'
      by_cases hre : re = 0
      · have f1 : (re == 0) = true := by simpa using hre
        have HF2 : Hid (expS b t = ⟨rord, rkey, rwant, rmat, rwrg⟩) := Lib.hid (by rw [hfs.out, if_pos hre])
        clear hfs hre
        have XN_0 := XN.out.at_ 0 _ rfl
        have XN_1 := XN.out.at_ 1 _ rfl
        have XN_2 := XN.out.at_ 2 _ rfl
        have XN_3 := XN.out.at_ 3 _ rfl
        have XN_4 := XN.out.at_ 4 _ rfl
        have XB_0 := XB.out.at_ 0 _ rfl
        have XB_1 := XB.out.at_ 1 _ rfl
        have XB_2 := XB.out.at_ 2 _ rfl
        have XB_3 := XB.out.at_ 3 _ rfl
        have XB_4 := XB.out.at_ 4 _ rfl
        have XB_l := XB.out.lt
        have XB_z0 := XB.out.frozen 0
        have XB_z1 := XB.out.frozen 1
        have XB_z2 := XB.out.frozen 2
        have XB_z3 := XB.out.frozen 3
        have XB_z4 := XB.out.frozen 4
        go_wp2_with fail
        go_roundw
        case rel =>
          refine ⟨k + 1, rord, rkey, rmat, FA, FA2, fn, fg, fc, fc2, by omega, by go_num, ?_, ?_, ?_, ?_⟩
          · rw [HST.out, HF2.out]
            exact HNX.out.set5 XB.out (by decide) (by omega) (.bool rord) (.string rkey) (.slice FA fn fc) (.int .i64 rmat) (.slice FA2 fg fc2)
          · exact set5_box (.bool rord) (.string rkey) (.slice FA fn fc) (.int .i64 rmat) (.slice FA2 fg fc2) XR.out (by omega)
          · exact ((((XB.out.set_ 0 (.bool rord)).set_ 1 (.string rkey)).set_ 2 (.slice FA fn fc)).set_ 3 (.int .i64 rmat)).set_ 4 (.slice FA2 fg fc2)
          · exact set5_below (.bool rord) (.string rkey) (.slice FA fn fc) (.int .i64 rmat) (.slice FA2 fg fc2) HB.out (by omega)
        case measure => simp [intOf]; omega
      · have f1 : (re == 0) = false := by simpa using hre
        have HF2 : Hid (expS b t = b) := Lib.hid (by rw [hfs.out, if_neg hre])
        clear hfs hre
        go_wp2_with fail
        go_roundw
        case rel =>
          refine ⟨k + 1, bo, bs, bm, BA, BA2, bn, bg, bc, bc2, by omega, by go_num, ?_, XR.out, XB.out, HB.out⟩
          rw [HST.out, HF2.out]; exact HBD.out
        case measure => simp [intOf]; omega
    · have hlt2 : ¬ (k : Int) < N := by omega
      have hkN : k = N := by omega
      replace HBD : Hid (BDF wr D0 (.agg #[.bool bo, .string bs, .slice BA bn bc, .int .i64 bm, .slice BA2 bg bc2]) (ws.foldl expS b0)) := Lib.hid (by
        have := HBD.out
        rwa [hkN, HN.out, List.take_length] at this)
      clear hkN hlt CE HS1 HX1
      generalize ws.foldl expS b0 = b1 at *
      go_wp2_with fail
      go_loopw [13, 15] (fun i _ wr => ∃ (k : Nat) (bo : Bool) (bs : ByteArray) (bm : Int) (A A2 : Option Addr) (bn bg c c2 : Nat), k ≤ M ∧ i = .int .i64 k ∧ BDF wr D0 (.agg #[.bool bo, .string bs, .slice A bn c, .int .i64 bm, .slice A2 bg c2]) ((gs.take k).foldl obsS b1) ∧ Box wr w.heap.size #[.bool false, .string ⟨#[]⟩, .slice none 0 0, .int .i64 0, .slice none 0 0] 25 ∧ Box wr w2.heap.size #[.bool bo, .string bs, .slice A bn c, .int .i64 bm, .slice A2 bg c2] 25 ∧ Below w.heap.size w wr) (fun i _ _ => M - (intOf i).toNat)
      case atStart => exact ⟨0, bo, bs, bm, BA, BA2, bn, bg, bc, bc2, Nat.zero_le _, rfl, HBD.out, XR.out, XB.out, HB.out⟩
      case round =>
        clear XR XB HB HBD hlt2 hk
        obtain ⟨k, bo, bs, bm, BA, BA2, bn, bg, bc, bc2, hk, rfl, hbd, hxr, hxb, hb⟩ := hrel
        have HBD := Lib.hid hbd
        have XR := Lib.hid hxr
        have XB := Lib.hid hxb
        have HB := Lib.hid hb
        clear hbd hxr hxb hb
        by_cases hlt : k < M
        · have hlt2 : (k : Int) < M := by omega
          have hk0 : (0 : Int) ≤ (k : Int) := by omega
          have hkn : k < gs.length := by rw [← HM.out]; exact hlt
          obtain ⟨A', c', eA, -, hX⟩ := HX2.out
          simp only [Value.slice.injEq] at eA
          obtain ⟨rfl, -, rfl⟩ := eA
          obtain ⟨q, p, u1, u2, rfl, hql, q1, q2, hst⟩ := hX k hkn
          have ST := Lib.hid (fun W (hW : Below w.heap.size w W) => txr_move hst hW)
          have m1 : ∀ x : Lat wr, x.w.cell? ⟨q, p + k * 2, none⟩ = _ := fun x => ((below_step HB.out x.h).cell (p := ⟨q, p + k * 2, none⟩) hql).trans q1
          have m2 : ∀ x : Lat wr, x.w.cell? ⟨q, p + k * 2 + 1, none⟩ = _ := fun x => ((below_step HB.out x.h).cell (p := ⟨q, p + k * 2 + 1, none⟩) hql).trans q2
          obtain ⟨u1', u2', he, x1, x2, _, _⟩ := id hst
          obtain ⟨rfl, rfl⟩ : u1 = u1' ∧ u2 = u2' := by simpa using he
          obtain ⟨E1, e1, rfl, -⟩ := id x1
          obtain ⟨E2, e2, rfl, -⟩ := id x2
          have CS := Lib.hid (CO.out k hkn)
          have HST := Lib.hid (HS2.out k hkn)
          unfold RSTEP at CS
          generalize (gs.getD k tx0).1.length = L1 at *
          generalize (gs.getD k tx0).2.length = L2 at *
          generalize gs.getD k tx0 = t at *
          generalize (gs.take k).foldl obsS b1 = b at *
          have hfs : Hid (obsS b t = if (obsT b t).2 = 0 then (obsT b t).1 else b) := Lib.hid rfl
          generalize obsT b t = res at *
          have HBR := HB
          have HBDr := HBD
          clear x1 x2 hX hql hkn q1 q2 he hst
          go_wp2_with fail
          have hbds := HBD.out
          refine wp_region_late 8 10 10 (Kit.of [gBd 5 [] D0 res, gBox 9 [] wr.heap.size #[.bool false, .string ⟨#[]⟩, .slice none 0 0, .int .i64 0, .slice none 0 0] 25]) (by kernel_rfl) (by kernel_rfl) (by decide) (by kernel_rfl) (fun γ => by kernel_rfl) (by kernel_rfl) (Kit.of_stable ?_) (Kit.of_known ?_) ?_
          · intro z hz; simp only [List.mem_cons, List.not_mem_nil, or_false] at hz; rcases hz with rfl | rfl
            · apply gBd_st
            · apply gBox_st
          · intro z hz; simp only [List.mem_cons, List.not_mem_nil, or_false] at hz; rcases hz with rfl | rfl
            · apply gBd_kn
            · apply gBox_kn
          intro γ hγ C hC hne
          obtain ⟨FA, fc, FA2, fc2, e5⟩ : ∃ A c A2 c2, γ 5 = .tuple #[.agg #[.bool res.1.ord, .string res.1.key, .slice A res.1.want.length c, .int .i64 res.1.mat, .slice A2 res.1.wrg.length c2], .int .i64 res.2] := hγ 5 rfl
          obtain ⟨g9, e9⟩ : ∃ g, γ 9 = .pointer (some ⟨g, 0, none⟩) := hγ 9 rfl
          have l0 := XB.out.latC (C := C) 0 _ rfl
          have l1 := XB.out.latC (C := C) 1 _ rfl
          have l2 := XB.out.latC (C := C) 2 _ rfl
          have l3 := XB.out.latC (C := C) 3 _ rfl
          have l4 := XB.out.latC (C := C) 4 _ rfl
          have m3 := fun p : LatC wr C => m1 ⟨p.w, p.h⟩
          have m4 := fun p : LatC wr C => m2 ⟨p.w, p.h⟩
          simp only at m3 m4
          clear m1 m2 hbds
          simp only [List.take_succ_cons, List.take_zero, List.drop_succ_cons, List.drop_zero]
          iterate 5 (refine wpF_quiet rfl ?_; go_big_quiet_step (fail); refine wpQuiet_nil ?_)
          refine wpF_fresh rfl (freshAt_call (args := #[.agg #[.bool bo, .string bs, .slice BA bn bc, .int .i64 bm, .slice BA2 bg bc2], .agg #[.slice E1 L1 e1, .slice E2 L2 e2]]) rfl _ _ _ (run_go Tryd.func18 (by kernel_rfl) (by kernel_rfl)) rfl (by simp [Act.eval]) (fun w' hb hf => (CS.out w' _ _ _ _ _ _ _ _ _ _ _ (HBDr.out.below hb) (ST.out _ (below_step HBR.out hb)) (below_step HBR.out hb)).mono fun e w2 ⟨v, he, h1, h2⟩ => ⟨_, he, ⟨v, rfl, h1⟩, h2⟩)) ?_
          simp only [Nat.zero_add, Nat.reduceAdd, e5]
          go_simp
          iterate 3 (refine wpF_quiet rfl ?_; go_big_quiet_step (fail); refine wpQuiet_nil ?_)
          refine wpF_fresh rfl (freshAt_alloc rfl rfl allocBoard (fun w' g hg hx => ⟨g, rfl, hx, hg⟩)) ?_
          simp only [Nat.zero_add, Nat.reduceAdd, e9]
          go_simp
          intro w6 hb hF
          have HNX := Lib.hid (gbd_at e5 (hF 5 (by decide) rfl))
          obtain ⟨Y9, hg9⟩ := gbox_at e9 (hF 9 (by decide) rfl)
          have XN := Lib.hid Y9
          have hbl := hb.size
          replace HBD := Lib.hid (HBD.out.below hb)
          have hlx := XB.out.lt
          have hlr := XR.out.lt
          have hl2 := HL2.out
          have hcw := HCW.out
          have hbs := HB.out.size
          clear l0 l1 l2 l3 l4 m3 m4 hF hγ hC hne e5 e9 Y9 CS HBR HBDr
          replace XR := Lib.hid (XR.out.below hb)
          replace XB := Lib.hid (XB.out.below hb)
          replace HB := Lib.hid (below_step HB.out hb)
          clear hb
          obtain ⟨⟨rord, rkey, rwant, rmat, rwrg⟩, re⟩ := res
          simp only at *
          obtain ⟨fn, hfn⟩ : ∃ n, n = rwant.length := ⟨_, rfl⟩
          obtain ⟨fg, hfg⟩ : ∃ n, n = rwrg.length := ⟨_, rfl⟩
          rw [← hfn, ← hfg] at HNX ⊢
          clear hfn hfg
          have XN' := Lib.hid (((((XN.out.set_ 0 (.bool rord)).set_ 1 (.string rkey)).set_ 2 (.slice FA fn fc)).set_ 3 (.int .i64 rmat)).set_ 4 (.slice FA2 fg fc2))
          have XR' := Lib.hid (((((XR.out.setNe (p := ⟨g9, 0, none⟩) (by show g9 ≠ _; first | omega | (exact boxes_apart XN.out XR.out (by decide))) (.bool rord)).setNe (p := ⟨g9, 1, none⟩) (by show g9 ≠ _; first | omega | (exact boxes_apart XN.out XR.out (by decide))) (.string rkey)).setNe (p := ⟨g9, 2, none⟩) (by show g9 ≠ _; first | omega | (exact boxes_apart XN.out XR.out (by decide))) (.slice FA fn fc)).setNe (p := ⟨g9, 3, none⟩) (by show g9 ≠ _; first | omega | (exact boxes_apart XN.out XR.out (by decide))) (.int .i64 rmat)).setNe (p := ⟨g9, 4, none⟩) (by show g9 ≠ _; first | omega | (exact boxes_apart XN.out XR.out (by decide))) (.slice FA2 fg fc2))
          have XB' := Lib.hid (((((XB.out.setNe (p := ⟨g9, 0, none⟩) (by show g9 ≠ _; first | omega | (exact boxes_apart XN.out XB.out (by decide))) (.bool rord)).setNe (p := ⟨g9, 1, none⟩) (by show g9 ≠ _; first | omega | (exact boxes_apart XN.out XB.out (by decide))) (.string rkey)).setNe (p := ⟨g9, 2, none⟩) (by show g9 ≠ _; first | omega | (exact boxes_apart XN.out XB.out (by decide))) (.slice FA fn fc)).setNe (p := ⟨g9, 3, none⟩) (by show g9 ≠ _; first | omega | (exact boxes_apart XN.out XB.out (by decide))) (.int .i64 rmat)).setNe (p := ⟨g9, 4, none⟩) (by show g9 ≠ _; first | omega | (exact boxes_apart XN.out XB.out (by decide))) (.slice FA2 fg fc2))
          have HBD' := Lib.hid (((((HBD.out.setBox XN.out (by decide) (by omega) (by decide) 0 (.bool rord)).setBox (XN.out.set_ 0 (.bool rord)) (by decide) (by omega) (by decide) 1 (.string rkey)).setBox ((XN.out.set_ 0 (.bool rord)).set_ 1 (.string rkey)) (by decide) (by omega) (by decide) 2 (.slice FA fn fc)).setBox (((XN.out.set_ 0 (.bool rord)).set_ 1 (.string rkey)).set_ 2 (.slice FA fn fc)) (by decide) (by omega) (by decide) 3 (.int .i64 rmat)).setBox ((((XN.out.set_ 0 (.bool rord)).set_ 1 (.string rkey)).set_ 2 (.slice FA fn fc)).set_ 3 (.int .i64 rmat)) (by decide) (by omega) (by decide) 4 (.slice FA2 fg fc2))
          have HNX' := Lib.hid (((((HNX.out.setBox XN.out (by decide) (by omega) (by decide) 0 (.bool rord)).setBox (XN.out.set_ 0 (.bool rord)) (by decide) (by omega) (by decide) 1 (.string rkey)).setBox ((XN.out.set_ 0 (.bool rord)).set_ 1 (.string rkey)) (by decide) (by omega) (by decide) 2 (.slice FA fn fc)).setBox (((XN.out.set_ 0 (.bool rord)).set_ 1 (.string rkey)).set_ 2 (.slice FA fn fc)) (by decide) (by omega) (by decide) 3 (.int .i64 rmat)).setBox ((((XN.out.set_ 0 (.bool rord)).set_ 1 (.string rkey)).set_ 2 (.slice FA fn fc)).set_ 3 (.int .i64 rmat)) (by decide) (by omega) (by decide) 4 (.slice FA2 fg fc2))
          have HB' := Lib.hid (((((HB.out.setCell (p := ⟨g9, 0, none⟩) (by show w.heap.size ≤ g9; omega) (.bool rord)).setCell (p := ⟨g9, 1, none⟩) (by show w.heap.size ≤ g9; omega) (.string rkey)).setCell (p := ⟨g9, 2, none⟩) (by show w.heap.size ≤ g9; omega) (.slice FA fn fc)).setCell (p := ⟨g9, 3, none⟩) (by show w.heap.size ≤ g9; omega) (.int .i64 rmat)).setCell (p := ⟨g9, 4, none⟩) (by show w.heap.size ≤ g9; omega) (.slice FA2 fg fc2))
          have XN_0 := XN.out.at_ 0 _ rfl
          have XN_1 := XN.out.at_ 1 _ rfl
          have XN_2 := XN.out.at_ 2 _ rfl
          have XN_3 := XN.out.at_ 3 _ rfl
          have XN_4 := XN.out.at_ 4 _ rfl
          have XN_l := XN.out.lt
          have XN_z0 := XN.out.frozen 0
          have XN_z1 := XN.out.frozen 1
          have XN_z2 := XN.out.frozen 2
          have XN_z3 := XN.out.frozen 3
          have XN_z4 := XN.out.frozen 4
          go_wp2_with fail
          refine ⟨rfl, ?_⟩
          go_upto_region 12 with fail
          clear XN_0 XN_1 XN_2 XN_3 XN_4 XN_l XN_z0 XN_z1 XN_z2 XN_z3 XN_z4
          clear HB XN XR XB HBD HNX
          generalize ((((w6.setCell ⟨g9, 0, none⟩ (.bool rord)).setCell ⟨g9, 1, none⟩ (.string rkey)).setCell ⟨g9, 2, none⟩ (.slice FA fn fc)).setCell ⟨g9, 3, none⟩ (.int .i64 rmat)).setCell ⟨g9, 4, none⟩ (.slice FA2 fg fc2) = w7 at *
          have XN : Hid (Box w7 g9 #[.bool rord, .string rkey, .slice FA fn fc, .int .i64 rmat, .slice FA2 fg fc2] 25) := XN'
          have XR := XR'
          have XB := XB'
          have HBD := HBD'
          have HNX := HNX'
          have HB := HB'
          clear HB' XN' XR' XB' HBD' HNX'
          by_cases hre : re = 0
          · have f1 : (re == 0) = true := by simpa using hre
            have HF2 : Hid (obsS b t = ⟨rord, rkey, rwant, rmat, rwrg⟩) := Lib.hid (by rw [hfs.out, if_pos hre])
            clear hfs hre
            have XN_0 := XN.out.at_ 0 _ rfl
            have XN_1 := XN.out.at_ 1 _ rfl
            have XN_2 := XN.out.at_ 2 _ rfl
            have XN_3 := XN.out.at_ 3 _ rfl
            have XN_4 := XN.out.at_ 4 _ rfl
            have XB_0 := XB.out.at_ 0 _ rfl
            have XB_1 := XB.out.at_ 1 _ rfl
            have XB_2 := XB.out.at_ 2 _ rfl
            have XB_3 := XB.out.at_ 3 _ rfl
            have XB_4 := XB.out.at_ 4 _ rfl
            have XB_l := XB.out.lt
            have XB_z0 := XB.out.frozen 0
            have XB_z1 := XB.out.frozen 1
            have XB_z2 := XB.out.frozen 2
            have XB_z3 := XB.out.frozen 3
            have XB_z4 := XB.out.frozen 4
            go_wp2_with fail
            go_roundw
            case rel =>
              refine ⟨k + 1, rord, rkey, rmat, FA, FA2, fn, fg, fc, fc2, by omega, by go_num, ?_, ?_, ?_, ?_⟩
              · rw [HST.out, HF2.out]
                exact HNX.out.set5 XB.out (by decide) (by omega) (.bool rord) (.string rkey) (.slice FA fn fc) (.int .i64 rmat) (.slice FA2 fg fc2)
              · exact set5_box (.bool rord) (.string rkey) (.slice FA fn fc) (.int .i64 rmat) (.slice FA2 fg fc2) XR.out (by omega)
              · exact ((((XB.out.set_ 0 (.bool rord)).set_ 1 (.string rkey)).set_ 2 (.slice FA fn fc)).set_ 3 (.int .i64 rmat)).set_ 4 (.slice FA2 fg fc2)
              · exact set5_below (.bool rord) (.string rkey) (.slice FA fn fc) (.int .i64 rmat) (.slice FA2 fg fc2) HB.out (by omega)
            case measure => simp [intOf]; omega
          · have f1 : (re == 0) = false := by simpa using hre
            have HF2 : Hid (obsS b t = b) := Lib.hid (by rw [hfs.out, if_neg hre])
            clear hfs hre
            go_wp2_with fail
            go_roundw
            case rel =>
              refine ⟨k + 1, bo, bs, bm, BA, BA2, bn, bg, bc, bc2, by omega, by go_num, ?_, XR.out, XB.out, HB.out⟩
              rw [HST.out, HF2.out]; exact HBD.out
            case measure => simp [intOf]; omega
        · have hlt2 : ¬ (k : Int) < M := by omega
          have hkN : k = M := by omega
          replace HBD : Hid (BDF wr D0 (.agg #[.bool bo, .string bs, .slice BA bn bc, .int .i64 bm, .slice BA2 bg bc2]) (gs.foldl obsS b1)) := Lib.hid (by
            have := HBD.out
            rwa [hkN, HM.out, List.take_length] at this)
          clear hkN hlt CO HS2 HX2
          generalize gs.foldl obsS b1 = b2 at *
          have XB_0 := XB.out.at_ 0 _ rfl
          have XB_1 := XB.out.at_ 1 _ rfl
          have XB_2 := XB.out.at_ 2 _ rfl
          have XB_3 := XB.out.at_ 3 _ rfl
          have XB_4 := XB.out.at_ 4 _ rfl
          go_wp2_with fail
          clear XB_0 XB_1 XB_2 XB_3 XB_4
          refine (CF.out _ _ _ _ _ _ _ _ _ _ _ rfl HBD.out HB.out).mono ?_; rintro e w7 ⟨v', rfl, hbd', hb⟩
          replace XR := Lib.hid (XR.out.below hb)
          replace HB := Lib.hid (below_step HB.out hb)
          clear hb
          rw [← HR.out] at hbd'
          clear HR
          obtain ⟨rord, rkey, rwant, rmat, rwrg⟩ := r
          obtain ⟨FA, fc, FA2, fc2, fn, fg, rfl, -, -⟩ := hbd'.cells
          simp only at *
          have HNX := Lib.hid hbd'
          clear hbd' CF
          have hcw := HCW.out
          have XR_0 := XR.out.at_ 0 _ rfl
          have XR_1 := XR.out.at_ 1 _ rfl
          have XR_2 := XR.out.at_ 2 _ rfl
          have XR_3 := XR.out.at_ 3 _ rfl
          have XR_4 := XR.out.at_ 4 _ rfl
          have XR_l := XR.out.lt
          have XR_z0 := XR.out.frozen 0
          have XR_z1 := XR.out.frozen 1
          have XR_z2 := XR.out.frozen 2
          have XR_z3 := XR.out.frozen 3
          have XR_z4 := XR.out.frozen 4
          go_wp2_with fail
          refine bodyPost_ret (v := .agg #[.bool rord, .string rkey, .slice FA fn fc, .int .i64 rmat, .slice FA2 fg fc2]) (by simp [results, Tryd.results23, go_sem, XR_0, XR_1, XR_2, XR_3, XR_4, XR_l]) rfl ?_
          exact ⟨_, rfl, HNX.out.set5 XR.out (by decide) (by omega) (.bool rord) (.string rkey) (.slice FA fn fc) (.int .i64 rmat) (.slice FA2 fg fc2), set5_below (.bool rord) (.string rkey) (.slice FA fn fc) (.int .i64 rmat) (.slice FA2 fg fc2) HB.out (Nat.le_refl _)⟩

end Go.Proofs.YtldafnjbgjagiaaDoor

/-
  Contract of board.Run; boards stay valid.
-/
import Derived.Test.YtldafnjbgjagiaaDoorBrdF
namespace Go.Proofs.YtldafnjbgjagiaaDoor
open Go.RowKit
set_option linter.unusedVariables false
set_option linter.unusedSimpArgs false

theorem var_size {s : ByteArray} (h : varB s = true) : s.size ≤ 19 := by
  unfold varB at h
  rcases Bool.or_eq_true _ _ ▸ h with h | h
  · have h := of_decide_eq_true h
    have h2 := (nameB_iff.1 h.2.2.2.2.2).2.1
    rw [Lib.size_eq, Lib.extract_data] at h2
    have e := Lib.size_eq s
    simp only [List.length_take, List.length_drop] at h2
    omega
  · have := (nameB_iff.1 h).2.1; omega
theorem tz_of {t : Tx} (h : tv t = true) : TZ t := by
  obtain ⟨h1, h2, _, h3, _⟩ := of_decide_eq_true (show decide (TxV t.1 t.2) = true from h)
  exact ⟨by omega, by omega, fun s hs => by have := var_size (h3 s hs); omega⟩
theorem exp_ok {b : Bd} {t : Tx} (h : OkB b) : OkB (expS b t) := by
  unfold expS
  rcases exp_ways b t with ⟨c, hc, _, e⟩ | ⟨_, _, _, _, e⟩ | ⟨ha, _, h3, h4, e⟩
  · rw [e]; simp only [if_neg hc]; exact h
  · rw [e]; exact h
  · rw [e]
    obtain ⟨k1, k2, k3, k4, k5⟩ := h
    have hk := (ask_zero ha).2.2
    refine ⟨by simp; omega, k2, k3, k4, fun u hu => ?_⟩
    simp only [if_true, List.mem_append, List.mem_singleton] at hu
    rcases hu with hu | rfl
    · exact k5 u hu
    · exact ⟨h3, hk⟩
theorem obs_ok {b : Bd} {t : Tx} (h : OkB b) : OkB (obsS b t) := by
  unfold obsS
  have hsub : ∀ k u, u ∈ b.want.eraseIdx k → u ∈ b.want := fun k u hu => List.mem_of_mem_eraseIdx hu
  have hlen : ∀ k, (b.want.eraseIdx k).length ≤ b.want.length := fun k => by rw [List.length_eraseIdx]; split <;> omega
  rcases obs_ways b t with ⟨c, hc, _, e⟩ | ⟨_, _, _, _, e⟩ | ⟨ha, _, h3, h4, h5, _, e⟩ | ⟨k, ha, _, h3, h4, h5, _, _, ⟨_, e⟩ | ⟨_, e⟩⟩
  · rw [e]; simp only [if_neg hc]; exact h
  · rw [e]; exact h
  all_goals
    rw [e]
    obtain ⟨k1, k2, k3, k4, k5⟩ := h
  · exact ⟨k1, by simp; omega, k3, k4, k5⟩
  · exact ⟨Nat.le_trans (hlen k) k1, k2, by show 0 ≤ b.mat + 1; omega, by show b.mat + 1 ≤ _; omega, fun u hu => k5 u (hsub k u hu)⟩
  · exact ⟨Nat.le_trans (hlen k) k1, by simp; omega, k3, k4, fun u hu => k5 u (hsub k u hu)⟩
theorem new_ok (o : Bool) (s : ByteArray) : OkB ⟨o, s, [], 0, []⟩ := ⟨by simp, by simp, by simp, by simp, fun u hu => by simp at hu⟩
theorem fold_exp_ok {l : List Tx} : ∀ {b : Bd}, OkB b → OkB (l.foldl expS b) := by
  induction l with
  | nil => exact fun h => h
  | cons t l ih => exact fun h => ih (exp_ok h)
theorem fold_obs_ok {l : List Tx} : ∀ {b : Bd}, OkB b → OkB (l.foldl obsS b) := by
  induction l with
  | nil => exact fun h => h
  | cons t l ih => exact fun h => ih (obs_ok h)
theorem foldB_snoc (f : Bd → Tx → Bd) (b : Bd) (l : List Tx) (k : Nat) (h : k < l.length) : (l.take (k + 1)).foldl f b = f ((l.take k).foldl f b) (l.getD k tx0) := by
  rw [take_snocD l k tx0 h, List.foldl_append]; rfl
theorem BDF.cells {w : World} {C : Nat} {v : Value} {b : Bd} (h : BDF w C v b) : ∃ A c A2 c2 N G, v = .agg #[.bool b.ord, .string b.key, .slice A N c, .int .i64 b.mat, .slice A2 G c2] ∧ N = b.want.length ∧ G = b.wrg.length := by
  obtain ⟨A, c, A2, c2, e, _⟩ := h.rd
  exact ⟨A, c, A2, c2, _, _, e, rfl, rfl⟩
theorem BDF.args {w : World} {C N G c c2 : Nat} {A A2 : Option Addr} {b : Bd} {o : Bool} {s : ByteArray} {m : Int} (h : BDF w C (.agg #[.bool o, .string s, .slice A N c, .int .i64 m, .slice A2 G c2]) b) : b.ord = o ∧ b.key = s ∧ b.mat = m ∧ Rs txR w (.slice A N c) b.want anyB ∧ SL w (.slice A2 G c2) b.wrg := by
  obtain ⟨A', c', A2', c2', e, h1, h2⟩ := h.rd
  simp at e
  obtain ⟨rfl, rfl, ⟨rfl, rfl, rfl⟩, rfl, rfl, rfl, rfl⟩ := e
  exact ⟨rfl, rfl, rfl, h1, h2⟩
/-- A step of a run, as a contract over whatever the board's value. -/
def STEP (f : FuncId) (F : Bd → Tx → Bd × Int) (b : Bd) (t : Tx) (w : World) : Prop := ∀ W (o : Bool) (s : ByteArray) (m : Int) (A A2 : Option Addr) (N G c c2 : Nat) (C : Nat) (v1 v2 : Value), BDF W C (.agg #[.bool o, .string s, .slice A N c, .int .i64 m, .slice A2 G c2]) b → SL W v1 t.1 → IL W v2 t.2 → Below w.heap.size w W →
  Calls Tryd.prog f #[.agg #[.bool o, .string s, .slice A N c, .int .i64 m, .slice A2 G c2], .agg #[v1, v2]] W (RETB W 0 (F b t))
theorem step_exp {w : World} {b : Bd} {t : Tx} (hok : OkB b) (tz : TZ t) (hk : KW w) (hm : MLen w) : STEP 9 expT b t w := fun W o s m A A2 N G c c2 C v1 v2 h s1 s2 hW => by
  obtain ⟨rfl, rfl, rfl, h1, h2⟩ := h.args
  exact brdExpect W b t _ _ v1 v2 h1 h2 s1 s2 (by have := hok.1; omega) (by have := hok.2.1; omega) (fun u hu => tz_of (hok.2.2.2.2 u hu).1) tz (hk.below hW) (hm.below hW)
theorem step_obs {w : World} {b : Bd} {t : Tx} (hok : OkB b) (tz : TZ t) (hk : KW w) (hm : MLen w) (ht : Tab w) : STEP 17 obsT b t w := fun W o s m A A2 N G c c2 C v1 v2 h s1 s2 hW => by
  obtain ⟨rfl, rfl, rfl, h1, h2⟩ := h.args
  exact brdObserve W b t _ _ v1 v2 h1 h2 s1 s2 (by have := hok.1; omega) (by have := hok.2.1; omega) (fun u hu => tz_of (hok.2.2.2.2 u hu).1) tz (hk.below hW) (hm.below hW) (ht.below hW)
theorem step_fin {w W : World} {b : Bd} {o : Bool} {s : ByteArray} {m : Int} {A A2 : Option Addr} {N G c c2 C : Nat} (hok : OkB b) (h : BDF W C (.agg #[.bool o, .string s, .slice A N c, .int .i64 m, .slice A2 G c2]) b) (hW : Below w.heap.size w W) (hk : KW w) (hm : MLen w) (ht : Tab w) :
    Calls Tryd.prog 19 #[.agg #[.bool o, .string s, .slice A N c, .int .i64 m, .slice A2 G c2]] W fun e w' => ∃ v, e = .returned v ∧ BDF w' 0 v (finT b) ∧ Below W.heap.size W w' := by
  obtain ⟨rfl, rfl, rfl, h1, h2⟩ := h.args
  exact brdFinish W b _ _ h1 h2 (by have := hok.1; omega) (by have := hok.2.1; omega) (fun u hu => ⟨txf_of (hok.2.2.2.2 u hu).1, tz_of (hok.2.2.2.2 u hu).1⟩) (hk.below hW) (hm.below hW) (ht.below hW)

set_option maxRecDepth 100000 in
set_option maxHeartbeats 16000000 in
theorem brdRun (w : World) (o : Bool) (s : ByteArray) (wv gv : Value) (ws gs : List Tx) (h1 : Rs txR w wv ws anyB) (h2 : Rs txR w gv gs anyB) (n1 : ws.length ≤ 9223372036854775807) (n2 : gs.length ≤ 9223372036854775807) (hz1 : ∀ t ∈ ws, TZ t) (hz2 : ∀ t ∈ gs, TZ t) (hk : KW w) (hm : MLen w) (ht : Tab w) :
    Calls Tryd.prog 22 #[.bool o, .string s, wv, gv] w fun e w' => ∃ v, e = .returned v ∧ BDF w' 0 v (runT o s ws gs) ∧ Below w.heap.size w w' := by
  have HX1 := Lib.hid h1.txs
  have HX2 := Lib.hid h2.txs
  obtain ⟨A1, c1, rfl, -⟩ := h1.slice
  obtain ⟨A2, c2, rfl, -⟩ := h2.slice
  obtain ⟨b0, hb0⟩ : ∃ b0 : Bd, b0 = ⟨o, s, [], 0, []⟩ := ⟨_, rfl⟩
  have ok0 : OkB b0 := by rw [hb0]; exact new_ok o s
  have CE : Hid (∀ k, k < ws.length → STEP 9 expT ((ws.take k).foldl expS b0) (ws.getD k tx0) w) := Lib.hid fun k hk2 => step_exp (fold_exp_ok ok0) (hz1 _ (getD_mem tx0 hk2)) hk hm
  have okw : OkB (ws.foldl expS b0) := fold_exp_ok ok0
  have CO : Hid (∀ k, k < gs.length → STEP 17 obsT ((gs.take k).foldl obsS (ws.foldl expS b0)) (gs.getD k tx0) w) := Lib.hid fun k hk2 => step_obs (fold_obs_ok okw) (hz2 _ (getD_mem tx0 hk2)) hk hm ht
  have CF : Hid (∀ W v C (o : Bool) (s : ByteArray) (m : Int) (A A2 : Option Addr) (N G c c2 : Nat), v = Value.agg #[.bool o, .string s, .slice A N c, .int .i64 m, .slice A2 G c2] → BDF W C v (gs.foldl obsS (ws.foldl expS b0)) → Below w.heap.size w W → Calls Tryd.prog 19 #[v] W fun e w' => ∃ v, e = .returned v ∧ BDF w' 0 v (finT (gs.foldl obsS (ws.foldl expS b0))) ∧ Below W.heap.size W w') := Lib.hid fun W v C o s m A A2 N G c c2 e h hW => by
    subst e
    exact step_fin (fold_obs_ok okw) h hW hk hm ht
  have HS1 := Lib.hid (fun k h => foldB_snoc expS b0 ws k h)
  have HS2 := Lib.hid (fun k h => foldB_snoc obsS (ws.foldl expS b0) gs k h)
  have HR : Hid (runT o s ws gs = finT (gs.foldl obsS (ws.foldl expS b0))) := Lib.hid (by rw [hb0]; rfl)
  have HN0 := Lib.hid (fun (W : World) => (show BDF W w.heap.size (.agg #[.bool o, .string s, .slice none 0 0, .int .i64 0, .slice none 0 0]) b0 by rw [hb0]; exact BDF.nil W _ o s))
  have CN := Lib.hid (fun W => brdNew W o s)
  generalize runT o s ws gs = r at *
  obtain ⟨N, hN⟩ : ∃ N, N = ws.length := ⟨_, rfl⟩
  obtain ⟨M, hM⟩ : ∃ M, M = gs.length := ⟨_, rfl⟩
  have HN := Lib.hid hN
  have HM := Lib.hid hM
  rw [← hN] at n1 ⊢
  rw [← hM] at n2 ⊢
  clear h1 h2 hz1 hz2 hk hm ht hN hM ok0 okw hb0
  go_enter Tryd.func22, Tryd.ntmps22
  go_wp2_with fail
  have XR := Lib.hid (box_new (W := w) (g := w.heap.size) 25 #[.bool false, .string ⟨#[]⟩, .slice none 0 0, .int .i64 0, .slice none 0 0] (by simp))
  have HB := Lib.hid (below_alloc w (.cells #[.bool false, .string ⟨#[]⟩, .slice none 0 0, .int .i64 0, .slice none 0 0] 25))
  generalize w.alloc (.cells #[.bool false, .string ⟨#[]⟩, .slice none 0 0, .int .i64 0, .slice none 0 0] 25) = w1 at *
  refine (CN.out _).mono ?_; rintro e w2 ⟨rfl, hb⟩
  replace XR := Lib.hid (XR.out.below hb)
  replace HB := Lib.hid (below_step HB.out hb)
  clear hb
  have HL2 := Lib.hid XR.out.lt
  go_upto_region 2 with fail
  have XB := Lib.hid (box_new (W := w2) (g := w2.heap.size) 25 #[.bool o, .string s, .slice none 0 0, .int .i64 0, .slice none 0 0] (by simp))
  have hba := (below_alloc w2 (.cells #[.bool o, .string s, .slice none 0 0, .int .i64 0, .slice none 0 0] 25))
  replace XR := Lib.hid (XR.out.below hba)
  replace HB := Lib.hid (below_step HB.out hba)
  clear hba
  generalize w2.alloc (.cells #[.bool o, .string s, .slice none 0 0, .int .i64 0, .slice none 0 0] 25) = w3 at *
  go_wp2_with fail
  go_loopw [13, 23] (fun _ i wr => ∃ (k : Nat) (bo : Bool) (bs : ByteArray) (bm : Int) (A A2 : Option Addr) (bn bg c c2 : Nat), k ≤ N ∧ i = .int .i64 k ∧ BDF wr w.heap.size (.agg #[.bool bo, .string bs, .slice A bn c, .int .i64 bm, .slice A2 bg c2]) ((ws.take k).foldl expS b0) ∧ Box wr w.heap.size #[.bool false, .string ⟨#[]⟩, .slice none 0 0, .int .i64 0, .slice none 0 0] 25 ∧ Box wr w2.heap.size #[.bool bo, .string bs, .slice A bn c, .int .i64 bm, .slice A2 bg c2] 25 ∧ Below w.heap.size w wr) (fun _ i _ => N - (intOf i).toNat)
  case atStart => exact ⟨0, o, s, 0, none, none, 0, 0, 0, 0, Nat.zero_le _, rfl, HN0.out _, XR.out, XB.out, HB.out⟩
  case round =>
    clear XR XB HB
    obtain ⟨k, bo, bs, bm, BA, BA2, bn, bg, bc, bc2, hk, rfl, hbd, hxr, hxb, hb⟩ := hrel
    have HBD := Lib.hid hbd
    have XR := Lib.hid hxr
    have XB := Lib.hid hxb
    have HB := Lib.hid hb
    clear hbd hxr hxb hb
    by_cases hlt : k < N
    · have hlt2 : (k : Int) < N := by omega
      have hk0 : (0 : Int) ≤ (k : Int) := by omega
      have hkn : k < ws.length := by rw [← HN.out]; exact hlt
      obtain ⟨A', c', eA, -, hX⟩ := HX1.out
      simp only [Value.slice.injEq] at eA
      obtain ⟨rfl, -, rfl⟩ := eA
      obtain ⟨q, p, u1, u2, rfl, hql, q1, q2, x1, x2, -⟩ := hX k hkn
      rw [← HB.out.cell (p := ⟨q, p + k * 2, none⟩) hql] at q1
      rw [← HB.out.cell (p := ⟨q, p + k * 2 + 1, none⟩) hql] at q2
      have X1 := Lib.hid (fun W (hW : Below w.heap.size w W) => x1.below hW)
      have X2 := Lib.hid (fun W (hW : Below w.heap.size w W) => x2.below hW)
      obtain ⟨E1, e1, rfl, -⟩ := id x1
      obtain ⟨E2, e2, rfl, -⟩ := id x2
      have CS := Lib.hid (CE.out k hkn)
      have HST := Lib.hid (HS1.out k hkn)
      unfold STEP at CS
      generalize (ws.getD k tx0).1.length = L1 at *
      generalize (ws.getD k tx0).2.length = L2 at *
      generalize ws.getD k tx0 = t at *
      generalize (ws.take k).foldl expS b0 = b at *
      have hfs : Hid (expS b t = if (expT b t).2 = 0 then (expT b t).1 else b) := Lib.hid rfl
      generalize expT b t = res at *
      obtain ⟨rb, re⟩ := res
      simp only at hfs
      clear x1 x2 hX hql hkn
      go_upto_region 5 with fail
      clear q1 q2
      have XP := Lib.hid (box_new (W := wr) (g := wr.heap.size) 28 #[.slice E1 L1 e1, .slice E2 L2 e2] (by simp))
      have hba := (below_alloc wr (.cells #[.slice E1 L1 e1, .slice E2 L2 e2] 28))
      replace XR := Lib.hid (XR.out.below hba)
      replace XB := Lib.hid (XB.out.below hba)
      replace HBD := Lib.hid (HBD.out.below hba)
      replace HB := Lib.hid (below_step HB.out hba)
      clear hba
      generalize wr.alloc (.cells #[.slice E1 L1 e1, .slice E2 L2 e2] 28) = w4 at *
      have XB_0 := XB.out.at_ 0 _ rfl
      have XB_1 := XB.out.at_ 1 _ rfl
      have XB_2 := XB.out.at_ 2 _ rfl
      have XB_3 := XB.out.at_ 3 _ rfl
      have XB_4 := XB.out.at_ 4 _ rfl
      have XP_0 := XP.out.at_ 0 _ rfl
      have XP_1 := XP.out.at_ 1 _ rfl
      go_wp2_with fail
      clear XB_0 XB_1 XB_2 XB_3 XB_4 XP_0 XP_1
      refine (CS.out w4 _ _ _ _ _ _ _ _ _ _ _ _ HBD.out (X1.out _ HB.out) (X2.out _ HB.out) HB.out).mono ?_; rintro e w5 ⟨v', rfl, hbd', hb⟩
      replace XR := Lib.hid (XR.out.below hb)
      replace XB := Lib.hid (XB.out.below hb)
      replace HBD := Lib.hid (HBD.out.below hb)
      replace XP := Lib.hid (XP.out.below hb)
      replace HB := Lib.hid (below_step HB.out hb)
      clear hb
      obtain ⟨FA, fc, FA2, fc2, fn, fg, rfl, -, -⟩ := hbd'.cells
      have HNX := Lib.hid (hbd'.mono (Nat.zero_le w.heap.size))
      clear hbd' CS
      obtain ⟨rord, rkey, rwant, rmat, rwrg⟩ := rb
      simp only at HNX
      go_upto_region 6 with fail
      have XN := Lib.hid (box_new (W := w5) (g := w5.heap.size) 25 #[.bool rord, .string rkey, .slice FA fn fc, .int .i64 rmat, .slice FA2 fg fc2] (by simp))
      have hba := (below_alloc w5 (.cells #[.bool rord, .string rkey, .slice FA fn fc, .int .i64 rmat, .slice FA2 fg fc2] 25))
      replace XR := Lib.hid (XR.out.below hba)
      replace XB := Lib.hid (XB.out.below hba)
      replace HBD := Lib.hid (HBD.out.below hba)
      replace XP := Lib.hid (XP.out.below hba)
      replace HNX := Lib.hid (HNX.out.below hba)
      replace HB := Lib.hid (below_step HB.out hba)
      clear hba
      generalize w5.alloc (.cells #[.bool rord, .string rkey, .slice FA fn fc, .int .i64 rmat, .slice FA2 fg fc2] 25) = w6 at *
      by_cases hre : re = 0
      · have f1 : (re == 0) = true := by simpa using hre
        have HF2 : Hid (expS b t = ⟨rord, rkey, rwant, rmat, rwrg⟩) := Lib.hid (by rw [hfs.out, if_pos hre])
        have HLXB := Lib.hid XB.out.lt
        clear hfs hre
        have XN_0 := XN.out.at_ 0 _ rfl
        have XN_1 := XN.out.at_ 1 _ rfl
        have XN_2 := XN.out.at_ 2 _ rfl
        have XN_3 := XN.out.at_ 3 _ rfl
        have XN_4 := XN.out.at_ 4 _ rfl
        have XB_0 := XB.out.at_ 0 _ rfl
        have XB_1 := XB.out.at_ 1 _ rfl
        have XB_2 := XB.out.at_ 2 _ rfl
        have XB_3 := XB.out.at_ 3 _ rfl
        have XB_4 := XB.out.at_ 4 _ rfl
        have XB_l := XB.out.lt
        have XB_z0 := XB.out.frozen 0
        have XB_z1 := XB.out.frozen 1
        have XB_z2 := XB.out.frozen 2
        have XB_z3 := XB.out.frozen 3
        have XB_z4 := XB.out.frozen 4
        go_wp2_with fail
        go_roundw
        case rel =>
          refine ⟨k + 1, rord, rkey, rmat, FA, FA2, fn, fg, fc, fc2, by omega, by go_num, ?_, ?_, ?_, ?_⟩
          · rw [HST.out, HF2.out]
            exact HNX.out.set5 XB.out (by decide) (by have := HL2.out; omega) (.bool rord) (.string rkey) (.slice FA fn fc) (.int .i64 rmat) (.slice FA2 fg fc2)
          · exact set5_box (.bool rord) (.string rkey) (.slice FA fn fc) (.int .i64 rmat) (.slice FA2 fg fc2) XR.out (by have := HL2.out; omega)
          · exact ((((XB.out.set_ 0 (.bool rord)).set_ 1 (.string rkey)).set_ 2 (.slice FA fn fc)).set_ 3 (.int .i64 rmat)).set_ 4 (.slice FA2 fg fc2)
          · exact set5_below (.bool rord) (.string rkey) (.slice FA fn fc) (.int .i64 rmat) (.slice FA2 fg fc2) HB.out (by have := HL2.out; omega)
        case measure => simp [intOf]; omega
      · have f1 : (re == 0) = false := by simpa using hre
        have HF2 : Hid (expS b t = b) := Lib.hid (by rw [hfs.out, if_neg hre])
        clear hfs hre
        go_wp2_with fail
        go_roundw
        case rel =>
          refine ⟨k + 1, bo, bs, bm, BA, BA2, bn, bg, bc, bc2, by omega, by go_num, ?_, XR.out, XB.out, HB.out⟩
          rw [HST.out, HF2.out]; exact HBD.out
        case measure => simp [intOf]; omega
    · have hlt2 : ¬ (k : Int) < N := by omega
      have hkN : k = N := by omega
      replace HBD : Hid (BDF wr w.heap.size (.agg #[.bool bo, .string bs, .slice BA bn bc, .int .i64 bm, .slice BA2 bg bc2]) (ws.foldl expS b0)) := Lib.hid (by
        have := HBD.out
        rwa [hkN, HN.out, List.take_length] at this)
      clear hkN hlt CE HS1 HX1
      generalize ws.foldl expS b0 = b1 at *
      go_wp2_with fail
      go_loopw [17, 39] (fun _ i wr => ∃ (k : Nat) (bo : Bool) (bs : ByteArray) (bm : Int) (A A2 : Option Addr) (bn bg c c2 : Nat), k ≤ M ∧ i = .int .i64 k ∧ BDF wr w.heap.size (.agg #[.bool bo, .string bs, .slice A bn c, .int .i64 bm, .slice A2 bg c2]) ((gs.take k).foldl obsS b1) ∧ Box wr w.heap.size #[.bool false, .string ⟨#[]⟩, .slice none 0 0, .int .i64 0, .slice none 0 0] 25 ∧ Box wr w2.heap.size #[.bool bo, .string bs, .slice A bn c, .int .i64 bm, .slice A2 bg c2] 25 ∧ Below w.heap.size w wr) (fun _ i _ => M - (intOf i).toNat)
      case atStart => exact ⟨0, bo, bs, bm, BA, BA2, bn, bg, bc, bc2, Nat.zero_le _, rfl, HBD.out, XR.out, XB.out, HB.out⟩
      case round =>
        clear XR XB HB HBD
        clear hlt2 hk
        obtain ⟨k, bo, bs, bm, BA, BA2, bn, bg, bc, bc2, hk, rfl, hbd, hxr, hxb, hb⟩ := hrel
        have HBD := Lib.hid hbd
        have XR := Lib.hid hxr
        have XB := Lib.hid hxb
        have HB := Lib.hid hb
        clear hbd hxr hxb hb
        by_cases hlt : k < M
        · have hlt2 : (k : Int) < M := by omega
          have hk0 : (0 : Int) ≤ (k : Int) := by omega
          have hkn : k < gs.length := by rw [← HM.out]; exact hlt
          obtain ⟨A', c', eA, -, hX⟩ := HX2.out
          simp only [Value.slice.injEq] at eA
          obtain ⟨rfl, -, rfl⟩ := eA
          obtain ⟨q, p, u1, u2, rfl, hql, q1, q2, x1, x2, -⟩ := hX k hkn
          rw [← HB.out.cell (p := ⟨q, p + k * 2, none⟩) hql] at q1
          rw [← HB.out.cell (p := ⟨q, p + k * 2 + 1, none⟩) hql] at q2
          have X1 := Lib.hid (fun W (hW : Below w.heap.size w W) => x1.below hW)
          have X2 := Lib.hid (fun W (hW : Below w.heap.size w W) => x2.below hW)
          obtain ⟨E1, e1, rfl, -⟩ := id x1
          obtain ⟨E2, e2, rfl, -⟩ := id x2
          have CS := Lib.hid (CO.out k hkn)
          have HST := Lib.hid (HS2.out k hkn)
          unfold STEP at CS
          generalize (gs.getD k tx0).1.length = L1 at *
          generalize (gs.getD k tx0).2.length = L2 at *
          generalize gs.getD k tx0 = t at *
          generalize (gs.take k).foldl obsS b1 = b at *
          have hfs : Hid (obsS b t = if (obsT b t).2 = 0 then (obsT b t).1 else b) := Lib.hid rfl
          generalize obsT b t = res at *
          obtain ⟨rb, re⟩ := res
          simp only at hfs
          clear x1 x2 hX hql hkn
          go_upto_region 12 with fail
          clear q1 q2
          have XP := Lib.hid (box_new (W := wr) (g := wr.heap.size) 28 #[.slice E1 L1 e1, .slice E2 L2 e2] (by simp))
          have hba := (below_alloc wr (.cells #[.slice E1 L1 e1, .slice E2 L2 e2] 28))
          replace XR := Lib.hid (XR.out.below hba)
          replace XB := Lib.hid (XB.out.below hba)
          replace HBD := Lib.hid (HBD.out.below hba)
          replace HB := Lib.hid (below_step HB.out hba)
          clear hba
          generalize wr.alloc (.cells #[.slice E1 L1 e1, .slice E2 L2 e2] 28) = w4 at *
          have XB_0 := XB.out.at_ 0 _ rfl
          have XB_1 := XB.out.at_ 1 _ rfl
          have XB_2 := XB.out.at_ 2 _ rfl
          have XB_3 := XB.out.at_ 3 _ rfl
          have XB_4 := XB.out.at_ 4 _ rfl
          have XP_0 := XP.out.at_ 0 _ rfl
          have XP_1 := XP.out.at_ 1 _ rfl
          go_wp2_with fail
          clear XB_0 XB_1 XB_2 XB_3 XB_4 XP_0 XP_1
          refine (CS.out w4 _ _ _ _ _ _ _ _ _ _ _ _ HBD.out (X1.out _ HB.out) (X2.out _ HB.out) HB.out).mono ?_; rintro e w5 ⟨v', rfl, hbd', hb⟩
          replace XR := Lib.hid (XR.out.below hb)
          replace XB := Lib.hid (XB.out.below hb)
          replace HBD := Lib.hid (HBD.out.below hb)
          replace XP := Lib.hid (XP.out.below hb)
          replace HB := Lib.hid (below_step HB.out hb)
          clear hb
          obtain ⟨FA, fc, FA2, fc2, fn, fg, rfl, -, -⟩ := hbd'.cells
          have HNX := Lib.hid (hbd'.mono (Nat.zero_le w.heap.size))
          clear hbd' CS
          obtain ⟨rord, rkey, rwant, rmat, rwrg⟩ := rb
          simp only at HNX
          go_upto_region 13 with fail
          have XN := Lib.hid (box_new (W := w5) (g := w5.heap.size) 25 #[.bool rord, .string rkey, .slice FA fn fc, .int .i64 rmat, .slice FA2 fg fc2] (by simp))
          have hba := (below_alloc w5 (.cells #[.bool rord, .string rkey, .slice FA fn fc, .int .i64 rmat, .slice FA2 fg fc2] 25))
          replace XR := Lib.hid (XR.out.below hba)
          replace XB := Lib.hid (XB.out.below hba)
          replace HBD := Lib.hid (HBD.out.below hba)
          replace XP := Lib.hid (XP.out.below hba)
          replace HNX := Lib.hid (HNX.out.below hba)
          replace HB := Lib.hid (below_step HB.out hba)
          clear hba
          generalize w5.alloc (.cells #[.bool rord, .string rkey, .slice FA fn fc, .int .i64 rmat, .slice FA2 fg fc2] 25) = w6 at *
          by_cases hre : re = 0
          · have f1 : (re == 0) = true := by simpa using hre
            have HF2 : Hid (obsS b t = ⟨rord, rkey, rwant, rmat, rwrg⟩) := Lib.hid (by rw [hfs.out, if_pos hre])
            have HLXB := Lib.hid XB.out.lt
            clear hfs hre
            have XN_0 := XN.out.at_ 0 _ rfl
            have XN_1 := XN.out.at_ 1 _ rfl
            have XN_2 := XN.out.at_ 2 _ rfl
            have XN_3 := XN.out.at_ 3 _ rfl
            have XN_4 := XN.out.at_ 4 _ rfl
            have XB_0 := XB.out.at_ 0 _ rfl
            have XB_1 := XB.out.at_ 1 _ rfl
            have XB_2 := XB.out.at_ 2 _ rfl
            have XB_3 := XB.out.at_ 3 _ rfl
            have XB_4 := XB.out.at_ 4 _ rfl
            have XB_l := XB.out.lt
            have XB_z0 := XB.out.frozen 0
            have XB_z1 := XB.out.frozen 1
            have XB_z2 := XB.out.frozen 2
            have XB_z3 := XB.out.frozen 3
            have XB_z4 := XB.out.frozen 4
            go_wp2_with fail
            go_roundw
            case rel =>
              refine ⟨k + 1, rord, rkey, rmat, FA, FA2, fn, fg, fc, fc2, by omega, by go_num, ?_, ?_, ?_, ?_⟩
              · rw [HST.out, HF2.out]
                exact HNX.out.set5 XB.out (by decide) (by have := HL2.out; omega) (.bool rord) (.string rkey) (.slice FA fn fc) (.int .i64 rmat) (.slice FA2 fg fc2)
              · exact set5_box (.bool rord) (.string rkey) (.slice FA fn fc) (.int .i64 rmat) (.slice FA2 fg fc2) XR.out (by have := HL2.out; omega)
              · exact ((((XB.out.set_ 0 (.bool rord)).set_ 1 (.string rkey)).set_ 2 (.slice FA fn fc)).set_ 3 (.int .i64 rmat)).set_ 4 (.slice FA2 fg fc2)
              · exact set5_below (.bool rord) (.string rkey) (.slice FA fn fc) (.int .i64 rmat) (.slice FA2 fg fc2) HB.out (by have := HL2.out; omega)
            case measure => simp [intOf]; omega
          · have f1 : (re == 0) = false := by simpa using hre
            have HF2 : Hid (obsS b t = b) := Lib.hid (by rw [hfs.out, if_neg hre])
            clear hfs hre
            go_wp2_with fail
            go_roundw
            case rel =>
              refine ⟨k + 1, bo, bs, bm, BA, BA2, bn, bg, bc, bc2, by omega, by go_num, ?_, XR.out, XB.out, HB.out⟩
              rw [HST.out, HF2.out]; exact HBD.out
            case measure => simp [intOf]; omega
        · have hlt2 : ¬ (k : Int) < M := by omega
          have hkN : k = M := by omega
          replace HBD : Hid (BDF _ w.heap.size (.agg #[.bool bo, .string bs, .slice BA bn bc, .int .i64 bm, .slice BA2 bg bc2]) (gs.foldl obsS b1)) := Lib.hid (by
            have := HBD.out
            rwa [hkN, HM.out, List.take_length] at this)
          clear hkN hlt CO HS2 HX2
          generalize gs.foldl obsS b1 = b2 at *
          have XB_0 := XB.out.at_ 0 _ rfl
          have XB_1 := XB.out.at_ 1 _ rfl
          have XB_2 := XB.out.at_ 2 _ rfl
          have XB_3 := XB.out.at_ 3 _ rfl
          have XB_4 := XB.out.at_ 4 _ rfl
          go_wp2_with fail
          clear XB_0 XB_1 XB_2 XB_3 XB_4
          refine (CF.out _ _ _ _ _ _ _ _ _ _ _ _ rfl HBD.out HB.out).mono ?_; rintro e w7 ⟨v', rfl, hbd', hb⟩
          replace XR := Lib.hid (XR.out.below hb)
          replace HB := Lib.hid (below_step HB.out hb)
          clear hb
          rw [← HR.out] at hbd'
          clear HR
          obtain ⟨rord, rkey, rwant, rmat, rwrg⟩ := r
          obtain ⟨FA, fc, FA2, fc2, fn, fg, rfl, -, -⟩ := hbd'.cells
          simp only at *
          have HNX := Lib.hid hbd'
          clear hbd' CF
          have XR_0 := XR.out.at_ 0 _ rfl
          have XR_1 := XR.out.at_ 1 _ rfl
          have XR_2 := XR.out.at_ 2 _ rfl
          have XR_3 := XR.out.at_ 3 _ rfl
          have XR_4 := XR.out.at_ 4 _ rfl
          have XR_l := XR.out.lt
          have XR_z0 := XR.out.frozen 0
          have XR_z1 := XR.out.frozen 1
          have XR_z2 := XR.out.frozen 2
          have XR_z3 := XR.out.frozen 3
          have XR_z4 := XR.out.frozen 4
          go_wp2_with fail
          refine bodyPost_ret (v := .agg #[.bool rord, .string rkey, .slice FA fn fc, .int .i64 rmat, .slice FA2 fg fc2]) (by simp [results, Tryd.results22, go_sem, XR_0, XR_1, XR_2, XR_3, XR_4, XR_l]) rfl ?_
          exact ⟨_, rfl, HNX.out.set5 XR.out (by decide) (Nat.zero_le _) (.bool rord) (.string rkey) (.slice FA fn fc) (.int .i64 rmat) (.slice FA2 fg fc2), set5_below (.bool rord) (.string rkey) (.slice FA fn fc) (.int .i64 rmat) (.slice FA2 fg fc2) HB.out (Nat.le_refl _)⟩

end Go.Proofs.YtldafnjbgjagiaaDoor

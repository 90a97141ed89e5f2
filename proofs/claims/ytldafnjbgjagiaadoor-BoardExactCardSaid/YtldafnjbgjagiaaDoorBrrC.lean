/-
  Contracts of the reference's board: Expect, place.
-/
import Derived.Test.YtldafnjbgjagiaaDoorBrrB
namespace Go.Proofs.YtldafnjbgjagiaaDoor
open Go.RowKit
set_option linter.unusedVariables false
set_option linter.unusedSimpArgs false

theorem BDF.rdF {w : World} {C N G c c2 : Nat} {A A2 : Option Addr} {b : Bd} {o : Bool} {s : ByteArray} {m : Int} (h : BDF w C (.agg #[.bool o, .string s, .slice A N c, .int .i64 m, .slice A2 G c2]) b) :
    b.ord = o ∧ b.key = s ∧ b.mat = m ∧ N = b.want.length ∧ G = b.wrg.length ∧ Rs txR w (.slice A b.want.length c) b.want (Ty w C txR.ts) ∧ SL w (.slice A2 b.wrg.length c2) b.wrg := by
  obtain ⟨wv, gv, e, ⟨h1, h2⟩, h3, h4⟩ := h
  simp [BV] at e
  obtain ⟨rfl, rfl, rfl, rfl, rfl⟩ := e
  obtain ⟨A', c', e1, _⟩ := h1.slice
  obtain ⟨A2', c2', e2, _⟩ := id h3
  simp only [Value.slice.injEq] at e1 e2
  obtain ⟨rfl, rfl, rfl⟩ := e1
  obtain ⟨rfl, rfl, rfl⟩ := e2
  exact ⟨rfl, rfl, rfl, rfl, rfl, h1, h3⟩
theorem txr_move {w w' : World} {C : Nat} {us : List Value} {t : Tx} (h : txR.R w us t (Ty w C txR.ts)) (hb : Below w.heap.size w w') : txR.R w' us t (Ty w' C txR.ts) := rd_move h hb.size fun b hl _ => hb.block b hl
theorem rcpy_cur {w w' : World} {C : Nat} {b : Bd} {e : Ending} (h : RCPY w C b e w') : ∃ OA oc QA qc, e = .returned (.agg #[.bool b.ord, .string b.key, .slice OA b.want.length oc, .int .i64 b.mat, .slice QA b.wrg.length qc]) ∧
    OG txR w' w.heap.size C 28 (.slice OA b.want.length oc) b.want ∧ OG strR w' w.heap.size 0 9 (.slice QA b.wrg.length qc) b.wrg ∧ Below w.heap.size w w' := by
  obtain ⟨OA, oc, QA, qc, wm, rfl, ⟨h1, hwm, hk, h2⟩, hb⟩ := h
  refine ⟨OA, oc, QA, qc, rfl, h1.bx hk (by decide) (by decide), ?_, hb⟩
  obtain ⟨⟨hT, _⟩, uss, hl, ho, hc⟩ := h2
  exact ⟨⟨hT, Nat.zero_le _⟩, uss, hl, own_mono ho hwm.size, hc⟩
set_option maxRecDepth 100000 in
set_option maxHeartbeats 8000000 in
theorem brrExpect (w : World) (b : Bd) (t : Tx) (C : Nat) (A1 A2 : Option Addr) (c1 c2 : Nat) (v1 v2 : Value) (h1 : Rs txR w (.slice A1 b.want.length c1) b.want (Ty w C txR.ts)) (h2 : SL w (.slice A2 b.wrg.length c2) b.wrg) (st : txR.R w [v1, v2] t (Ty w C txR.ts)) (hC : C ≤ w.heap.size) (n1 : b.want.length ≤ 9223372036854775807) (n2 : b.wrg.length ≤ 9223372036854775807) (hz : ∀ t ∈ b.want, TZ t) (tz : TZ t) :
    Calls Tryd.prog 10 #[.agg #[.bool b.ord, .string b.key, .slice A1 b.want.length c1, .int .i64 b.mat, .slice A2 b.wrg.length c2], .agg #[v1, v2]] w (RETB w C (expT b t)) := by
  obtain ⟨i0, hi0, hz0, hz1, hz2⟩ := info_parts itxn
  have HI := Lib.hid hi0
  have HZ0 := Lib.hid hz0
  have HZ1 := Lib.hid hz1
  have HZ2 := Lib.hid hz2
  have HCW := Lib.hid hC
  have H1 : Hid (∀ W, Below w.heap.size w W → Rs txR W (.slice A1 b.want.length c1) b.want (Ty W C txR.ts)) := Lib.hid fun W hW => (h1.below hW).mono fun q hq => hq.below hW
  have H2 : Hid (∀ W, Below w.heap.size w W → SL W (.slice A2 b.wrg.length c2) b.wrg) := Lib.hid fun W hW => h2.below hW
  obtain ⟨v1', v2', he, s1, s2, _⟩ := id st
  obtain ⟨rfl, rfl⟩ : v1 = v1' ∧ v2 = v2' := by simpa using he
  have ST : Hid (∀ W, Below w.heap.size w W → txR.R W [v1, v2] t (Ty W C txR.ts)) := Lib.hid fun W hW => txr_move st hW
  have CA : Hid (∀ W, Below w.heap.size w W → Calls Tryd.prog 33 #[.agg #[.bool b.ord, .string b.key, .slice A1 b.want.length c1, .int .i64 b.mat, .slice A2 b.wrg.length c2], .agg #[v1, v2]] W fun e w' => e = .returned (.int .i64 (askT b t)) ∧ Below W.heap.size W w') := Lib.hid fun W hW =>
    brrWrong W b t _ _ v1 v2 ((H1.out W hW).mono fun _ _ => trivial) (H2.out W hW) (s1.below hW) (s2.below hW) n1 n2 hz tz
  have CC : Hid (OkB b → ∀ W, Below w.heap.size w W → Calls Tryd.prog 34 #[.agg #[.bool b.ord, .string b.key, .slice A1 b.want.length c1, .int .i64 b.mat, .slice A2 b.wrg.length c2]] W fun e w' => ∃ OA oc QA qc, e = .returned (.agg #[.bool b.ord, .string b.key, .slice OA b.want.length oc, .int .i64 b.mat, .slice QA b.wrg.length qc]) ∧
    OG txR w' W.heap.size C 28 (.slice OA b.want.length oc) b.want ∧ OG strR w' W.heap.size 0 9 (.slice QA b.wrg.length qc) b.wrg ∧ Below W.heap.size W w') := Lib.hid fun hok W hW =>
    (brrCopied W b C A1 A2 c1 c2 (H1.out W hW) (H2.out W hW) (Nat.le_trans hC hW.size) (by have := hok.1; omega) (by have := hok.2.1; omega)).mono fun _ _ h => rcpy_cur h
  obtain ⟨B1, d1, rfl, -⟩ := id s1
  obtain ⟨B2, d2, rfl, -⟩ := id s2
  have hw := exp_ways b t
  generalize expT b t = r at *
  clear h1 h2 s1 s2 st hz tz hC hi0 hz0 hz1 hz2 he
  rcases hw with ⟨c, hc, ha, rfl⟩ | ⟨ha, hok, htv, hfull, rfl⟩ | ⟨ha, hok, htv, hfull, rfl⟩
  case inl =>
    rw [ha] at CA
    have f1 : (c != 0) = true := by simpa using hc
    obtain ⟨ord, key, want, mat, wrg⟩ := b
    simp only at *
    generalize want.length = N at *
    generalize wrg.length = G at *
    generalize t.1.length = L1 at *
    generalize t.2.length = L2 at *
    clear hc ha CC
    go_enter Tryd.func10, Tryd.ntmps10
    go_wp2_with fail
    have XA := Lib.hid (((box_new (W := w) (g := w.heap.size) 25 #[.bool ord, .string key, .slice A1 N c1, .int .i64 mat, .slice A2 G c2] (by simp)).below (below_alloc _ (.cells #[.slice B1 L1 d1, .slice B2 L2 d2] 28))).below (below_alloc _ (.cells #[.bool false, .string ⟨#[]⟩, .slice none 0 0, .int .i64 0, .slice none 0 0] 25)))
    have XB := Lib.hid ((box_new (W := (w.alloc (.cells #[.bool ord, .string key, .slice A1 N c1, .int .i64 mat, .slice A2 G c2] 25))) (g := w.heap.size + 1) 28 #[.slice B1 L1 d1, .slice B2 L2 d2] (by simp)).below (below_alloc _ (.cells #[.bool false, .string ⟨#[]⟩, .slice none 0 0, .int .i64 0, .slice none 0 0] 25)))
    have XR := Lib.hid (box_new (W := ((w.alloc (.cells #[.bool ord, .string key, .slice A1 N c1, .int .i64 mat, .slice A2 G c2] 25)).alloc (.cells #[.slice B1 L1 d1, .slice B2 L2 d2] 28))) (g := w.heap.size + 1 + 1) 25 #[.bool false, .string ⟨#[]⟩, .slice none 0 0, .int .i64 0, .slice none 0 0] (by simp))
    have HB := Lib.hid (below_step (below_step (below_alloc w (.cells #[.bool ord, .string key, .slice A1 N c1, .int .i64 mat, .slice A2 G c2] 25)) (below_alloc (w.alloc (.cells #[.bool ord, .string key, .slice A1 N c1, .int .i64 mat, .slice A2 G c2] 25)) (.cells #[.slice B1 L1 d1, .slice B2 L2 d2] 28))) (below_alloc ((w.alloc (.cells #[.bool ord, .string key, .slice A1 N c1, .int .i64 mat, .slice A2 G c2] 25)).alloc (.cells #[.slice B1 L1 d1, .slice B2 L2 d2] 28)) (.cells #[.bool false, .string ⟨#[]⟩, .slice none 0 0, .int .i64 0, .slice none 0 0] 25)))
    generalize ((w.alloc (.cells #[.bool ord, .string key, .slice A1 N c1, .int .i64 mat, .slice A2 G c2] 25)).alloc (.cells #[.slice B1 L1 d1, .slice B2 L2 d2] 28)).alloc (.cells #[.bool false, .string ⟨#[]⟩, .slice none 0 0, .int .i64 0, .slice none 0 0] 25) = w1 at *
    refine (CA.out _ HB.out).mono ?_; rintro e w2 ⟨rfl, hb⟩
    replace XA := Lib.hid (XA.out.below hb)
    replace XB := Lib.hid (XB.out.below hb)
    replace XR := Lib.hid (XR.out.below hb)
    replace HB := Lib.hid (below_step HB.out hb)
    clear hb
    have XR_0 := XR.out.at_ 0 _ rfl
    have XR_1 := XR.out.at_ 1 _ rfl
    have XR_2 := XR.out.at_ 2 _ rfl
    have XR_3 := XR.out.at_ 3 _ rfl
    have XR_4 := XR.out.at_ 4 _ rfl
    have XR_l := XR.out.lt
    have XR_z0 := XR.out.frozen 0
    have XR_z1 := XR.out.frozen 1
    have XR_z2 := XR.out.frozen 2
    have XR_z3 := XR.out.frozen 3
    have XR_z4 := XR.out.frozen 4
    go_wp2_with fail
    refine bodyPost_ret (v := .tuple #[.agg #[.bool false, .string ⟨#[]⟩, .slice none 0 0, .int .i64 0, .slice none 0 0], .int .i64 c]) (by simp [results, Tryd.results10, go_sem, XR_0, XR_1, XR_2, XR_3, XR_4, XR_l]) rfl ?_
    exact ⟨_, rfl, BDF.zero _ _, set5_below _ _ _ _ _ HB.out (by omega)⟩
  case inr.inl =>
    rw [ha] at CA
    have hN0 := hok.1
    obtain ⟨ord, key, want, mat, wrg⟩ := b
    simp only at *
    generalize want.length = N at *
    generalize wrg.length = G at *
    generalize t.1.length = L1 at *
    generalize t.2.length = L2 at *
    have f1 : ((N : Int) == 1024) = true := by have : (N : Int) = 1024 := by omega
                                               simpa using this
    clear ha hok htv hfull CC hN0
    go_enter Tryd.func10, Tryd.ntmps10
    go_wp2_with fail
    have XA := Lib.hid (((box_new (W := w) (g := w.heap.size) 25 #[.bool ord, .string key, .slice A1 N c1, .int .i64 mat, .slice A2 G c2] (by simp)).below (below_alloc _ (.cells #[.slice B1 L1 d1, .slice B2 L2 d2] 28))).below (below_alloc _ (.cells #[.bool false, .string ⟨#[]⟩, .slice none 0 0, .int .i64 0, .slice none 0 0] 25)))
    have XB := Lib.hid ((box_new (W := (w.alloc (.cells #[.bool ord, .string key, .slice A1 N c1, .int .i64 mat, .slice A2 G c2] 25))) (g := w.heap.size + 1) 28 #[.slice B1 L1 d1, .slice B2 L2 d2] (by simp)).below (below_alloc _ (.cells #[.bool false, .string ⟨#[]⟩, .slice none 0 0, .int .i64 0, .slice none 0 0] 25)))
    have XR := Lib.hid (box_new (W := ((w.alloc (.cells #[.bool ord, .string key, .slice A1 N c1, .int .i64 mat, .slice A2 G c2] 25)).alloc (.cells #[.slice B1 L1 d1, .slice B2 L2 d2] 28))) (g := w.heap.size + 1 + 1) 25 #[.bool false, .string ⟨#[]⟩, .slice none 0 0, .int .i64 0, .slice none 0 0] (by simp))
    have HB := Lib.hid (below_step (below_step (below_alloc w (.cells #[.bool ord, .string key, .slice A1 N c1, .int .i64 mat, .slice A2 G c2] 25)) (below_alloc (w.alloc (.cells #[.bool ord, .string key, .slice A1 N c1, .int .i64 mat, .slice A2 G c2] 25)) (.cells #[.slice B1 L1 d1, .slice B2 L2 d2] 28))) (below_alloc ((w.alloc (.cells #[.bool ord, .string key, .slice A1 N c1, .int .i64 mat, .slice A2 G c2] 25)).alloc (.cells #[.slice B1 L1 d1, .slice B2 L2 d2] 28)) (.cells #[.bool false, .string ⟨#[]⟩, .slice none 0 0, .int .i64 0, .slice none 0 0] 25)))
    generalize ((w.alloc (.cells #[.bool ord, .string key, .slice A1 N c1, .int .i64 mat, .slice A2 G c2] 25)).alloc (.cells #[.slice B1 L1 d1, .slice B2 L2 d2] 28)).alloc (.cells #[.bool false, .string ⟨#[]⟩, .slice none 0 0, .int .i64 0, .slice none 0 0] 25) = w1 at *
    refine (CA.out _ HB.out).mono ?_; rintro e w2 ⟨rfl, hb⟩
    replace XA := Lib.hid (XA.out.below hb)
    replace XB := Lib.hid (XB.out.below hb)
    replace XR := Lib.hid (XR.out.below hb)
    replace HB := Lib.hid (below_step HB.out hb)
    clear hb
    have XA_2 := XA.out.at_ 2 _ rfl
    have XR_0 := XR.out.at_ 0 _ rfl
    have XR_1 := XR.out.at_ 1 _ rfl
    have XR_2 := XR.out.at_ 2 _ rfl
    have XR_3 := XR.out.at_ 3 _ rfl
    have XR_4 := XR.out.at_ 4 _ rfl
    have XR_l := XR.out.lt
    have XR_z0 := XR.out.frozen 0
    have XR_z1 := XR.out.frozen 1
    have XR_z2 := XR.out.frozen 2
    have XR_z3 := XR.out.frozen 3
    have XR_z4 := XR.out.frozen 4
    go_wp2_with fail
    refine bodyPost_ret (v := .tuple #[.agg #[.bool false, .string ⟨#[]⟩, .slice none 0 0, .int .i64 0, .slice none 0 0], .int .i64 16]) (by simp [results, Tryd.results10, go_sem, XR_0, XR_1, XR_2, XR_3, XR_4, XR_l]) rfl ?_
    exact ⟨_, rfl, BDF.zero _ _, set5_below _ _ _ _ _ HB.out (by omega)⟩
  case inr.inr =>
    rw [ha] at CA
    have CC2 := Lib.hid (CC.out hok)
    obtain ⟨ord, key, want, mat, wrg⟩ := b
    simp only at *
    obtain ⟨N, hN⟩ : ∃ N, N = want.length := ⟨_, rfl⟩
    have HN := Lib.hid hN
    have hf2 : N < 1024 := by omega
    have f1 : ((N : Int) == 1024) = false := by have : ¬ (N : Int) = 1024 := by omega
                                                simpa using this
    obtain ⟨G, hG⟩ : ∃ G, G = wrg.length := ⟨_, rfl⟩
    have HGL := Lib.hid hG
    obtain ⟨L1, hL1⟩ : ∃ n, n = t.1.length := ⟨_, rfl⟩
    obtain ⟨L2, hL2⟩ : ∃ n, n = t.2.length := ⟨_, rfl⟩
    rw [← hN] at CA CC2 ⊢
    rw [← hG] at CA CC2 ⊢
    rw [← hL1] at CA ST ⊢
    rw [← hL2] at CA ST ⊢
    clear ha hok htv hfull CC hN hG hL1 hL2 n1 n2 H1 H2
    go_enter Tryd.func10, Tryd.ntmps10
    go_wp2_with fail
    have XA := Lib.hid (((box_new (W := w) (g := w.heap.size) 25 #[.bool ord, .string key, .slice A1 N c1, .int .i64 mat, .slice A2 G c2] (by simp)).below (below_alloc _ (.cells #[.slice B1 L1 d1, .slice B2 L2 d2] 28))).below (below_alloc _ (.cells #[.bool false, .string ⟨#[]⟩, .slice none 0 0, .int .i64 0, .slice none 0 0] 25)))
    have XB := Lib.hid ((box_new (W := (w.alloc (.cells #[.bool ord, .string key, .slice A1 N c1, .int .i64 mat, .slice A2 G c2] 25))) (g := w.heap.size + 1) 28 #[.slice B1 L1 d1, .slice B2 L2 d2] (by simp)).below (below_alloc _ (.cells #[.bool false, .string ⟨#[]⟩, .slice none 0 0, .int .i64 0, .slice none 0 0] 25)))
    have XR := Lib.hid (box_new (W := ((w.alloc (.cells #[.bool ord, .string key, .slice A1 N c1, .int .i64 mat, .slice A2 G c2] 25)).alloc (.cells #[.slice B1 L1 d1, .slice B2 L2 d2] 28))) (g := w.heap.size + 1 + 1) 25 #[.bool false, .string ⟨#[]⟩, .slice none 0 0, .int .i64 0, .slice none 0 0] (by simp))
    have HB := Lib.hid (below_step (below_step (below_alloc w (.cells #[.bool ord, .string key, .slice A1 N c1, .int .i64 mat, .slice A2 G c2] 25)) (below_alloc (w.alloc (.cells #[.bool ord, .string key, .slice A1 N c1, .int .i64 mat, .slice A2 G c2] 25)) (.cells #[.slice B1 L1 d1, .slice B2 L2 d2] 28))) (below_alloc ((w.alloc (.cells #[.bool ord, .string key, .slice A1 N c1, .int .i64 mat, .slice A2 G c2] 25)).alloc (.cells #[.slice B1 L1 d1, .slice B2 L2 d2] 28)) (.cells #[.bool false, .string ⟨#[]⟩, .slice none 0 0, .int .i64 0, .slice none 0 0] 25)))
    generalize ((w.alloc (.cells #[.bool ord, .string key, .slice A1 N c1, .int .i64 mat, .slice A2 G c2] 25)).alloc (.cells #[.slice B1 L1 d1, .slice B2 L2 d2] 28)).alloc (.cells #[.bool false, .string ⟨#[]⟩, .slice none 0 0, .int .i64 0, .slice none 0 0] 25) = w1 at *
    refine (CA.out _ HB.out).mono ?_; rintro e w2 ⟨rfl, hb⟩
    replace XA := Lib.hid (XA.out.below hb)
    replace XB := Lib.hid (XB.out.below hb)
    replace XR := Lib.hid (XR.out.below hb)
    replace HB := Lib.hid (below_step HB.out hb)
    clear hb
    have XA_0 := XA.out.at_ 0 _ rfl
    have XA_1 := XA.out.at_ 1 _ rfl
    have XA_2 := XA.out.at_ 2 _ rfl
    have XA_3 := XA.out.at_ 3 _ rfl
    have XA_4 := XA.out.at_ 4 _ rfl
    go_wp2_with fail
    clear XA_0 XA_1 XA_2 XA_3 XA_4
    refine (CC2.out _ HB.out).mono ?_; rintro e w3 ⟨OA, oc, QA, qc, rfl, hog, hqg, hb⟩
    have HLE := Lib.hid HB.out.size
    have HLE2 := Lib.hid hb.size
    have HLR := Lib.hid XR.out.lt
    have HOG := Lib.hid hog
    have HQG := Lib.hid hqg
    clear hog hqg XA CC2
    replace XB := Lib.hid (XB.out.below hb)
    replace XR := Lib.hid (XR.out.below hb)
    replace HB := Lib.hid (below_step HB.out hb)
    clear hb
    go_upto_region 7 with fail
    have hba0 := below_alloc w3 (.cells #[.bool ord, .string key, .slice OA N oc, .int .i64 mat, .slice QA G qc] 25)
    replace HOG := Lib.hid (HOG.out.below hba0)
    replace HQG := Lib.hid (HQG.out.below hba0)
    have HL34 := Lib.hid hba0.size
    clear hba0
    have XO := Lib.hid (box_new (W := w3) (g := w3.heap.size) 25 #[.bool ord, .string key, .slice OA N oc, .int .i64 mat, .slice QA G qc] (by simp))
    have hba := (below_alloc w3 (.cells #[.bool ord, .string key, .slice OA N oc, .int .i64 mat, .slice QA G qc] 25))
    replace XB := Lib.hid (XB.out.below hba)
    replace XR := Lib.hid (XR.out.below hba)
    replace HB := Lib.hid (below_step HB.out hba)
    clear hba
    generalize w3.alloc (.cells #[.bool ord, .string key, .slice OA N oc, .int .i64 mat, .slice QA G qc] 25) = w4 at *
    have hbl := below_alloc w4 (.cells #[.slice B1 L1 d1, .slice B2 L2 d2] 28)
    have HR4 : Hid (Rs txR (w4.alloc (.cells #[.slice B1 L1 d1, .slice B2 L2 d2] 28)) (.slice (some ⟨w4.heap.size, 0, none⟩) 1 1) [t] (Ty (w4.alloc (.cells #[.slice B1 L1 d1, .slice B2 L2 d2] 28)) C txR.ts)) :=
      Lib.hid ((Rs.one (ST.out _ HB.out) 28).mono fun q hq => hq.below hbl)
    have HOGa := Lib.hid (HOG.out.below hbl)
    have HQGa := Lib.hid (HQG.out.below hbl)
    have XOa := Lib.hid (XO.out.below hbl)
    have XRa := Lib.hid (XR.out.below hbl)
    have HBa := Lib.hid (below_step HB.out hbl)
    have HL45 := Lib.hid hbl.size
    clear hbl
    have XO_2 := XO.out.at_ 2 _ rfl
    have XB_0 := XB.out.at_ 0 _ rfl
    have XB_1 := XB.out.at_ 1 _ rfl
    go_wp2_with (at_builtin; refine wpList_append_og (φ := txR) (T := 28) (B := w2.heap.size) (C := C) (xs := want) (ys := [t]) rfl _ _ 22 rfl i0 (.agg #[.slice none 0 0, .slice none 0 0]) 48 Tryd.underlying22 HI.out HZ0.out HZ1.out HZ2.out rfl rfl HOGa.out (.slice (some ⟨w4.heap.size, 0, none⟩) 1 1) rfl HR4.out ?c1 ?c2 ?c3 ?_)
    case c1 => simp only [List.length_cons, List.length_nil]; rw [← HN.out]; omega
    case c2 => simp only [List.length_cons, List.length_nil]; rw [← HN.out]; unfold maxLen; omega
    case c3 => exact Nat.le_trans HLE2.out (Nat.le_trans HL34.out HL45.out)
    intro v' w7 hog7 hg7
    clear XO_2 XB_0 XB_1
    clear XB XR XO HQG HOG HB
    have XR := Lib.hid (HOGa.out.boxKept hg7.out XRa.out (.inl (by decide)))
    have XO := Lib.hid (HOGa.out.boxKept hg7.out XOa.out (.inl (by decide)))
    have HQG := Lib.hid (HQGa.out.growO HOGa.out hg7.out (by decide) (by decide) (Nat.zero_le _))
    have HB := Lib.hid (HOGa.out.belowG hg7.out HBa.out HBa.out.size HLE.out)
    obtain ⟨A7, c7, hv'⟩ := hog7.out.slice
    rw [show (want ++ [t]).length = N + 1 by rw [List.length_append, HN.out]; rfl] at hv'
    subst hv'
    clear HOGa HQGa XOa XRa HBa hg7 HR4
    have HOG := hog7
    have hlr := HLR.out
    have hle2 := HLE2.out
    have hcw := HCW.out
    have hle := HLE.out
    clear hog7
    have XO' := Lib.hid (XO.out.set_ 2 (.slice A7 (N + 1) c7))
    have XR' := Lib.hid (XR.out.setNe (p := ⟨w3.heap.size, 2, none⟩) (by show w3.heap.size ≠ _; first | omega | (exact boxes_apart XO.out XR.out (by decide))) (.slice A7 (N + 1) c7))
    have HOG' := Lib.hid (HOG.out.setBox XO.out (by decide) (by omega) (by decide) 2 (.slice A7 (N + 1) c7))
    have HQG' := Lib.hid (HQG.out.setBox XO.out (by decide) (by omega) (by decide) 2 (.slice A7 (N + 1) c7))
    have HB' := Lib.hid (HB.out.setCell (p := ⟨w3.heap.size, 2, none⟩) (by show w.heap.size ≤ w3.heap.size; omega) (.slice A7 (N + 1) c7))
    have XO_2 := XO.out.at_ 2 _ rfl
    have XO_l := XO.out.lt
    have XO_z2 := XO.out.frozen 2
    go_upto_region 8 with fail
    clear XO_2 XO_l XO_z2
    clear HB XO XR HOG HQG
    generalize w7.setCell ⟨w3.heap.size, 2, none⟩ (.slice A7 (N + 1) c7) = w8 at *
    have XO : Hid (Box w8 w3.heap.size #[.bool ord, .string key, .slice A7 (N + 1) c7, .int .i64 mat, .slice QA G qc] 25) := XO'
    have XR := XR'
    have HOG := HOG'
    have HQG := HQG'
    have HB := HB'
    clear HB' XO' XR' HOG' HQG'
    have XO_0 := XO.out.at_ 0 _ rfl
    have XO_1 := XO.out.at_ 1 _ rfl
    have XO_2 := XO.out.at_ 2 _ rfl
    have XO_3 := XO.out.at_ 3 _ rfl
    have XO_4 := XO.out.at_ 4 _ rfl
    have XR_0 := XR.out.at_ 0 _ rfl
    have XR_1 := XR.out.at_ 1 _ rfl
    have XR_2 := XR.out.at_ 2 _ rfl
    have XR_3 := XR.out.at_ 3 _ rfl
    have XR_4 := XR.out.at_ 4 _ rfl
    have XR_l := XR.out.lt
    have XR_z0 := XR.out.frozen 0
    have XR_z1 := XR.out.frozen 1
    have XR_z2 := XR.out.frozen 2
    have XR_z3 := XR.out.frozen 3
    have XR_z4 := XR.out.frozen 4
    go_wp2_with fail
    refine bodyPost_ret (v := .tuple #[.agg #[.bool ord, .string key, .slice A7 (N + 1) c7, .int .i64 mat, .slice QA G qc], .int .i64 0]) (by simp [results, Tryd.results10, go_sem, XR_0, XR_1, XR_2, XR_3, XR_4, XR_l]) rfl ?_
    exact ⟨_, rfl, BDF.mk (b := ⟨ord, key, want ++ [t], mat, wrg⟩) (HOG.out.set5 XR.out (by decide) (by omega) (by decide) (.bool ord) (.string key) (.slice A7 (N + 1) c7) (.int .i64 mat) (.slice QA G qc)) (HQG.out.set5 XR.out (by decide) (Nat.zero_le _) (by decide) (.bool ord) (.string key) (.slice A7 (N + 1) c7) (.int .i64 mat) (.slice QA G qc)), set5_below (.bool ord) (.string key) (.slice A7 (N + 1) c7) (.int .i64 mat) (.slice QA G qc) HB.out (by omega)⟩

theorem at_fidx (b : Bd) (t : Tx) : atT b t = fIdx (hitB b (gt t b.key).1) b.want := rfl
set_option maxRecDepth 100000 in
set_option maxHeartbeats 8000000 in
theorem brrPlace (w : World) (b : Bd) (t : Tx) (wv gv v1 v2 : Value) (h1 : Rs txR w wv b.want anyB) (h2 : SL w gv b.wrg) (s1 : SL w v1 t.1) (s2 : IL w v2 t.2) (n1 : b.want.length ≤ 9223372036854775807) (hz : ∀ t ∈ b.want, TZ t) (tz : TZ t) :
    Calls Tryd.prog 39 #[.agg #[.bool b.ord, .string b.key, wv, .int .i64 b.mat, gv], .agg #[v1, v2]] w fun e w' => e = .returned (.int .i64 (atT b t)) ∧ Below w.heap.size w w' := by
  have HX := Lib.hid h1.txs
  have S1 := Lib.hid s1
  have S2 := Lib.hid s2
  have CK := Lib.hid (fun W a1 a2 => refGet W v1 v2 t.1 t.2 b.key a1 a2 tz.1 tz.2.1)
  have CU : Hid (∀ u, u ∈ b.want → ∀ W v1 v2, SL W v1 u.1 → IL W v2 u.2 → Calls Tryd.prog 24 #[.agg #[v1, v2], .string b.key] W fun e w' => e = ret2b (getT u.1 u.2 b.key) ∧ Below W.heap.size W w') := Lib.hid fun u hu W v1 v2 a1 a2 => refGet W v1 v2 u.1 u.2 b.key a1 a2 (hz u hu).1 (hz u hu).2.1
  have HH := Lib.hid (fun k a1 a2 a3 => fidx_hit (p := hitB b (gt t b.key).1) (l := b.want) (k := k) tx0 a1 a2 a3)
  have HMI := Lib.hid (fidx_miss (p := hitB b (gt t b.key).1) (l := b.want) tx0)
  have HD : Hid (∀ u, hitB b (gt t b.key).1 u = (b.ord || decide ((getT u.1 u.2 b.key).1 = (getT t.1 t.2 b.key).1))) := Lib.hid fun u => rfl
  rw [at_fidx]
  obtain ⟨A1, c1, rfl, -⟩ := h1.slice
  obtain ⟨A2, c2, rfl, -⟩ := id h2
  obtain ⟨B1, d1, rfl, -⟩ := id s1
  obtain ⟨B2, d2, rfl, -⟩ := id s2
  generalize fIdx (hitB b (gt t b.key).1) b.want = r at *
  generalize hitB b (gt t b.key).1 = p at *
  obtain ⟨⟨z, zb⟩, hzz⟩ : ∃ q, q = getT t.1 t.2 b.key := ⟨_, rfl⟩
  rw [← hzz] at CK HD
  simp only [ret2b] at CK HD
  obtain ⟨N, hN⟩ : ∃ N, N = b.want.length := ⟨_, rfl⟩
  have HN := Lib.hid hN
  rw [← hN] at n1 ⊢
  generalize b.key = s at *
  generalize b.mat = m at *
  generalize b.ord = o at *
  generalize b.wrg.length = G at *
  generalize t.1.length = L1 at *
  generalize t.2.length = L2 at *
  clear h1 h2 s1 s2 hz tz hN hzz
  go_enter Tryd.func39, Tryd.ntmps39
  go_wp2_with fail
  have XA := Lib.hid ((box_new (W := w) (g := w.heap.size) 25 #[.bool o, .string s, .slice A1 N c1, .int .i64 m, .slice A2 G c2] (by simp)).below (below_alloc _ (.cells #[.slice B1 L1 d1, .slice B2 L2 d2] 28)))
  have XB := Lib.hid (box_new (W := (w.alloc (.cells #[.bool o, .string s, .slice A1 N c1, .int .i64 m, .slice A2 G c2] 25))) (g := w.heap.size + 1) 28 #[.slice B1 L1 d1, .slice B2 L2 d2] (by simp))
  have HB := Lib.hid (below_step (below_alloc w (.cells #[.bool o, .string s, .slice A1 N c1, .int .i64 m, .slice A2 G c2] 25)) (below_alloc (w.alloc (.cells #[.bool o, .string s, .slice A1 N c1, .int .i64 m, .slice A2 G c2] 25)) (.cells #[.slice B1 L1 d1, .slice B2 L2 d2] 28)))
  generalize (w.alloc (.cells #[.bool o, .string s, .slice A1 N c1, .int .i64 m, .slice A2 G c2] 25)).alloc (.cells #[.slice B1 L1 d1, .slice B2 L2 d2] 28) = w1 at *
  refine (CK.out _ (S1.out.below HB.out) (S2.out.below HB.out)).mono ?_; rintro e w2 ⟨rfl, hb⟩
  replace XA := Lib.hid (XA.out.below hb)
  replace XB := Lib.hid (XB.out.below hb)
  replace HB := Lib.hid (below_step HB.out hb)
  clear hb
  go_wp2_with fail
  go_loopw [7, 8, 9] (fun i _ _ wr => ∃ k : Nat, k ≤ N ∧ i = .int .i64 k ∧ Hid (∀ j, j < k → p (b.want.getD j tx0) = false) ∧ Box wr w.heap.size #[.bool o, .string s, .slice A1 N c1, .int .i64 m, .slice A2 G c2] 25 ∧ Below w.heap.size w wr) (fun i _ _ _ => N - (intOf i).toNat)
  case atStart => exact ⟨0, Nat.zero_le _, rfl, (fun j h => by omega), XA.out, HB.out⟩
  case round =>
    clear XA XB HB
    obtain ⟨k, hk, rfl, hall, hxa, hb⟩ := hrel
    have XA := Lib.hid hxa
    have HB := Lib.hid hb
    clear hxa hb
    by_cases hlt : k < N
    · have hlt2 : (k : Int) < N := by omega
      have hk0 : (0 : Int) ≤ (k : Int) := by omega
      have hkn : k < b.want.length := by rw [← HN.out]; exact hlt
      obtain ⟨A', c', eA, -, hX⟩ := HX.out
      simp only [Value.slice.injEq] at eA
      obtain ⟨rfl, -, rfl⟩ := eA
      obtain ⟨q, y, u1, u2, rfl, hql, q1, q2, x1, x2, -⟩ := hX k hkn
      have Q1 := Lib.hid (fun W (hW : Below w.heap.size w W) => (hW.cell (p := ⟨q, y + k * 2, none⟩) hql).trans q1)
      have Q2 := Lib.hid (fun W (hW : Below w.heap.size w W) => (hW.cell (p := ⟨q, y + k * 2 + 1, none⟩) hql).trans q2)
      have CU2 := Lib.hid (fun W (hW : Below w.heap.size w W) => CU.out _ (getD_mem tx0 hkn) W u1 u2 (x1.below hW) (x2.below hW))
      have H1 := Lib.hid (HH.out k hkn hall.out)
      have H2 : Hid (p (b.want.getD k tx0) = false → ∀ j, j < k + 1 → p (b.want.getD j tx0) = false) := Lib.hid fun h j hj => by
        by_cases e : j = k
        · rw [e]; exact h
        · exact hall.out j (by omega)
      have hd := HD.out (b.want.getD k tx0)
      obtain ⟨E1, e1, rfl, -⟩ := id x1
      obtain ⟨E2, e2, rfl, -⟩ := id x2
      generalize b.want.getD k tx0 = u at *
      generalize u.1.length = M1 at *
      generalize u.2.length = M2 at *
      generalize p u = pu at *
      obtain ⟨⟨g, gb⟩, hgg⟩ : ∃ q, q = getT u.1 u.2 s := ⟨_, rfl⟩
      rw [← hgg] at CU2 hd
      simp only [ret2b] at CU2 hd
      have VU := Lib.hid (fun y : Lat wr => CU2.out y.w (below_step HB.out y.h))
      clear q1 q2 x1 x2 hql hkn hX CU2 hall hgg
      have XA_2 := XA.out.at_ 2 _ rfl
      go_wp2_with fail
      clear XA_2
      have l0 := XA.out.lat 0 _ rfl
      have l1 := XA.out.lat 1 _ rfl
      have l2 := XA.out.lat 2 _ rfl
      have m1 : ∀ x : Lat wr, x.w.cell? ⟨q, y + k * 2, none⟩ = _ := fun x => Q1.out x.w (below_step HB.out x.h)
      have m2 : ∀ x : Lat wr, x.w.cell? ⟨q, y + k * 2 + 1, none⟩ = _ := fun x => Q2.out x.w (below_step HB.out x.h)
      have HDD := Lib.hid hd
      clear hd
      refine wp_region_lat (by kernel_rfl) (by kernel_rfl) ?_
      repeat (go_big_quiet_step (with_reducible exact lat_call (VU.out _)))
      refine wpQuiet_nil ?_; intro w3 hb
      clear l0 l1 l2 m1 m2 VU Q1 Q2
      replace XA := Lib.hid (XA.out.below hb)
      replace HB := Lib.hid (below_step HB.out hb)
      clear hb
      cases o
      case true =>
        have hp : pu = true := by rw [HDD.out]; rfl
        have HR := Lib.hid (H1.out hp)
        clear HDD H1 H2 hp
        have XA_0 := XA.out.at_ 0 _ rfl
        go_wp2_with fail
        go_ret
        exact ⟨ret1 HR.out.symm, HB.out⟩
      case false =>
        by_cases hgz : g = z
        · have hp : pu = true := by rw [HDD.out, hgz]; simp
          have HR := Lib.hid (H1.out hp)
          have f1 : (g == z) = true := by simpa using hgz
          clear HDD H1 H2 hp hgz
          have XA_0 := XA.out.at_ 0 _ rfl
          go_wp2_with fail
          go_ret
          exact ⟨ret1 HR.out.symm, HB.out⟩
        · have hp : pu = false := by rw [HDD.out]; simpa using hgz
          have HR := Lib.hid (H2.out hp)
          have f1 : (g == z) = false := by simpa using hgz
          clear HDD H1 H2 hp hgz
          have XA_0 := XA.out.at_ 0 _ rfl
          go_wp2_with fail
          go_roundw
          case rel => exact ⟨k + 1, by omega, by go_num, HR, XA.out, HB.out⟩
          case measure => simp [intOf]; omega
    · have hlt2 : ¬ (k : Int) < N := by omega
      have hkN : k = N := by omega
      have HR := Lib.hid (HMI.out fun j hj => hall.out j (by rw [hkN, HN.out]; exact hj))
      clear hall hkN
      have XA_2 := XA.out.at_ 2 _ rfl
      go_wp2_with fail
      go_ret
      exact ⟨ret1 HR.out.symm, HB.out⟩

end Go.Proofs.YtldafnjbgjagiaaDoor

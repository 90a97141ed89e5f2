/-
  Contract of the reference's Finish.
-/
import Derived.Test.YtldafnjbgjagiaaDoorBrrD
namespace Go.Proofs.YtldafnjbgjagiaaDoor
open Go.RowKit
set_option linter.unusedVariables false
set_option linter.unusedSimpArgs false

theorem loss_end (b : Bd) (hw : b.wrg.length ≤ 1024) (k : Nat) (h : ¬ (lossK b k).length < 1024) : ∀ n, k ≤ n → lossK b n = lossK b k := by
  intro n
  induction n with
  | zero => intro hk; rw [Nat.le_zero.1 hk]
  | succ n ih =>
    intro hk
    by_cases e : k = n + 1
    · rw [e]
    · have ih' := ih (by omega)
      rw [loss_full b n (by rw [ih']; exact h) hw, ih']
set_option maxRecDepth 100000 in
set_option maxHeartbeats 16000000 in
theorem brrFinish (w : World) (b : Bd) (D0 : Nat) (A1 A2 : Option Addr) (c1 c2 : Nat) (h1 : Rs txR w (.slice A1 b.want.length c1) b.want (Ty w D0 txR.ts)) (h2 : SL w (.slice A2 b.wrg.length c2) b.wrg) (hC : D0 ≤ w.heap.size) (n1 : b.want.length * 48 ≤ 140737488355328) (n2 : b.wrg.length * 16 ≤ 140737488355328) (hz : ∀ t ∈ b.want, TZ t) :
    Calls Tryd.prog 20 #[.agg #[.bool b.ord, .string b.key, .slice A1 b.want.length c1, .int .i64 b.mat, .slice A2 b.wrg.length c2]] w fun e w' => ∃ v, e = .returned v ∧ BDF w' D0 v (finT b) ∧ Below w.heap.size w w' := by
  obtain ⟨i0, hi0, hz0, hz1, hz2⟩ := info_parts istr
  have HI := Lib.hid hi0
  have HZ0 := Lib.hid hz0
  have HZ1 := Lib.hid hz1
  have HZ2 := Lib.hid hz2
  have HCW := Lib.hid hC
  have H1 : Hid (∀ W, Below w.heap.size w W → Rs txR W (.slice A1 b.want.length c1) b.want (Ty W D0 txR.ts)) := Lib.hid fun W hW => (h1.below hW).mono fun q hq => hq.below hW
  have CV : Hid (∀ W, Below w.heap.size w W → Calls Tryd.prog 28 #[.agg #[.bool b.ord, .string b.key, .slice A1 b.want.length c1, .int .i64 b.mat, .slice A2 b.wrg.length c2]] W fun e w' => e = .returned (.bool (okB b)) ∧ Below W.heap.size W w') := Lib.hid fun W hW =>
    brrValid W b _ _ ((H1.out W hW).mono fun _ _ => trivial) (h2.below hW) (by omega) (by omega) hz
  have CC : Hid (∀ W, Below w.heap.size w W → Calls Tryd.prog 34 #[.agg #[.bool b.ord, .string b.key, .slice A1 b.want.length c1, .int .i64 b.mat, .slice A2 b.wrg.length c2]] W fun e w' => ∃ OA oc QA qc, e = .returned (.agg #[.bool b.ord, .string b.key, .slice OA b.want.length oc, .int .i64 b.mat, .slice QA b.wrg.length qc]) ∧
    OG txR w' W.heap.size D0 28 (.slice OA b.want.length oc) b.want ∧ OG strR w' W.heap.size 0 9 (.slice QA b.wrg.length qc) b.wrg ∧ Below W.heap.size W w') := Lib.hid fun W hW =>
    (brrCopied W b D0 A1 A2 c1 c2 (H1.out W hW) (h2.below hW) (Nat.le_trans hC hW.size) n1 n2).mono fun _ _ h => rcpy_cur h
  have htx := h1.txs
  have HX := Lib.hid htx
  have hfin : Hid (finT b = if okB b = false then b else { b with want := [], wrg := lossK b b.want.length }) := Lib.hid rfl
  generalize finT b = r at *
  cases hv : okB b
  case false =>
    rw [hv] at CV
    have HR : Hid (r = b) := Lib.hid (by rw [hfin.out, if_pos hv])
    obtain ⟨ord, key, want, mat, wrg⟩ := b
    simp only at *
    obtain ⟨N, hN⟩ : ∃ N, N = want.length := ⟨_, rfl⟩
    obtain ⟨G, hG⟩ : ∃ G, G = wrg.length := ⟨_, rfl⟩
    rw [← hN] at CV CC ⊢
    rw [← hG] at CV CC ⊢
    clear hfin hv h1 h2 n1 n2 hz hN hG hi0 hz0 hz1 hz2 htx HX H1 hC
    go_enter Tryd.func20, Tryd.ntmps20
    go_wp2_with fail
    have XA := Lib.hid ((box_new (W := w) (g := w.heap.size) 25 #[.bool ord, .string key, .slice A1 N c1, .int .i64 mat, .slice A2 G c2] (by simp)).below (below_alloc _ (.cells #[.bool false, .string ⟨#[]⟩, .slice none 0 0, .int .i64 0, .slice none 0 0] 25)))
    have XR := Lib.hid (box_new (W := (w.alloc (.cells #[.bool ord, .string key, .slice A1 N c1, .int .i64 mat, .slice A2 G c2] 25))) (g := w.heap.size + 1) 25 #[.bool false, .string ⟨#[]⟩, .slice none 0 0, .int .i64 0, .slice none 0 0] (by simp))
    have HB := Lib.hid (below_step (below_alloc w (.cells #[.bool ord, .string key, .slice A1 N c1, .int .i64 mat, .slice A2 G c2] 25)) (below_alloc (w.alloc (.cells #[.bool ord, .string key, .slice A1 N c1, .int .i64 mat, .slice A2 G c2] 25)) (.cells #[.bool false, .string ⟨#[]⟩, .slice none 0 0, .int .i64 0, .slice none 0 0] 25)))
    generalize (w.alloc (.cells #[.bool ord, .string key, .slice A1 N c1, .int .i64 mat, .slice A2 G c2] 25)).alloc (.cells #[.bool false, .string ⟨#[]⟩, .slice none 0 0, .int .i64 0, .slice none 0 0] 25) = w1 at *
    refine (CV.out _ HB.out).mono ?_; rintro e w2 ⟨rfl, hb⟩
    replace XA := Lib.hid (XA.out.below hb)
    replace XR := Lib.hid (XR.out.below hb)
    replace HB := Lib.hid (below_step HB.out hb)
    clear hb
    have XA_0 := XA.out.at_ 0 _ rfl
    have XA_1 := XA.out.at_ 1 _ rfl
    have XA_2 := XA.out.at_ 2 _ rfl
    have XA_3 := XA.out.at_ 3 _ rfl
    have XA_4 := XA.out.at_ 4 _ rfl
    go_wp2_with fail
    clear XA_0 XA_1 XA_2 XA_3 XA_4
    refine (CC.out _ HB.out).mono ?_; rintro e w3 ⟨OA, oc, QA, qc, rfl, hog, hqg, hb⟩
    have HOG := Lib.hid hog
    have HQG := Lib.hid hqg
    clear hog hqg
    have hcw := HCW.out
    replace XA := Lib.hid (XA.out.below hb)
    replace XR := Lib.hid (XR.out.below hb)
    replace HB := Lib.hid (below_step HB.out hb)
    clear hb
    have XR_0 := XR.out.at_ 0 _ rfl
    have XR_1 := XR.out.at_ 1 _ rfl
    have XR_2 := XR.out.at_ 2 _ rfl
    have XR_3 := XR.out.at_ 3 _ rfl
    have XR_4 := XR.out.at_ 4 _ rfl
    have XR_l := XR.out.lt
    have XR_z0 := XR.out.frozen 0
    have XR_z1 := XR.out.frozen 1
    have XR_z2 := XR.out.frozen 2
    have XR_z3 := XR.out.frozen 3
    have XR_z4 := XR.out.frozen 4
    go_wp2_with fail
    refine bodyPost_ret (v := .agg #[.bool ord, .string key, .slice OA N oc, .int .i64 mat, .slice QA G qc]) (by simp [results, Tryd.results20, go_sem, XR_0, XR_1, XR_2, XR_3, XR_4, XR_l]) rfl ?_
    rw [HR.out]
    exact ⟨_, rfl, BDF.mk (b := ⟨ord, key, want, mat, wrg⟩) (HOG.out.set5 XR.out (by decide) (by omega) (by decide) (.bool ord) (.string key) (.slice OA N oc) (.int .i64 mat) (.slice QA G qc)) (HQG.out.set5 XR.out (by decide) (Nat.zero_le _) (by decide) (.bool ord) (.string key) (.slice OA N oc) (.int .i64 mat) (.slice QA G qc)), set5_below (.bool ord) (.string key) (.slice OA N oc) (.int .i64 mat) (.slice QA G qc) HB.out (by omega)⟩
  case true =>
    rw [hv] at CV
    have hok := okb_iff.1 hv
    have HR : Hid (r = { b with want := [], wrg := lossK b b.want.length }) := Lib.hid (by rw [hfin.out, if_neg (by simp [hv])])
    have hN1024 := hok.1
    have hG1024 := hok.2.1
    have LZ := Lib.hid (loss_zero b)
    have LS := Lib.hid (fun k h => loss_step b k h)
    have LE := Lib.hid (fun k h => loss_end b hG1024 k h b.want.length)
    have LL := Lib.hid (fun k => loss_len b k)
    have CU : Hid (∀ k, k < b.want.length → ∀ W v1 v2, SL W v1 (b.want.getD k tx0).1 → IL W v2 (b.want.getD k tx0).2 → Calls Tryd.prog 24 #[.agg #[v1, v2], .string b.key] W fun e w' => e = ret2b (getT (b.want.getD k tx0).1 (b.want.getD k tx0).2 b.key) ∧ Below W.heap.size W w') := Lib.hid fun k hk W v1 v2 a1 a2 => refGet W v1 v2 _ _ b.key a1 a2 (hz _ (getD_mem tx0 hk)).1 (hz _ (getD_mem tx0 hk)).2.1
    have LT : Hid (∀ k, k < b.want.length → 0 ≤ (getT (b.want.getD k tx0).1 (b.want.getD k tx0).2 b.key).1 ∧ (getT (b.want.getD k tx0).1 (b.want.getD k tx0).2 b.key).1 ≤ 65535) := Lib.hid fun k hk => get_word (hok.2.2.2.2 _ (getD_mem tx0 hk)).1 b.key
    have LD : Hid (∀ k, lossT b k = lineT sLost (if b.ord then (k : Int) else (getT (b.want.getD k tx0).1 (b.want.getD k tx0).2 b.key).1)) := Lib.hid fun k => rfl
    generalize hlk : lossK b = LK at *
    generalize hlt : lossT b = LT2 at *
    obtain ⟨ord, key, want, mat, wrg⟩ := b
    simp only at *
    obtain ⟨N, hN⟩ : ∃ N, N = want.length := ⟨_, rfl⟩
    obtain ⟨G, hG⟩ : ∃ G, G = wrg.length := ⟨_, rfl⟩
    have HN := Lib.hid hN
    rw [← hN] at CV CC HR hN1024 LE ⊢
    rw [← hG] at CV CC hG1024 LL ⊢
    clear hfin hv h1 h2 n1 n2 hz hN hG hi0 hz0 hz1 hz2 hok hlk hlt htx H1 hC
    go_enter Tryd.func20, Tryd.ntmps20
    go_wp2_with fail
    have XA := Lib.hid ((box_new (W := w) (g := w.heap.size) 25 #[.bool ord, .string key, .slice A1 N c1, .int .i64 mat, .slice A2 G c2] (by simp)).below (below_alloc _ (.cells #[.bool false, .string ⟨#[]⟩, .slice none 0 0, .int .i64 0, .slice none 0 0] 25)))
    have XR := Lib.hid (box_new (W := (w.alloc (.cells #[.bool ord, .string key, .slice A1 N c1, .int .i64 mat, .slice A2 G c2] 25))) (g := w.heap.size + 1) 25 #[.bool false, .string ⟨#[]⟩, .slice none 0 0, .int .i64 0, .slice none 0 0] (by simp))
    have HB := Lib.hid (below_step (below_alloc w (.cells #[.bool ord, .string key, .slice A1 N c1, .int .i64 mat, .slice A2 G c2] 25)) (below_alloc (w.alloc (.cells #[.bool ord, .string key, .slice A1 N c1, .int .i64 mat, .slice A2 G c2] 25)) (.cells #[.bool false, .string ⟨#[]⟩, .slice none 0 0, .int .i64 0, .slice none 0 0] 25)))
    generalize (w.alloc (.cells #[.bool ord, .string key, .slice A1 N c1, .int .i64 mat, .slice A2 G c2] 25)).alloc (.cells #[.bool false, .string ⟨#[]⟩, .slice none 0 0, .int .i64 0, .slice none 0 0] 25) = w1 at *
    refine (CV.out _ HB.out).mono ?_; rintro e w2 ⟨rfl, hb⟩
    replace XA := Lib.hid (XA.out.below hb)
    replace XR := Lib.hid (XR.out.below hb)
    replace HB := Lib.hid (below_step HB.out hb)
    clear hb
    have XA_0 := XA.out.at_ 0 _ rfl
    have XA_1 := XA.out.at_ 1 _ rfl
    have XA_2 := XA.out.at_ 2 _ rfl
    have XA_3 := XA.out.at_ 3 _ rfl
    have XA_4 := XA.out.at_ 4 _ rfl
    go_wp2_with fail
    clear XA_0 XA_1 XA_2 XA_3 XA_4
    refine (CC.out _ HB.out).mono ?_; rintro e w3 ⟨OA, oc, QA, qc, rfl, hog, hqg, hb⟩
    have HLE := Lib.hid HB.out.size
    have HQG := Lib.hid hqg
    have HLR := Lib.hid XR.out.lt
    have HL13 := Lib.hid hb.size
    clear hog hqg
    replace XA := Lib.hid (XA.out.below hb)
    replace XR := Lib.hid (XR.out.below hb)
    replace HB := Lib.hid (below_step HB.out hb)
    clear hb
    go_upto_region 4 with fail
    have hba0 := below_alloc w3 (.cells #[.bool ord, .string key, .slice OA N oc, .int .i64 mat, .slice QA G qc] 25)
    replace HQG := Lib.hid (HQG.out.below hba0)
    have HL34 := Lib.hid hba0.size
    clear hba0
    have XO := Lib.hid (box_new (W := w3) (g := w3.heap.size) 25 #[.bool ord, .string key, .slice OA N oc, .int .i64 mat, .slice QA G qc] (by simp))
    have hba := (below_alloc w3 (.cells #[.bool ord, .string key, .slice OA N oc, .int .i64 mat, .slice QA G qc] 25))
    replace XA := Lib.hid (XA.out.below hba)
    replace XR := Lib.hid (XR.out.below hba)
    replace HB := Lib.hid (below_step HB.out hba)
    clear hba
    generalize w3.alloc (.cells #[.bool ord, .string key, .slice OA N oc, .int .i64 mat, .slice QA G qc] 25) = w4 at *
    have hle := HLE.out
    have hlr := HLR.out
    have hl13 := HL13.out
    have XO' := Lib.hid (XO.out.set_ 2 (.slice none 0 0))
    have XA' := Lib.hid (XA.out.setNe (p := ⟨w3.heap.size, 2, none⟩) (by show w3.heap.size ≠ _; first | omega | (exact boxes_apart XO.out XA.out (by decide))) (.slice none 0 0))
    have XR' := Lib.hid (XR.out.setNe (p := ⟨w3.heap.size, 2, none⟩) (by show w3.heap.size ≠ _; first | omega | (exact boxes_apart XO.out XR.out (by decide))) (.slice none 0 0))
    have HQG' := Lib.hid (HQG.out.setBox XO.out (by decide) (by omega) (by decide) 2 (.slice none 0 0))
    have HB' := Lib.hid (HB.out.setCell (p := ⟨w3.heap.size, 2, none⟩) (by show w.heap.size ≤ w3.heap.size; omega) (.slice none 0 0))
    have XO_2 := XO.out.at_ 2 _ rfl
    have XO_l := XO.out.lt
    have XO_z2 := XO.out.frozen 2
    go_upto_region 5 with fail
    clear XO_2 XO_l XO_z2
    clear HB XO XA XR HQG
    generalize w4.setCell ⟨w3.heap.size, 2, none⟩ (.slice none 0 0) = w6 at *
    have XO : Hid (Box w6 w3.heap.size #[.bool ord, .string key, .slice none 0 0, .int .i64 mat, .slice QA G qc] 25) := XO'
    have XA := XA'
    have XR := XR'
    have HQG := HQG'
    have HB := HB'
    clear HB' XO' XA' XR' HQG'
    go_wp2_with fail
    go_loopw [4, 5] (fun j _ wr => ∃ (k : Nat) (gv : Value), k ≤ N ∧ j = .int .i64 k ∧ OG strR wr w2.heap.size 0 9 gv (LK k) ∧ Box wr w.heap.size #[.bool ord, .string key, .slice A1 N c1, .int .i64 mat, .slice A2 G c2] 25 ∧ Box wr (w.heap.size + 1) #[.bool false, .string ⟨#[]⟩, .slice none 0 0, .int .i64 0, .slice none 0 0] 25 ∧ Box wr w3.heap.size #[.bool ord, .string key, .slice none 0 0, .int .i64 mat, gv] 25 ∧ Below w.heap.size w wr ∧ w2.heap.size ≤ wr.heap.size) (fun j _ _ => N - (intOf j).toNat)
    case atStart =>
      refine ⟨0, _, Nat.zero_le _, rfl, ?_, XA.out, XR.out, XO.out, HB.out, ?_⟩
      · rw [LZ.out]; exact HQG.out
      · have := XO.out.lt; omega
    case round =>
      clear XA XR XO HB HQG
      obtain ⟨k, gv, hk, rfl, hog, hxa, hxr, hxo, hb, hsw⟩ := hrel
      have HQG := Lib.hid hog
      have XA := Lib.hid hxa
      have XR := Lib.hid hxr
      have XO := Lib.hid hxo
      have HB := Lib.hid hb
      have HSW := Lib.hid hsw
      clear hog hxa hxr hxo hb hsw
      obtain ⟨QB, qd, rfl⟩ := HQG.out.slice
      have ll := LL.out k
      have hls := LS.out k
      have hle2 := LE.out k
      obtain ⟨L, hL⟩ : ∃ L, L = (LK k).length := ⟨_, rfl⟩
      rw [← hL] at HQG XO ll hls hle2
      have HL := Lib.hid hL
      have HLS := Lib.hid hls
      have HLE3 := Lib.hid hle2
      have hL1 : L ≤ 1024 := by omega
      clear hL hls hle2 ll
      have fin : ∀ (hx : LK N = LK k), Hid (r = ⟨ord, key, [], mat, LK k⟩) := fun hx => Lib.hid (by rw [HR.out, hx])
      by_cases hlt : k < N
      case neg =>
        have hlt2 : ¬ (k : Int) < N := by omega
        have hkN : k = N := by omega
        have HR2 := fin (by rw [hkN])
        clear HLS HLE3 fin
        have XA_2 := XA.out.at_ 2 _ rfl
        have XO_0 := XO.out.at_ 0 _ rfl
        have XO_1 := XO.out.at_ 1 _ rfl
        have XO_2 := XO.out.at_ 2 _ rfl
        have XO_3 := XO.out.at_ 3 _ rfl
        have XO_4 := XO.out.at_ 4 _ rfl
        have XR_0 := XR.out.at_ 0 _ rfl
        have XR_1 := XR.out.at_ 1 _ rfl
        have XR_2 := XR.out.at_ 2 _ rfl
        have XR_3 := XR.out.at_ 3 _ rfl
        have XR_4 := XR.out.at_ 4 _ rfl
        have XR_l := XR.out.lt
        have XR_z0 := XR.out.frozen 0
        have XR_z1 := XR.out.frozen 1
        have XR_z2 := XR.out.frozen 2
        have XR_z3 := XR.out.frozen 3
        have XR_z4 := XR.out.frozen 4
        go_wp2_with fail
        refine bodyPost_ret (v := .agg #[.bool ord, .string key, .slice none 0 0, .int .i64 mat, .slice QB L qd]) (by simp [results, Tryd.results20, go_sem, XR_0, XR_1, XR_2, XR_3, XR_4, XR_l]) rfl ?_
        rw [HR2.out]
        exact ⟨_, rfl, (BDF.mk (b := ⟨ord, key, [], mat, LK k⟩) (OG.nil txR _ 0 0 _ (by decide) (Nat.zero_le _)) (HQG.out.set5 XR.out (by decide) (Nat.zero_le _) (by decide) (.bool ord) (.string key) (.slice none 0 0) (.int .i64 mat) (.slice QB L qd))).mono (Nat.zero_le _), set5_below (.bool ord) (.string key) (.slice none 0 0) (.int .i64 mat) (.slice QB L qd) HB.out (by omega)⟩
      case pos =>
        have hlt2 : (k : Int) < N := by omega
        have hk0 : (0 : Int) ≤ (k : Int) := by omega
        by_cases hroom : L < 1024
        case neg =>
          have f1 : ¬ (L : Int) < 1024 := by omega
          have HR2 := fin (HLE3.out hroom hk)
          clear HLS HLE3 fin
          have XA_2 := XA.out.at_ 2 _ rfl
          have XO_0 := XO.out.at_ 0 _ rfl
          have XO_1 := XO.out.at_ 1 _ rfl
          have XO_2 := XO.out.at_ 2 _ rfl
          have XO_3 := XO.out.at_ 3 _ rfl
          have XO_4 := XO.out.at_ 4 _ rfl
          have XR_0 := XR.out.at_ 0 _ rfl
          have XR_1 := XR.out.at_ 1 _ rfl
          have XR_2 := XR.out.at_ 2 _ rfl
          have XR_3 := XR.out.at_ 3 _ rfl
          have XR_4 := XR.out.at_ 4 _ rfl
          have XR_l := XR.out.lt
          have XR_z0 := XR.out.frozen 0
          have XR_z1 := XR.out.frozen 1
          have XR_z2 := XR.out.frozen 2
          have XR_z3 := XR.out.frozen 3
          have XR_z4 := XR.out.frozen 4
          go_wp2_with fail
          refine bodyPost_ret (v := .agg #[.bool ord, .string key, .slice none 0 0, .int .i64 mat, .slice QB L qd]) (by simp [results, Tryd.results20, go_sem, XR_0, XR_1, XR_2, XR_3, XR_4, XR_l]) rfl ?_
          rw [HR2.out]
          exact ⟨_, rfl, (BDF.mk (b := ⟨ord, key, [], mat, LK k⟩) (OG.nil txR _ 0 0 _ (by decide) (Nat.zero_le _)) (HQG.out.set5 XR.out (by decide) (Nat.zero_le _) (by decide) (.bool ord) (.string key) (.slice none 0 0) (.int .i64 mat) (.slice QB L qd))).mono (Nat.zero_le _), set5_below (.bool ord) (.string key) (.slice none 0 0) (.int .i64 mat) (.slice QB L qd) HB.out (by omega)⟩
        case pos =>
          have f1 : (L : Int) < 1024 := by omega
          have HST := Lib.hid (HLS.out hroom)
          have hkn : k < want.length := by rw [← HN.out]; exact hlt
          obtain ⟨A', c', eA, -, hX⟩ := HX.out
          simp only [Value.slice.injEq] at eA
          obtain ⟨rfl, -, rfl⟩ := eA
          obtain ⟨q, y, u1, u2, rfl, hql, q1, q2, x1, x2, -⟩ := hX k hkn
          have Q1 := Lib.hid (fun W (hW : Below w.heap.size w W) => (hW.cell (p := ⟨q, y + k * 2, none⟩) hql).trans q1)
          have Q2 := Lib.hid (fun W (hW : Below w.heap.size w W) => (hW.cell (p := ⟨q, y + k * 2 + 1, none⟩) hql).trans q2)
          have CU2 := Lib.hid (fun W (hW : Below w.heap.size w W) => CU.out k hkn W u1 u2 (x1.below hW) (x2.below hW))
          have hld := LD.out k
          have hwd := LT.out k hkn
          obtain ⟨E1, e1, rfl, -⟩ := id x1
          obtain ⟨E2, e2, rfl, -⟩ := id x2
          generalize want.getD k tx0 = u at *
          generalize u.1.length = M1 at *
          generalize u.2.length = M2 at *
          obtain ⟨⟨z, zb⟩, hgg⟩ : ∃ q, q = getT u.1 u.2 key := ⟨_, rfl⟩
          rw [← hgg] at CU2 hld hwd
          simp only [ret2b] at CU2 hld hwd
          generalize LT2 k = ln at *
          have VU := Lib.hid (fun y : Lat wr => CU2.out y.w (below_step HB.out y.h))
          obtain ⟨nn, hnn⟩ : ∃ nn : Int, nn = if ord then (k : Int) else z := ⟨_, rfl⟩
          rw [← hnn] at hld
          have hnb : 0 ≤ nn ∧ nn ≤ 65535 := by rw [hnn]; split <;> omega
          have CM := Lib.hid (fun W => brrLine W sLost nn (by decide) (by omega) (by omega))
          rw [← hld] at CM
          unfold sLost at CM
          clear q1 q2 x1 x2 hql hkn hX CU2 HLS HLE3 fin hgg hwd hld hnb
          have XA_0 := XA.out.at_ 0 _ rfl
          have XA_2 := XA.out.at_ 2 _ rfl
          have XO_4 := XO.out.at_ 4 _ rfl
          cases ord
          all_goals
            simp only [Bool.false_eq_true, if_false, if_true] at hnn
            subst hnn
          case true =>
            go_wp2_with fail
            clear XA_0 XA_2 XO_4
            clear VU Q1 Q2
            refine wp_region_gen 5 (Kit.of [gVal 3 [] (.string ln), gRs 4 [] strR [ln] 0]) (by kernel_rfl) (by kernel_rfl) (fun γ => by kernel_rfl) (by kernel_rfl) (Kit.of_stable ?_) (Kit.of_known ?_) ?_
            · intro z hz; simp only [List.mem_cons, List.not_mem_nil, or_false] at hz; rcases hz with rfl | rfl
              · apply gVal_st
              · apply gRs_st
            · intro z hz; simp only [List.mem_cons, List.not_mem_nil, or_false] at hz; rcases hz with rfl | rfl
              · apply gVal_kn
              · apply gRs_kn
            intro γ hγ C hC hne
            have e3 : γ 3 = .string ln := hγ 3 rfl
            obtain ⟨A4, c4, e4⟩ : ∃ A c, γ 4 = .slice A 1 c := hγ 4 rfl
            have l0 := XO.out.latC (C := C) 4 _ rfl
            simp only [List.take_succ_cons, List.take_zero, List.drop_succ_cons, List.drop_zero]
            iterate 3 (refine wpF_quiet rfl ?_; go_big_quiet_step (fail); refine wpQuiet_nil ?_)
            refine wpF_fresh rfl (freshAt_call (args := #[.string ⟨#[108, 111, 115, 116]⟩, .int .i64 k]) rfl _ _ _ (run_go Tryd.func40 (by kernel_rfl) (by kernel_rfl)) rfl (by simp [Act.eval]) (fun w' hb hf => (CM.out w').mono fun e w2 ⟨he, h1⟩ => ⟨_, he, rfl, h1⟩)) ?_
            simp only [Nat.zero_add, Nat.reduceAdd, e3]
            go_simp
            refine wpF_fresh rfl (freshAt_one (φ := strR) (x := ln) (B := 0) (T := 9) (us := #[.string ln]) rfl (fun w => by kernel_rfl) (fun w' hb hf => rfl) (fun v w h => h)) ?_
            simp only [Nat.zero_add, Nat.reduceAdd, e4]
            go_simp
            intro w7 hb hF
            have R4 : Rs strR w7 (γ 4) [ln] (Ty w7 0 strR.ts) := hF 4 (by decide) rfl
            rw [e4] at R4
            have HR4 := Lib.hid R4
            replace HQG := Lib.hid (HQG.out.below hb)
            replace HSW := Lib.hid (Nat.le_trans HSW.out hb.size)
            clear l0 hF hγ hC hne e3 e4 R4
            replace XA := Lib.hid (XA.out.below hb)
            replace XR := Lib.hid (XR.out.below hb)
            replace XO := Lib.hid (XO.out.below hb)
            replace HB := Lib.hid (below_step HB.out hb)
            clear hb
            go_wp2_with (at_builtin; refine wpList_append_og (φ := strR) (T := 9) (B := w2.heap.size) (C := 0) (xs := LK k) (ys := [ln]) rfl _ _ 23 rfl i0 (.string ⟨#[]⟩) 16 Tryd.underlying23 HI.out HZ0.out HZ1.out HZ2.out rfl rfl HQG.out (.slice A4 1 c4) rfl HR4.out ?c1 ?c2 ?c3 ?_)
            case c1 => simp only [List.length_cons, List.length_nil]; rw [← HL.out]; omega
            case c2 => simp only [List.length_cons, List.length_nil]; rw [← HL.out]; unfold maxLen; omega
            case c3 => exact HSW.out
            intro v' w8 hqg7 hg7
            replace XA := Lib.hid (HQG.out.boxKept hg7.out XA.out (.inl (by decide)))
            replace XR := Lib.hid (HQG.out.boxKept hg7.out XR.out (.inl (by decide)))
            replace XO := Lib.hid (HQG.out.boxKept hg7.out XO.out (.inl (by decide)))
            replace HB := Lib.hid (HQG.out.belowG hg7.out HB.out HB.out.size HLE.out)
            replace HSW := Lib.hid (Nat.le_trans HSW.out hg7.out.size)
            obtain ⟨A7, c7, hv'⟩ := hqg7.out.slice
            rw [show (LK k ++ [ln]).length = L + 1 by rw [List.length_append, HL.out]; rfl] at hv'
            subst hv'
            clear HQG hg7 HR4
            have HQG := hqg7
            clear hqg7
            have XO' := Lib.hid (XO.out.set_ 4 (.slice A7 (L + 1) c7))
            have XA' := Lib.hid (XA.out.setNe (p := ⟨w3.heap.size, 4, none⟩) (by show w3.heap.size ≠ _; first | omega | (exact boxes_apart XO.out XA.out (by decide))) (.slice A7 (L + 1) c7))
            have XR' := Lib.hid (XR.out.setNe (p := ⟨w3.heap.size, 4, none⟩) (by show w3.heap.size ≠ _; first | omega | (exact boxes_apart XO.out XR.out (by decide))) (.slice A7 (L + 1) c7))
            have HQG' := Lib.hid (HQG.out.setBox XO.out (by decide) (by omega) (by decide) 4 (.slice A7 (L + 1) c7))
            have HB' := Lib.hid (HB.out.setCell (p := ⟨w3.heap.size, 4, none⟩) (by show w.heap.size ≤ w3.heap.size; omega) (.slice A7 (L + 1) c7))
            have XO_4 := XO.out.at_ 4 _ rfl
            have XO_l := XO.out.lt
            have XO_z4 := XO.out.frozen 4
            go_upto_region 7 with fail
            clear XO_4 XO_l XO_z4
            clear HB XO XA XR HQG
            generalize w8.setCell ⟨w3.heap.size, 4, none⟩ (.slice A7 (L + 1) c7) = w9 at *
            have XO : Hid (Box w9 w3.heap.size #[.bool true, .string key, .slice none 0 0, .int .i64 mat, .slice A7 (L + 1) c7] 25) := XO'
            have XA := XA'
            have XR := XR'
            have HQG := HQG'
            have HB := HB'
            clear HB' XO' XA' XR' HQG'
            go_wp2_with fail
            go_roundw
            case rel =>
              refine ⟨k + 1, _, by omega, by go_num, ?_, XA.out, XR.out, XO.out, HB.out, ?_⟩
              · rw [HST.out]; exact HQG.out
              · have := XO.out.lt; omega
            case measure => simp [intOf]; omega
          case false =>
            go_wp2_with fail
            have l0 := XA.out.lat 2 _ rfl
            have l1 := XA.out.lat 1 _ rfl
            have m1 : ∀ x : Lat wr, x.w.cell? ⟨q, y + k * 2, none⟩ = _ := fun x => Q1.out x.w (below_step HB.out x.h)
            have m2 : ∀ x : Lat wr, x.w.cell? ⟨q, y + k * 2 + 1, none⟩ = _ := fun x => Q2.out x.w (below_step HB.out x.h)
            refine wp_region_lat (by kernel_rfl) (by kernel_rfl) ?_
            repeat (go_big_quiet_step (with_reducible exact lat_call (VU.out _)))
            refine wpQuiet_nil ?_; intro wr2 hb
            clear l0 l1 m1 m2 VU Q1 Q2
            replace HQG := Lib.hid (HQG.out.below hb)
            replace HSW := Lib.hid (Nat.le_trans HSW.out hb.size)
            replace XA := Lib.hid (XA.out.below hb)
            replace XR := Lib.hid (XR.out.below hb)
            replace XO := Lib.hid (XO.out.below hb)
            replace HB := Lib.hid (below_step HB.out hb)
            clear hb
            go_wp2_with fail
            refine wp_region_gen 5 (Kit.of [gVal 3 [] (.string ln), gRs 4 [] strR [ln] 0]) (by kernel_rfl) (by kernel_rfl) (fun γ => by kernel_rfl) (by kernel_rfl) (Kit.of_stable ?_) (Kit.of_known ?_) ?_
            · intro z hz; simp only [List.mem_cons, List.not_mem_nil, or_false] at hz; rcases hz with rfl | rfl
              · apply gVal_st
              · apply gRs_st
            · intro z hz; simp only [List.mem_cons, List.not_mem_nil, or_false] at hz; rcases hz with rfl | rfl
              · apply gVal_kn
              · apply gRs_kn
            intro γ hγ C hC hne
            have e3 : γ 3 = .string ln := hγ 3 rfl
            obtain ⟨A4, c4, e4⟩ : ∃ A c, γ 4 = .slice A 1 c := hγ 4 rfl
            have l0 := XO.out.latC (C := C) 4 _ rfl
            simp only [List.take_succ_cons, List.take_zero, List.drop_succ_cons, List.drop_zero]
            iterate 3 (refine wpF_quiet rfl ?_; go_big_quiet_step (fail); refine wpQuiet_nil ?_)
            refine wpF_fresh rfl (freshAt_call (args := #[.string ⟨#[108, 111, 115, 116]⟩, .int .i64 nn]) rfl _ _ _ (run_go Tryd.func40 (by kernel_rfl) (by kernel_rfl)) rfl (by simp [Act.eval]) (fun w' hb hf => (CM.out w').mono fun e w2 ⟨he, h1⟩ => ⟨_, he, rfl, h1⟩)) ?_
            simp only [Nat.zero_add, Nat.reduceAdd, e3]
            go_simp
            refine wpF_fresh rfl (freshAt_one (φ := strR) (x := ln) (B := 0) (T := 9) (us := #[.string ln]) rfl (fun w => by kernel_rfl) (fun w' hb hf => rfl) (fun v w h => h)) ?_
            simp only [Nat.zero_add, Nat.reduceAdd, e4]
            go_simp
            intro w7 hb hF
            have R4 : Rs strR w7 (γ 4) [ln] (Ty w7 0 strR.ts) := hF 4 (by decide) rfl
            rw [e4] at R4
            have HR4 := Lib.hid R4
            replace HQG := Lib.hid (HQG.out.below hb)
            replace HSW := Lib.hid (Nat.le_trans HSW.out hb.size)
            clear l0 hF hγ hC hne e3 e4 R4
            replace XA := Lib.hid (XA.out.below hb)
            replace XR := Lib.hid (XR.out.below hb)
            replace XO := Lib.hid (XO.out.below hb)
            replace HB := Lib.hid (below_step HB.out hb)
            clear hb
            go_wp2_with (at_builtin; refine wpList_append_og (φ := strR) (T := 9) (B := w2.heap.size) (C := 0) (xs := LK k) (ys := [ln]) rfl _ _ 23 rfl i0 (.string ⟨#[]⟩) 16 Tryd.underlying23 HI.out HZ0.out HZ1.out HZ2.out rfl rfl HQG.out (.slice A4 1 c4) rfl HR4.out ?c1 ?c2 ?c3 ?_)
            case c1 => simp only [List.length_cons, List.length_nil]; rw [← HL.out]; omega
            case c2 => simp only [List.length_cons, List.length_nil]; rw [← HL.out]; unfold maxLen; omega
            case c3 => exact HSW.out
            intro v' w8 hqg7 hg7
            replace XA := Lib.hid (HQG.out.boxKept hg7.out XA.out (.inl (by decide)))
            replace XR := Lib.hid (HQG.out.boxKept hg7.out XR.out (.inl (by decide)))
            replace XO := Lib.hid (HQG.out.boxKept hg7.out XO.out (.inl (by decide)))
            replace HB := Lib.hid (HQG.out.belowG hg7.out HB.out HB.out.size HLE.out)
            replace HSW := Lib.hid (Nat.le_trans HSW.out hg7.out.size)
            obtain ⟨A7, c7, hv'⟩ := hqg7.out.slice
            rw [show (LK k ++ [ln]).length = L + 1 by rw [List.length_append, HL.out]; rfl] at hv'
            subst hv'
            clear HQG hg7 HR4
            have HQG := hqg7
            clear hqg7
            have XO' := Lib.hid (XO.out.set_ 4 (.slice A7 (L + 1) c7))
            have XA' := Lib.hid (XA.out.setNe (p := ⟨w3.heap.size, 4, none⟩) (by show w3.heap.size ≠ _; first | omega | (exact boxes_apart XO.out XA.out (by decide))) (.slice A7 (L + 1) c7))
            have XR' := Lib.hid (XR.out.setNe (p := ⟨w3.heap.size, 4, none⟩) (by show w3.heap.size ≠ _; first | omega | (exact boxes_apart XO.out XR.out (by decide))) (.slice A7 (L + 1) c7))
            have HQG' := Lib.hid (HQG.out.setBox XO.out (by decide) (by omega) (by decide) 4 (.slice A7 (L + 1) c7))
            have HB' := Lib.hid (HB.out.setCell (p := ⟨w3.heap.size, 4, none⟩) (by show w.heap.size ≤ w3.heap.size; omega) (.slice A7 (L + 1) c7))
            have XO_4 := XO.out.at_ 4 _ rfl
            have XO_l := XO.out.lt
            have XO_z4 := XO.out.frozen 4
            go_upto_region 7 with fail
            clear XO_4 XO_l XO_z4
            clear HB XO XA XR HQG
            generalize w8.setCell ⟨w3.heap.size, 4, none⟩ (.slice A7 (L + 1) c7) = w9 at *
            have XO : Hid (Box w9 w3.heap.size #[.bool false, .string key, .slice none 0 0, .int .i64 mat, .slice A7 (L + 1) c7] 25) := XO'
            have XA := XA'
            have XR := XR'
            have HQG := HQG'
            have HB := HB'
            clear HB' XO' XA' XR' HQG'
            go_wp2_with fail
            go_roundw
            case rel =>
              refine ⟨k + 1, _, by omega, by go_num, ?_, XA.out, XR.out, XO.out, HB.out, ?_⟩
              · rw [HST.out]; exact HQG.out
              · have := XO.out.lt; omega
            case measure => simp [intOf]; omega

end Go.Proofs.YtldafnjbgjagiaaDoor

/-
  Contracts of board.loss, Clean, Observe.
-/
import Derived.Test.YtldafnjbgjagiaaDoorBrdD
namespace Go.Proofs.YtldafnjbgjagiaaDoor
open Go.RowKit
set_option linter.unusedVariables false
set_option linter.unusedSimpArgs false

theorem get_word {ns : List ByteArray} {zs : List Int} (h : txV ns zs = true) (s : ByteArray) : 0 ≤ (getT ns zs s).1 ∧ (getT ns zs s).1 ≤ 65535 := by
  obtain ⟨_, _, _, _, hw⟩ := of_decide_eq_true h
  unfold getT
  split
  · exact ⟨by decide, by decide⟩
  · rename_i hn
    have hb := idx_bd ns s
    have hm := hw _ (getD_mem (l := zs) (k := (Lib.idxOfS ns s).toNat) 0 (by omega))
    exact of_decide_eq_true hm
theorem lost_eq (n : Int) : lineT sLost n = (⟨#[108, 111, 115, 116, 32]⟩ : ByteArray) ++ fmtS n := rfl
set_option maxRecDepth 100000 in
set_option maxHeartbeats 8000000 in
theorem brdLoss (w : World) (b : Bd) (k : Nat) (A1 A2 : Option Addr) (c1 c2 : Nat) (h1 : Rs txR w (.slice A1 b.want.length c1) b.want anyB) (hk : k < b.want.length) (hn : b.want.length ≤ 1024) (hz : ∀ t ∈ b.want, TZ t ∧ tv t = true) (ht : Tab w) :
    Calls Tryd.prog 42 #[.agg #[.bool b.ord, .string b.key, .slice A1 b.want.length c1, .int .i64 b.mat, .slice A2 b.wrg.length c2], .int .i64 k] w fun e w' => e = .returned (.string (lossT b k)) ∧ Below w.heap.size w w' := by
  have HT := Lib.hid ht
  have hz1 := hz _ (getD_mem tx0 hk)
  obtain ⟨A1', c1', e1, _, hx⟩ := h1.txs
  simp only [Value.slice.injEq] at e1
  obtain ⟨rfl, _, rfl⟩ := e1
  obtain ⟨q, o, u1, u2, rfl, hql, q1, q2, s1, s2, _⟩ := hx k hk
  have hwd := get_word hz1.2 b.key
  have HR : Hid (lossT b k = lineT sLost (if b.ord then (k : Int) else (gt (b.want.getD k tx0) b.key).1)) := Lib.hid rfl
  have Q1 := Lib.hid (fun W (hW : Below w.heap.size w W) => (hW.cell (p := ⟨q, o + k * 2, none⟩) hql).trans q1)
  have Q2 := Lib.hid (fun W (hW : Below w.heap.size w W) => (hW.cell (p := ⟨q, o + k * 2 + 1, none⟩) hql).trans q2)
  have CK := Lib.hid (fun W (hW : Below w.heap.size w W) => brdKey W b.ord b.key b.mat (.slice (some ⟨q, o, none⟩) b.want.length c1) (.slice A2 b.wrg.length c2) u1 u2 (b.want.getD k tx0).1 (b.want.getD k tx0).2 (s1.below hW) (s2.below hW) hz1.1.1 hz1.1.2.1)
  obtain ⟨B1, d1, rfl, -⟩ := id s1
  obtain ⟨B2, d2, rfl, -⟩ := id s2
  unfold gt at HR
  generalize lossT b k = r at *
  generalize b.want.getD k tx0 = t at *
  generalize t.1.length = L1 at *
  generalize t.2.length = L2 at *
  obtain ⟨⟨z, zb⟩, hzz⟩ : ∃ p, p = getT t.1 t.2 b.key := ⟨_, rfl⟩
  rw [← hzz] at HR CK hwd
  simp only [ret2b] at CK hwd
  generalize b.want.length = N at *
  generalize b.wrg.length = G at *
  generalize b.key = s at *
  generalize b.mat = m at *
  have hk2 : (k : Int) < (N : Int) := by omega
  have hk0 : (0 : Int) ≤ (k : Int) := by omega
  cases ho : b.ord
  case true =>
    rw [ho] at HR CK
    have CI := Lib.hid (fun W h => itoaC (k : Int) W (by omega) (by omega) h)
    have hfs := fmt_size (k : Int) (by omega) (by omega)
    have HR2 : Hid (r = (⟨#[108, 111, 115, 116, 32]⟩ : ByteArray) ++ fmtS (k : Int)) := Lib.hid (by rw [HR.out, ← lost_eq]; rfl)
    generalize fmtS (k : Int) = x at *
    have f7 : ¬ 9223372036854775807 < 5 + x.size := by omega
    have f8 : ¬ 9223372036854775807 < (⟨#[108, 111, 115, 116, 32]⟩ : ByteArray).size + x.size := by show ¬ 9223372036854775807 < 5 + x.size; omega
    clear CK HR h1 hz hx q1 q2 s1 s2 hz1 hwd ht hzz Q1 Q2 ho hql
    go_enter Tryd.func42, Tryd.ntmps42
    go_wp2_with fail
    have XA := Lib.hid (box_new (W := w) (g := w.heap.size) 25 #[.bool true, .string s, .slice (some ⟨q, o, none⟩) N c1, .int .i64 m, .slice A2 G c2] (by simp))
    have HB := Lib.hid (below_alloc w (.cells #[.bool true, .string s, .slice (some ⟨q, o, none⟩) N c1, .int .i64 m, .slice A2 G c2] 25))
    generalize w.alloc (.cells #[.bool true, .string s, .slice (some ⟨q, o, none⟩) N c1, .int .i64 m, .slice A2 G c2] 25) = w1 at *
    refine (CI.out _ (HT.out.below HB.out)).mono ?_; rintro e w2 ⟨rfl, hb⟩
    replace XA := Lib.hid (XA.out.below hb)
    replace HB := Lib.hid (below_step HB.out hb)
    clear hb
    go_wp2_with fail
    go_ret
    exact ⟨by rw [HR2.out]; rfl, HB.out⟩
  case false =>
    rw [ho] at HR CK
    have CI := Lib.hid (fun W h => itoaC z W (by omega) (by omega) h)
    have hfs := fmt_size z (by omega) (by omega)
    have HR2 : Hid (r = (⟨#[108, 111, 115, 116, 32]⟩ : ByteArray) ++ fmtS z) := Lib.hid (by rw [HR.out, ← lost_eq]; rfl)
    generalize fmtS z = x at *
    have f7 : ¬ 9223372036854775807 < 5 + x.size := by omega
    have f8 : ¬ 9223372036854775807 < (⟨#[108, 111, 115, 116, 32]⟩ : ByteArray).size + x.size := by show ¬ 9223372036854775807 < 5 + x.size; omega
    clear HR h1 hz hx q1 q2 s1 s2 hz1 ht hzz ho hql
    go_enter Tryd.func42, Tryd.ntmps42
    go_wp2_with fail
    have XA := Lib.hid (box_new (W := w) (g := w.heap.size) 25 #[.bool false, .string s, .slice (some ⟨q, o, none⟩) N c1, .int .i64 m, .slice A2 G c2] (by simp))
    have HB := Lib.hid (below_alloc w (.cells #[.bool false, .string s, .slice (some ⟨q, o, none⟩) N c1, .int .i64 m, .slice A2 G c2] 25))
    generalize w.alloc (.cells #[.bool false, .string s, .slice (some ⟨q, o, none⟩) N c1, .int .i64 m, .slice A2 G c2] 25) = w1 at *
    have VK := Lib.hid (fun p : Lat w1 => CK.out p.w (below_step HB.out p.h))
    have l0 := XA.out.lat 0 _ rfl
    have l1 := XA.out.lat 1 _ rfl
    have l2 := XA.out.lat 2 _ rfl
    have l3 := XA.out.lat 3 _ rfl
    have l4 := XA.out.lat 4 _ rfl
    have m1 : ∀ p : Lat w1, p.w.cell? ⟨q, o + k * 2, none⟩ = _ := fun p => Q1.out p.w (below_step HB.out p.h)
    have m2 : ∀ p : Lat w1, p.w.cell? ⟨q, o + k * 2 + 1, none⟩ = _ := fun p => Q2.out p.w (below_step HB.out p.h)
    refine wp_region_lat (by kernel_rfl) (by kernel_rfl) ?_
    repeat (go_big_quiet_step (with_reducible exact lat_call (VK.out _)))
    refine wpQuiet_nil ?_; intro w2 hb
    clear l0 l1 l2 l3 l4 m1 m2 VK
    replace XA := Lib.hid (XA.out.below hb)
    replace HB := Lib.hid (below_step HB.out hb)
    clear hb
    go_wp2_with fail
    refine (CI.out _ (HT.out.below HB.out)).mono ?_; rintro e w3 ⟨rfl, hb⟩
    replace XA := Lib.hid (XA.out.below hb)
    replace HB := Lib.hid (below_step HB.out hb)
    clear hb
    go_wp2_with fail
    go_ret
    exact ⟨by rw [HR2.out]; rfl, HB.out⟩

set_option maxHeartbeats 2000000 in
theorem brdClean (w : World) (b : Bd) (A1 A2 : Option Addr) (c1 c2 : Nat) : Calls Tryd.prog 14 #[.agg #[.bool b.ord, .string b.key, .slice A1 b.want.length c1, .int .i64 b.mat, .slice A2 b.wrg.length c2]] w fun e w' => e = .returned (.bool (cleanB b)) ∧ Below w.heap.size w w' := by
  have HR : Hid (cleanB b = (decide (b.want.length = 0) && decide (b.wrg.length = 0))) := Lib.hid rfl
  generalize cleanB b = r at *
  generalize b.want.length = N at *
  generalize b.wrg.length = G at *
  generalize b.ord = o at *
  generalize b.key = s at *
  generalize b.mat = m at *
  by_cases h : N = 0
  · have f1 : ((N : Int) == 0) = true := by simpa using h
    by_cases h2 : G = 0
    · have f2 : ((G : Int) == 0) = true := by simpa using h2
      have HR2 : Hid (r = true) := Lib.hid (by rw [HR.out, decide_eq_true h, decide_eq_true h2]; rfl)
      clear HR h h2
      go_enter Tryd.func14, Tryd.ntmps14
      go_wp2_with fail
      go_ret
      exact ⟨by rw [HR2.out]; rfl, below_alloc _ _⟩
    · have f2 : ((G : Int) == 0) = false := by simpa using h2
      have HR2 : Hid (r = false) := Lib.hid (by rw [HR.out, decide_eq_true h, decide_eq_false h2]; rfl)
      clear HR h h2
      go_enter Tryd.func14, Tryd.ntmps14
      go_wp2_with fail
      go_ret
      exact ⟨by rw [HR2.out]; rfl, below_alloc _ _⟩
  · have f1 : ((N : Int) == 0) = false := by simpa using h
    have HR2 : Hid (r = false) := Lib.hid (by rw [HR.out, decide_eq_false h]; rfl)
    clear HR h
    go_enter Tryd.func14, Tryd.ntmps14
    go_wp2_with fail
    go_ret
    exact ⟨by rw [HR2.out]; rfl, below_alloc _ _⟩

theorem cpy_any {w w' : World} {b : Bd} {i : Int} {e : Ending} (h : CPY w b i e w') : ∃ OA oc QA qc wm, e = .returned (.agg #[.bool b.ord, .string b.key, .slice OA (cutI b.want i).length oc, .int .i64 b.mat, .slice QA b.wrg.length qc]) ∧
    OG txR wm w.heap.size 0 28 (.slice OA (cutI b.want i).length oc) (cutI b.want i) ∧ Below w.heap.size w wm ∧ Kept (BX wm 0) wm w' ∧ OG strR w' wm.heap.size 0 9 (.slice QA b.wrg.length qc) b.wrg ∧ Below w.heap.size w w' := by
  obtain ⟨wv, gv, wm, rfl, ⟨h1, hwm, hk, h2⟩, hb⟩ := h
  obtain ⟨OA, oc, rfl⟩ := h1.slice
  obtain ⟨QA, qc, rfl⟩ := own_slc h2
  exact ⟨OA, oc, QA, qc, wm, rfl, h1, hwm, hk, OG.of_scells h2, hb⟩
theorem obs_ways (b : Bd) (t : Tx) : (∃ c : Int, c ≠ 0 ∧ askT b t = c ∧ obsT b t = (bd0, c)) ∨ (askT b t = 0 ∧ OkB b ∧ tv t = true ∧ (1024 ≤ b.wrg.length ∨ 1099511627776 ≤ b.mat) ∧ obsT b t = (bd0, 16)) ∨
    (askT b t = 0 ∧ OkB b ∧ tv t = true ∧ b.wrg.length < 1024 ∧ b.mat < 1099511627776 ∧ atT b t = -1 ∧ obsT b t = ({ b with wrg := b.wrg ++ [lineT sExtra (numB b)] }, 0)) ∨
    (∃ k : Nat, askT b t = 0 ∧ OkB b ∧ tv t = true ∧ b.wrg.length < 1024 ∧ b.mat < 1099511627776 ∧ atT b t = k ∧ k < b.want.length ∧
      ((b.want.getD k tx0 = t ∧ obsT b t = ({ b with mat := b.mat + 1, want := b.want.eraseIdx k }, 0)) ∨ (b.want.getD k tx0 ≠ t ∧ obsT b t = ({ b with wrg := b.wrg ++ [lineT sMis (numB b)], want := b.want.eraseIdx k }, 0)))) := by
  unfold obsT atT
  by_cases h : askT b t = 0
  · obtain ⟨h1, h2, _⟩ := ask_zero h
    by_cases h3 : 1024 ≤ b.wrg.length ∨ 1099511627776 ≤ b.mat
    · exact .inr (.inl ⟨h, h1, h2, h3, by rw [if_neg (by simp [h]), if_pos h3]⟩)
    · have h4 : b.wrg.length < 1024 ∧ b.mat < 1099511627776 := by omega
      by_cases h5 : atN b t < b.want.length
      · refine .inr (.inr (.inr ⟨atN b t, h, h1, h2, h4.1, h4.2, by rw [if_pos h5], h5, ?_⟩))
        by_cases h6 : b.want.getD (atN b t) tx0 = t
        · exact .inl ⟨h6, by rw [if_neg (by simp [h]), if_neg h3, if_pos h5, if_pos h6]⟩
        · exact .inr ⟨h6, by rw [if_neg (by simp [h]), if_neg h3, if_pos h5, if_neg h6]⟩
      · exact .inr (.inr (.inl ⟨h, h1, h2, h4.1, h4.2, by rw [if_neg h5], by rw [if_neg (by simp [h]), if_neg h3, if_neg h5]⟩))
  · exact .inl ⟨_, h, rfl, by rw [if_pos h]⟩
theorem cut_neg {α : Type} (l : List α) : cutI l (-1) = l := by simp [cutI]
theorem cut_nat {α : Type} (l : List α) (k : Nat) : cutI l (k : Int) = l.eraseIdx k := by unfold cutI; rw [if_neg (by omega)]; rfl
set_option maxRecDepth 100000 in
set_option maxHeartbeats 16000000 in
theorem brdObserve (w : World) (b : Bd) (t : Tx) (wv gv v1 v2 : Value) (h1 : Rs txR w wv b.want anyB) (h2 : SL w gv b.wrg) (s1 : SL w v1 t.1) (s2 : IL w v2 t.2) (n1 : b.want.length ≤ 9223372036854775807) (n2 : b.wrg.length ≤ 9223372036854775807) (hz : ∀ t ∈ b.want, TZ t) (tz : TZ t) (hk : KW w) (hm : MLen w) (ht : Tab w) :
    Calls Tryd.prog 17 #[.agg #[.bool b.ord, .string b.key, wv, .int .i64 b.mat, gv], .agg #[v1, v2]] w (RETB w 0 (obsT b t)) := by
  obtain ⟨i0, hi0, hz0, hz1, hz2⟩ := info_parts istr
  have HI := Lib.hid hi0
  have HZ0 := Lib.hid hz0
  have HZ1 := Lib.hid hz1
  have HZ2 := Lib.hid hz2
  have HK := Lib.hid hk
  have HM := Lib.hid hm
  have HT := Lib.hid ht
  have H1 := Lib.hid h1
  have H2 := Lib.hid h2
  have S1 := Lib.hid s1
  have S2 := Lib.hid s2
  have CA := Lib.hid (fun W a1 a2 a3 a4 a5 a6 => brdAsked W b t wv gv v1 v2 a1 a2 a3 a4 n1 n2 hz tz a5 a6)
  have CP := Lib.hid (fun W a1 a2 a3 a4 => brdPartner W b t wv gv v1 v2 a1 a2 a3 a4 n1 hz tz)
  have CC : Hid (OkB b → ∀ i, I64 i → ∀ W, Rs txR W wv b.want anyB → SL W gv b.wrg → Calls Tryd.prog 31 #[.agg #[.bool b.ord, .string b.key, wv, .int .i64 b.mat, gv], .int .i64 i] W fun e w' => ∃ OA oc QA qc wm, e = .returned (.agg #[.bool b.ord, .string b.key, .slice OA (cutI b.want i).length oc, .int .i64 b.mat, .slice QA b.wrg.length qc]) ∧
    OG txR wm W.heap.size 0 28 (.slice OA (cutI b.want i).length oc) (cutI b.want i) ∧ Below W.heap.size W wm ∧ Kept (BX wm 0) wm w' ∧ OG strR w' wm.heap.size 0 9 (.slice QA b.wrg.length qc) b.wrg ∧ Below W.heap.size W w') := Lib.hid fun hok i hi W a1 a2 =>
    (brdCopied W b wv gv i a1 a2 (by have := hok.1; omega) (by have := hok.2.1; omega) (fun t ht => txf_of (hok.2.2.2.2 t ht).1) hi).mono fun _ _ h => cpy_any h
  obtain ⟨A1, c1, rfl, -⟩ := h1.slice
  obtain ⟨A2, c2, rfl, -⟩ := id h2
  have CM : Hid (OkB b → ∀ s : ByteArray, s.size ≤ 1000 → ∀ W, Tab W → Calls Tryd.prog 37 #[.agg #[.bool b.ord, .string b.key, .slice A1 b.want.length c1, .int .i64 b.mat, .slice A2 b.wrg.length c2], .string s] W fun e w' => e = .returned (.string (lineT s (numB b))) ∧ Below W.heap.size W w') := Lib.hid fun hok s hs W ht =>
    brdComplaint W b s A1 A2 c1 c2 hs hok.2.2.1 hok.2.2.2.1 hok.2.1 ht
  have htx := h1.txs
  have CS : Hid (∀ k, k < b.want.length → ∀ W u1 u2, SL W u1 (b.want.getD k tx0).1 → IL W u2 (b.want.getD k tx0).2 → SL W v1 t.1 → IL W v2 t.2 → OkB b → tv t = true → Calls Tryd.prog 38 #[.agg #[u1, u2], .agg #[v1, v2]] W fun e w' => e = .returned (.bool (sameT (b.want.getD k tx0).1 (b.want.getD k tx0).2 t.1 t.2)) ∧ Below W.heap.size W w') := Lib.hid fun k hk W u1 u2 a1 a2 a3 a4 hok htv => by
    have h1 := (hok.2.2.2.2 _ (getD_mem tx0 hk)).1
    have h2 := of_decide_eq_true (show decide (TxV (b.want.getD k tx0).1 (b.want.getD k tx0).2) = true from h1)
    have h3 := of_decide_eq_true (show decide (TxV t.1 t.2) = true from htv)
    have e1 := h2.1; have e2 := h2.2.1; have e3 := h3.1; have e4 := h3.2.1
    exact txnSame W u1 u2 v1 v2 _ _ _ _ a1 a2 a3 a4 (by omega) (by omega) (by omega) (by omega)
  obtain ⟨B1, d1, rfl, -⟩ := id s1
  obtain ⟨B2, d2, rfl, -⟩ := id s2
  have HX := Lib.hid htx
  have hw := obs_ways b t
  generalize obsT b t = r at *
  clear h1 h2 s1 s2 hz tz hk hm ht hi0 hz0 hz1 hz2 htx
  rcases hw with ⟨c, hc, ha, rfl⟩ | ⟨ha, hok, htv, hfull, rfl⟩ | ⟨ha, hok, htv, hf1, hf2, hat, rfl⟩ | ⟨k, ha, hok, htv, hf1, hf2, hat, hkl, hway⟩
  case inl =>
    rw [ha] at CA
    have f1 : (c != 0) = true := by simpa using hc
    obtain ⟨ord, key, want, mat, wrg⟩ := b
    simp only at *
    generalize want.length = N at *
    generalize wrg.length = G at *
    generalize t.1.length = L1 at *
    generalize t.2.length = L2 at *
    clear hc ha CC CP CM CS HX
    go_enter Tryd.func17, Tryd.ntmps17
    go_wp2_with fail
    have XA := Lib.hid (((box_new (W := w) (g := w.heap.size) 25 #[.bool ord, .string key, .slice A1 N c1, .int .i64 mat, .slice A2 G c2] (by simp)).below (below_alloc _ (.cells #[.slice B1 L1 d1, .slice B2 L2 d2] 28))).below (below_alloc _ (.cells #[.bool false, .string ⟨#[]⟩, .slice none 0 0, .int .i64 0, .slice none 0 0] 25)))
    have XB := Lib.hid ((box_new (W := (w.alloc (.cells #[.bool ord, .string key, .slice A1 N c1, .int .i64 mat, .slice A2 G c2] 25))) (g := w.heap.size + 1) 28 #[.slice B1 L1 d1, .slice B2 L2 d2] (by simp)).below (below_alloc _ (.cells #[.bool false, .string ⟨#[]⟩, .slice none 0 0, .int .i64 0, .slice none 0 0] 25)))
    have XR := Lib.hid (box_new (W := ((w.alloc (.cells #[.bool ord, .string key, .slice A1 N c1, .int .i64 mat, .slice A2 G c2] 25)).alloc (.cells #[.slice B1 L1 d1, .slice B2 L2 d2] 28))) (g := w.heap.size + 1 + 1) 25 #[.bool false, .string ⟨#[]⟩, .slice none 0 0, .int .i64 0, .slice none 0 0] (by simp))
    have HB := Lib.hid (below_step (below_step (below_alloc w (.cells #[.bool ord, .string key, .slice A1 N c1, .int .i64 mat, .slice A2 G c2] 25)) (below_alloc (w.alloc (.cells #[.bool ord, .string key, .slice A1 N c1, .int .i64 mat, .slice A2 G c2] 25)) (.cells #[.slice B1 L1 d1, .slice B2 L2 d2] 28))) (below_alloc ((w.alloc (.cells #[.bool ord, .string key, .slice A1 N c1, .int .i64 mat, .slice A2 G c2] 25)).alloc (.cells #[.slice B1 L1 d1, .slice B2 L2 d2] 28)) (.cells #[.bool false, .string ⟨#[]⟩, .slice none 0 0, .int .i64 0, .slice none 0 0] 25)))
    generalize ((w.alloc (.cells #[.bool ord, .string key, .slice A1 N c1, .int .i64 mat, .slice A2 G c2] 25)).alloc (.cells #[.slice B1 L1 d1, .slice B2 L2 d2] 28)).alloc (.cells #[.bool false, .string ⟨#[]⟩, .slice none 0 0, .int .i64 0, .slice none 0 0] 25) = w1 at *
    refine (CA.out _ (H1.out.below HB.out) (H2.out.below HB.out) (S1.out.below HB.out) (S2.out.below HB.out) (HK.out.below HB.out) (HM.out.below HB.out)).mono ?_; rintro e w2 ⟨rfl, hb⟩
    replace XA := Lib.hid (XA.out.below hb)
    replace XB := Lib.hid (XB.out.below hb)
    replace XR := Lib.hid (XR.out.below hb)
    replace HB := Lib.hid (below_step HB.out hb)
    clear hb
    have XA_3 := XA.out.at_ 3 _ rfl
    have XA_4 := XA.out.at_ 4 _ rfl
    have XR_0 := XR.out.at_ 0 _ rfl
    have XR_1 := XR.out.at_ 1 _ rfl
    have XR_2 := XR.out.at_ 2 _ rfl
    have XR_3 := XR.out.at_ 3 _ rfl
    have XR_4 := XR.out.at_ 4 _ rfl
    have XR_l := XR.out.lt
    have XR_z0 := XR.out.frozen 0
    have XR_z1 := XR.out.frozen 1
    have XR_z2 := XR.out.frozen 2
    have XR_z3 := XR.out.frozen 3
    have XR_z4 := XR.out.frozen 4
    go_wp2_with fail
    refine bodyPost_ret (v := .tuple #[.agg #[.bool false, .string ⟨#[]⟩, .slice none 0 0, .int .i64 0, .slice none 0 0], .int .i64 c]) (by simp [results, Tryd.results17, go_sem, XR_0, XR_1, XR_2, XR_3, XR_4, XR_l]) rfl ?_
    exact ⟨_, rfl, BDF.zero _ _, set5_below _ _ _ _ _ HB.out (by omega)⟩
  case inr.inl =>
    rw [ha] at CA
    obtain ⟨ord, key, want, mat, wrg⟩ := b
    simp only at *
    generalize want.length = N at *
    generalize wrg.length = G at *
    generalize t.1.length = L1 at *
    generalize t.2.length = L2 at *
    clear ha hok htv CC CP CM CS HX
    have hway : (1024 : Int) ≤ (G : Int) ∨ (¬ (1024 : Int) ≤ (G : Int) ∧ 1099511627776 ≤ mat) := by omega
    clear hfull
    rcases hway with f1 | ⟨f1, f2⟩
    · skip
      go_enter Tryd.func17, Tryd.ntmps17
      go_wp2_with fail
      have XA := Lib.hid (((box_new (W := w) (g := w.heap.size) 25 #[.bool ord, .string key, .slice A1 N c1, .int .i64 mat, .slice A2 G c2] (by simp)).below (below_alloc _ (.cells #[.slice B1 L1 d1, .slice B2 L2 d2] 28))).below (below_alloc _ (.cells #[.bool false, .string ⟨#[]⟩, .slice none 0 0, .int .i64 0, .slice none 0 0] 25)))
      have XB := Lib.hid ((box_new (W := (w.alloc (.cells #[.bool ord, .string key, .slice A1 N c1, .int .i64 mat, .slice A2 G c2] 25))) (g := w.heap.size + 1) 28 #[.slice B1 L1 d1, .slice B2 L2 d2] (by simp)).below (below_alloc _ (.cells #[.bool false, .string ⟨#[]⟩, .slice none 0 0, .int .i64 0, .slice none 0 0] 25)))
      have XR := Lib.hid (box_new (W := ((w.alloc (.cells #[.bool ord, .string key, .slice A1 N c1, .int .i64 mat, .slice A2 G c2] 25)).alloc (.cells #[.slice B1 L1 d1, .slice B2 L2 d2] 28))) (g := w.heap.size + 1 + 1) 25 #[.bool false, .string ⟨#[]⟩, .slice none 0 0, .int .i64 0, .slice none 0 0] (by simp))
      have HB := Lib.hid (below_step (below_step (below_alloc w (.cells #[.bool ord, .string key, .slice A1 N c1, .int .i64 mat, .slice A2 G c2] 25)) (below_alloc (w.alloc (.cells #[.bool ord, .string key, .slice A1 N c1, .int .i64 mat, .slice A2 G c2] 25)) (.cells #[.slice B1 L1 d1, .slice B2 L2 d2] 28))) (below_alloc ((w.alloc (.cells #[.bool ord, .string key, .slice A1 N c1, .int .i64 mat, .slice A2 G c2] 25)).alloc (.cells #[.slice B1 L1 d1, .slice B2 L2 d2] 28)) (.cells #[.bool false, .string ⟨#[]⟩, .slice none 0 0, .int .i64 0, .slice none 0 0] 25)))
      generalize ((w.alloc (.cells #[.bool ord, .string key, .slice A1 N c1, .int .i64 mat, .slice A2 G c2] 25)).alloc (.cells #[.slice B1 L1 d1, .slice B2 L2 d2] 28)).alloc (.cells #[.bool false, .string ⟨#[]⟩, .slice none 0 0, .int .i64 0, .slice none 0 0] 25) = w1 at *
      refine (CA.out _ (H1.out.below HB.out) (H2.out.below HB.out) (S1.out.below HB.out) (S2.out.below HB.out) (HK.out.below HB.out) (HM.out.below HB.out)).mono ?_; rintro e w2 ⟨rfl, hb⟩
      replace XA := Lib.hid (XA.out.below hb)
      replace XB := Lib.hid (XB.out.below hb)
      replace XR := Lib.hid (XR.out.below hb)
      replace HB := Lib.hid (below_step HB.out hb)
      clear hb
      have XA_3 := XA.out.at_ 3 _ rfl
      have XA_4 := XA.out.at_ 4 _ rfl
      have XR_0 := XR.out.at_ 0 _ rfl
      have XR_1 := XR.out.at_ 1 _ rfl
      have XR_2 := XR.out.at_ 2 _ rfl
      have XR_3 := XR.out.at_ 3 _ rfl
      have XR_4 := XR.out.at_ 4 _ rfl
      have XR_l := XR.out.lt
      have XR_z0 := XR.out.frozen 0
      have XR_z1 := XR.out.frozen 1
      have XR_z2 := XR.out.frozen 2
      have XR_z3 := XR.out.frozen 3
      have XR_z4 := XR.out.frozen 4
      go_wp2_with fail
      refine bodyPost_ret (v := .tuple #[.agg #[.bool false, .string ⟨#[]⟩, .slice none 0 0, .int .i64 0, .slice none 0 0], .int .i64 16]) (by simp [results, Tryd.results17, go_sem, XR_0, XR_1, XR_2, XR_3, XR_4, XR_l]) rfl ?_
      exact ⟨_, rfl, BDF.zero _ _, set5_below _ _ _ _ _ HB.out (by omega)⟩
    · skip
      go_enter Tryd.func17, Tryd.ntmps17
      go_wp2_with fail
      have XA := Lib.hid (((box_new (W := w) (g := w.heap.size) 25 #[.bool ord, .string key, .slice A1 N c1, .int .i64 mat, .slice A2 G c2] (by simp)).below (below_alloc _ (.cells #[.slice B1 L1 d1, .slice B2 L2 d2] 28))).below (below_alloc _ (.cells #[.bool false, .string ⟨#[]⟩, .slice none 0 0, .int .i64 0, .slice none 0 0] 25)))
      have XB := Lib.hid ((box_new (W := (w.alloc (.cells #[.bool ord, .string key, .slice A1 N c1, .int .i64 mat, .slice A2 G c2] 25))) (g := w.heap.size + 1) 28 #[.slice B1 L1 d1, .slice B2 L2 d2] (by simp)).below (below_alloc _ (.cells #[.bool false, .string ⟨#[]⟩, .slice none 0 0, .int .i64 0, .slice none 0 0] 25)))
      have XR := Lib.hid (box_new (W := ((w.alloc (.cells #[.bool ord, .string key, .slice A1 N c1, .int .i64 mat, .slice A2 G c2] 25)).alloc (.cells #[.slice B1 L1 d1, .slice B2 L2 d2] 28))) (g := w.heap.size + 1 + 1) 25 #[.bool false, .string ⟨#[]⟩, .slice none 0 0, .int .i64 0, .slice none 0 0] (by simp))
      have HB := Lib.hid (below_step (below_step (below_alloc w (.cells #[.bool ord, .string key, .slice A1 N c1, .int .i64 mat, .slice A2 G c2] 25)) (below_alloc (w.alloc (.cells #[.bool ord, .string key, .slice A1 N c1, .int .i64 mat, .slice A2 G c2] 25)) (.cells #[.slice B1 L1 d1, .slice B2 L2 d2] 28))) (below_alloc ((w.alloc (.cells #[.bool ord, .string key, .slice A1 N c1, .int .i64 mat, .slice A2 G c2] 25)).alloc (.cells #[.slice B1 L1 d1, .slice B2 L2 d2] 28)) (.cells #[.bool false, .string ⟨#[]⟩, .slice none 0 0, .int .i64 0, .slice none 0 0] 25)))
      generalize ((w.alloc (.cells #[.bool ord, .string key, .slice A1 N c1, .int .i64 mat, .slice A2 G c2] 25)).alloc (.cells #[.slice B1 L1 d1, .slice B2 L2 d2] 28)).alloc (.cells #[.bool false, .string ⟨#[]⟩, .slice none 0 0, .int .i64 0, .slice none 0 0] 25) = w1 at *
      refine (CA.out _ (H1.out.below HB.out) (H2.out.below HB.out) (S1.out.below HB.out) (S2.out.below HB.out) (HK.out.below HB.out) (HM.out.below HB.out)).mono ?_; rintro e w2 ⟨rfl, hb⟩
      replace XA := Lib.hid (XA.out.below hb)
      replace XB := Lib.hid (XB.out.below hb)
      replace XR := Lib.hid (XR.out.below hb)
      replace HB := Lib.hid (below_step HB.out hb)
      clear hb
      have XA_3 := XA.out.at_ 3 _ rfl
      have XA_4 := XA.out.at_ 4 _ rfl
      have XR_0 := XR.out.at_ 0 _ rfl
      have XR_1 := XR.out.at_ 1 _ rfl
      have XR_2 := XR.out.at_ 2 _ rfl
      have XR_3 := XR.out.at_ 3 _ rfl
      have XR_4 := XR.out.at_ 4 _ rfl
      have XR_l := XR.out.lt
      have XR_z0 := XR.out.frozen 0
      have XR_z1 := XR.out.frozen 1
      have XR_z2 := XR.out.frozen 2
      have XR_z3 := XR.out.frozen 3
      have XR_z4 := XR.out.frozen 4
      go_wp2_with fail
      refine bodyPost_ret (v := .tuple #[.agg #[.bool false, .string ⟨#[]⟩, .slice none 0 0, .int .i64 0, .slice none 0 0], .int .i64 16]) (by simp [results, Tryd.results17, go_sem, XR_0, XR_1, XR_2, XR_3, XR_4, XR_l]) rfl ?_
      exact ⟨_, rfl, BDF.zero _ _, set5_below _ _ _ _ _ HB.out (by omega)⟩
  case inr.inr.inl =>
    rw [ha] at CA
    rw [hat] at CP
    have CC2 := Lib.hid (CC.out hok (-1) ⟨by omega, by omega⟩)
    have CM2 := Lib.hid (CM.out hok sExtra (by decide))
    rw [cut_neg] at CC2
    have HMT := hok.2.2.1
    obtain ⟨ord, key, want, mat, wrg⟩ := b
    simp only at *
    obtain ⟨N, hN⟩ : ∃ N, N = want.length := ⟨_, rfl⟩
    obtain ⟨G, hG⟩ : ∃ G, G = wrg.length := ⟨_, rfl⟩
    obtain ⟨L1, hL1⟩ : ∃ n, n = t.1.length := ⟨_, rfl⟩
    obtain ⟨L2, hL2⟩ : ∃ n, n = t.2.length := ⟨_, rfl⟩
    have HN := Lib.hid hN
    have HGL := Lib.hid hG
    have K1 := Lib.hid hL1
    have K2 := Lib.hid hL2
    rw [← hN] at CA CP CC2 CM2 H1 ⊢
    rw [← hG] at CA CP CC2 CM2 H2 hf1 ⊢
    rw [← hL1] at CA CP S1 ⊢
    rw [← hL2] at CA CP S2 ⊢
    clear hN hG hL1 hL2 n1 n2 ha hok htv hat CC CM CS HX
    go_enter Tryd.func17, Tryd.ntmps17
    go_wp2_with fail
    have XA := Lib.hid (((box_new (W := w) (g := w.heap.size) 25 #[.bool ord, .string key, .slice A1 N c1, .int .i64 mat, .slice A2 G c2] (by simp)).below (below_alloc _ (.cells #[.slice B1 L1 d1, .slice B2 L2 d2] 28))).below (below_alloc _ (.cells #[.bool false, .string ⟨#[]⟩, .slice none 0 0, .int .i64 0, .slice none 0 0] 25)))
    have XB := Lib.hid ((box_new (W := (w.alloc (.cells #[.bool ord, .string key, .slice A1 N c1, .int .i64 mat, .slice A2 G c2] 25))) (g := w.heap.size + 1) 28 #[.slice B1 L1 d1, .slice B2 L2 d2] (by simp)).below (below_alloc _ (.cells #[.bool false, .string ⟨#[]⟩, .slice none 0 0, .int .i64 0, .slice none 0 0] 25)))
    have XR := Lib.hid (box_new (W := ((w.alloc (.cells #[.bool ord, .string key, .slice A1 N c1, .int .i64 mat, .slice A2 G c2] 25)).alloc (.cells #[.slice B1 L1 d1, .slice B2 L2 d2] 28))) (g := w.heap.size + 1 + 1) 25 #[.bool false, .string ⟨#[]⟩, .slice none 0 0, .int .i64 0, .slice none 0 0] (by simp))
    have HB := Lib.hid (below_step (below_step (below_alloc w (.cells #[.bool ord, .string key, .slice A1 N c1, .int .i64 mat, .slice A2 G c2] 25)) (below_alloc (w.alloc (.cells #[.bool ord, .string key, .slice A1 N c1, .int .i64 mat, .slice A2 G c2] 25)) (.cells #[.slice B1 L1 d1, .slice B2 L2 d2] 28))) (below_alloc ((w.alloc (.cells #[.bool ord, .string key, .slice A1 N c1, .int .i64 mat, .slice A2 G c2] 25)).alloc (.cells #[.slice B1 L1 d1, .slice B2 L2 d2] 28)) (.cells #[.bool false, .string ⟨#[]⟩, .slice none 0 0, .int .i64 0, .slice none 0 0] 25)))
    generalize ((w.alloc (.cells #[.bool ord, .string key, .slice A1 N c1, .int .i64 mat, .slice A2 G c2] 25)).alloc (.cells #[.slice B1 L1 d1, .slice B2 L2 d2] 28)).alloc (.cells #[.bool false, .string ⟨#[]⟩, .slice none 0 0, .int .i64 0, .slice none 0 0] 25) = w1 at *
    refine (CA.out _ (H1.out.below HB.out) (H2.out.below HB.out) (S1.out.below HB.out) (S2.out.below HB.out) (HK.out.below HB.out) (HM.out.below HB.out)).mono ?_; rintro e w2 ⟨rfl, hb⟩
    replace XA := Lib.hid (XA.out.below hb)
    replace XB := Lib.hid (XB.out.below hb)
    replace XR := Lib.hid (XR.out.below hb)
    replace HB := Lib.hid (below_step HB.out hb)
    clear hb
    have XA_0 := XA.out.at_ 0 _ rfl
    have XA_1 := XA.out.at_ 1 _ rfl
    have XA_2 := XA.out.at_ 2 _ rfl
    have XA_3 := XA.out.at_ 3 _ rfl
    have XA_4 := XA.out.at_ 4 _ rfl
    have XB_0 := XB.out.at_ 0 _ rfl
    have XB_1 := XB.out.at_ 1 _ rfl
    have f1 : ¬ (1024 : Int) ≤ (G : Int) := by omega
    have f2 : ¬ 1099511627776 ≤ mat := by omega
    go_wp2_with fail
    clear XA_0 XA_1 XA_2 XA_3 XA_4 XB_0 XB_1
    refine (CP.out _ (H1.out.below HB.out) (H2.out.below HB.out) (S1.out.below HB.out) (S2.out.below HB.out)).mono ?_; rintro e w3 ⟨rfl, hb⟩
    replace XA := Lib.hid (XA.out.below hb)
    replace XB := Lib.hid (XB.out.below hb)
    replace XR := Lib.hid (XR.out.below hb)
    replace HB := Lib.hid (below_step HB.out hb)
    clear hb
    have XA_0 := XA.out.at_ 0 _ rfl
    have XA_1 := XA.out.at_ 1 _ rfl
    have XA_2 := XA.out.at_ 2 _ rfl
    have XA_3 := XA.out.at_ 3 _ rfl
    have XA_4 := XA.out.at_ 4 _ rfl
    go_wp2_with fail
    clear XA_0 XA_1 XA_2 XA_3 XA_4
    refine (CC2.out _ (H1.out.below HB.out) (H2.out.below HB.out)).mono ?_; rintro e w4 ⟨OA, oc, QA, qc, wm, rfl, hog, hwm, hkp, hqg, hb⟩
    have HLE := Lib.hid (Nat.le_trans HB.out.size hwm.size)
    have XRm := Lib.hid (XR.out.below hwm)
    have HLM := Lib.hid hkp.1
    have HLR := Lib.hid XR.out.lt
    have HOG := Lib.hid hog
    have HKP := Lib.hid hkp
    have HQG := Lib.hid hqg
    have hsz34 := hb.size
    clear hog hqg CC2 hwm hkp
    replace XA := Lib.hid (XA.out.below hb)
    replace XB := Lib.hid (XB.out.below hb)
    replace XR := Lib.hid (XR.out.below hb)
    replace HB := Lib.hid (below_step HB.out hb)
    clear hb
    go_upto_region 9 with fail
    have hba0 := below_alloc w4 (.cells #[.bool ord, .string key, .slice OA N oc, .int .i64 mat, .slice QA G qc] 25)
    replace HKP := Lib.hid (HKP.out.below hba0)
    replace HQG := Lib.hid (HQG.out.below hba0)
    have HL45 := Lib.hid hba0.size
    clear hba0
    have XO := Lib.hid (box_new (W := w4) (g := w4.heap.size) 25 #[.bool ord, .string key, .slice OA N oc, .int .i64 mat, .slice QA G qc] (by simp))
    have hba := (below_alloc w4 (.cells #[.bool ord, .string key, .slice OA N oc, .int .i64 mat, .slice QA G qc] 25))
    replace XA := Lib.hid (XA.out.below hba)
    replace XB := Lib.hid (XB.out.below hba)
    replace XR := Lib.hid (XR.out.below hba)
    replace HB := Lib.hid (below_step HB.out hba)
    clear hba
    generalize w4.alloc (.cells #[.bool ord, .string key, .slice OA N oc, .int .i64 mat, .slice QA G qc] 25) = w5 at *
    have g0 : (-1 : Int) < 0 := by decide
    go_wp2_with fail
    have HT5 := Lib.hid (HT.out.below HB.out)
    obtain ⟨ln, hln⟩ : ∃ ln, ln = lineT sExtra (numB ⟨ord, key, want, mat, wrg⟩) := ⟨_, rfl⟩
    rw [← hln] at CM2
    have HLN := Lib.hid hln
    unfold sExtra at CM2
    clear hln
    refine wp_region_gen 5 (Kit.of [gVal 3 [] (.string ln), gRs 4 [] strR [ln] 0]) (by kernel_rfl) (by kernel_rfl) (fun γ => by kernel_rfl) (by kernel_rfl) (Kit.of_stable ?_) (Kit.of_known ?_) ?_
    · intro z hz; simp only [List.mem_cons, List.not_mem_nil, or_false] at hz; rcases hz with rfl | rfl
      · apply gVal_st
      · apply gRs_st
    · intro z hz; simp only [List.mem_cons, List.not_mem_nil, or_false] at hz; rcases hz with rfl | rfl
      · apply gVal_kn
      · apply gRs_kn
    intro γ hγ C hC hne
    have e3 : γ 3 = .string ln := hγ 3 rfl
    obtain ⟨A4, c4, e4⟩ : ∃ A c, γ 4 = .slice A 1 c := hγ 4 rfl
    have l0 := XO.out.latC (C := C) 4 _ rfl
    have l1 := XA.out.latC (C := C) 0 _ rfl
    have l2 := XA.out.latC (C := C) 1 _ rfl
    have l3 := XA.out.latC (C := C) 2 _ rfl
    have l4 := XA.out.latC (C := C) 3 _ rfl
    have l5 := XA.out.latC (C := C) 4 _ rfl
    simp only [List.take_succ_cons, List.take_zero, List.drop_succ_cons, List.drop_zero]
    iterate 3 (refine wpF_quiet rfl ?_; go_big_quiet_step (fail); refine wpQuiet_nil ?_)
    refine wpF_fresh rfl (freshAt_call (args := #[.agg #[.bool ord, .string key, .slice A1 N c1, .int .i64 mat, .slice A2 G c2], .string ⟨#[101, 120, 116, 114, 97]⟩]) rfl _ _ _ (run_go Tryd.func37 (by kernel_rfl) (by kernel_rfl)) rfl (by simp [Act.eval]) (fun w' hb hf => (CM2.out w' (HT5.out.below hb)).mono fun e w2 ⟨he, h1⟩ => ⟨_, he, rfl, h1⟩)) ?_
    simp only [Nat.zero_add, Nat.reduceAdd, e3]
    go_simp
    refine wpF_fresh rfl (freshAt_one (φ := strR) (x := ln) (B := 0) (T := 9) (us := #[.string ln]) rfl (fun w => by kernel_rfl) (fun w' hb hf => rfl) (fun v w h => h)) ?_
    simp only [Nat.zero_add, Nat.reduceAdd, e4]
    go_simp
    intro w6 hb hF
    have HL6 := Lib.hid (show w4.heap.size ≤ w6.heap.size from Nat.le_trans HL45.out hb.size)
    have R4 : Rs strR w6 (γ 4) [ln] (Ty w6 0 strR.ts) := hF 4 (by decide) rfl
    rw [e4] at R4
    have HR4 := Lib.hid R4
    replace HKP := Lib.hid (HKP.out.below hb)
    replace HQG := Lib.hid (HQG.out.below hb)
    clear l0 l1 l2 l3 l4 l5 hF hγ hC hne e3 e4 R4 CM2
    replace XR := Lib.hid (XR.out.below hb)
    replace XO := Lib.hid (XO.out.below hb)
    replace HB := Lib.hid (below_step HB.out hb)
    clear hb
    go_wp2_with (at_builtin; refine wpList_append_og (φ := strR) (T := 9) (B := wm.heap.size) (C := 0) (xs := wrg) (ys := [ln]) rfl _ _ 23 rfl i0 (.string ⟨#[]⟩) 16 Tryd.underlying23 HI.out HZ0.out HZ1.out HZ2.out rfl rfl HQG.out (.slice A4 1 c4) rfl HR4.out ?c1 ?c2 ?c3 ?_)
    case c1 => simp only [List.length_cons, List.length_nil]; rw [← HGL.out]; omega
    case c2 => simp only [List.length_cons, List.length_nil]; rw [← HGL.out]; unfold maxLen; omega
    case c3 => exact Nat.le_trans HLM.out HL6.out
    intro v' w7 hqg7 hg7
    replace XR := Lib.hid (HQG.out.boxKept hg7.out XR.out (.inl (by decide)))
    replace XO := Lib.hid (HQG.out.boxKept hg7.out XO.out (.inl (by decide)))
    replace HKP := Lib.hid (HKP.out.grown hg7.out fun q hq => .inr (HQG.out.blk q hq))
    replace HB := Lib.hid (HQG.out.belowG hg7.out HB.out HB.out.size HLE.out)
    obtain ⟨A7, c7, hv'⟩ := hqg7.out.slice
    rw [show (wrg ++ [ln]).length = G + 1 by rw [List.length_append, HGL.out]; rfl] at hv'
    subst hv'
    clear HQG hg7 HR4
    have HQG := hqg7
    have hlr := HLR.out
    have hsz4 := HLM.out
    clear hqg7
    have HKP8 := Lib.hid (HKP.out.set (p := ⟨w4.heap.size, 4, none⟩) (.inr HLM.out) (.slice A7 (G + 1) c7))
    clear HKP
    have XO' := Lib.hid (XO.out.set_ 4 (.slice A7 (G + 1) c7))
    have XR' := Lib.hid (XR.out.setNe (p := ⟨w4.heap.size, 4, none⟩) (by show w4.heap.size ≠ _; first | omega | (exact boxes_apart XO.out XR.out (by decide))) (.slice A7 (G + 1) c7))
    have HQG' := Lib.hid (HQG.out.setBox XO.out (by decide) (by omega) (by decide) 4 (.slice A7 (G + 1) c7))
    have HB' := Lib.hid (HB.out.setCell (p := ⟨w4.heap.size, 4, none⟩) (by show w.heap.size ≤ w4.heap.size; omega) (.slice A7 (G + 1) c7))
    have XO_4 := XO.out.at_ 4 _ rfl
    have XO_l := XO.out.lt
    have XO_z4 := XO.out.frozen 4
    go_upto_region 13 with fail
    clear XO_4 XO_l XO_z4
    clear HB XO XR HQG
    generalize w7.setCell ⟨w4.heap.size, 4, none⟩ (.slice A7 (G + 1) c7) = w8 at *
    have XO : Hid (Box w8 w4.heap.size #[.bool ord, .string key, .slice OA N oc, .int .i64 mat, .slice A7 (G + 1) c7] 25) := XO'
    have XR := XR'
    have HQG := HQG'
    have HB := HB'
    clear HB' XO' XR' HQG'
    have XO_0 := XO.out.at_ 0 _ rfl
    have XO_1 := XO.out.at_ 1 _ rfl
    have XO_2 := XO.out.at_ 2 _ rfl
    have XO_3 := XO.out.at_ 3 _ rfl
    have XO_4 := XO.out.at_ 4 _ rfl
    have XR_0 := XR.out.at_ 0 _ rfl
    have XR_1 := XR.out.at_ 1 _ rfl
    have XR_2 := XR.out.at_ 2 _ rfl
    have XR_3 := XR.out.at_ 3 _ rfl
    have XR_4 := XR.out.at_ 4 _ rfl
    have XR_l := XR.out.lt
    have XR_z0 := XR.out.frozen 0
    have XR_z1 := XR.out.frozen 1
    have XR_z2 := XR.out.frozen 2
    have XR_z3 := XR.out.frozen 3
    have XR_z4 := XR.out.frozen 4
    go_wp2_with fail
    refine bodyPost_ret (v := .tuple #[.agg #[.bool ord, .string key, .slice OA N oc, .int .i64 mat, .slice A7 (G + 1) c7], .int .i64 0]) (by simp [results, Tryd.results17, go_sem, XR_0, XR_1, XR_2, XR_3, XR_4, XR_l]) rfl ?_
    rw [← HLN.out]
    exact ⟨_, rfl, BDF.mk (b := ⟨ord, key, want, mat, wrg ++ [ln]⟩) (HOG.out.bx (set5_kept (.bool ord) (.string key) (.slice OA N oc) (.int .i64 mat) (.slice A7 (G + 1) c7) HKP8.out (.inl ⟨Nat.zero_le _, _, XRm.out⟩)) (by decide) (by decide)) (HQG.out.set5 XR.out (by decide) (Nat.zero_le _) (by decide) (.bool ord) (.string key) (.slice OA N oc) (.int .i64 mat) (.slice A7 (G + 1) c7)), set5_below (.bool ord) (.string key) (.slice OA N oc) (.int .i64 mat) (.slice A7 (G + 1) c7) HB.out (by omega)⟩
  case inr.inr.inr =>
    rw [ha] at CA
    rw [hat] at CP
    have CC2 := Lib.hid (CC.out hok (k : Int) ⟨by omega, by omega⟩)
    have CM2 := Lib.hid (CM.out hok sMis (by decide))
    rw [cut_nat] at CC2
    have HMT := hok.2.2.1
    have CS2 := Lib.hid (fun W u1 u2 a1 a2 a3 a4 => CS.out k hkl W u1 u2 a1 a2 a3 a4 hok htv)
    obtain ⟨A', c', eA, -, hX⟩ := HX.out
    simp only [Value.slice.injEq] at eA
    obtain ⟨rfl, -, rfl⟩ := eA
    obtain ⟨q, o, u1, u2, rfl, hql, q1, q2, x1, x2, -⟩ := hX k hkl
    clear hX
    have CS3 := Lib.hid (fun W (hW : Below w.heap.size w W) a3 a4 => CS2.out W u1 u2 (x1.below hW) (x2.below hW) a3 a4)
    have Q1 := Lib.hid (fun W (hW : Below w.heap.size w W) => (hW.cell (p := ⟨q, o + k * 2, none⟩) hql).trans q1)
    have Q2 := Lib.hid (fun W (hW : Below w.heap.size w W) => (hW.cell (p := ⟨q, o + k * 2 + 1, none⟩) hql).trans q2)
    obtain ⟨E1, e1, rfl, -⟩ := id x1
    obtain ⟨E2, e2, rfl, -⟩ := id x2
    have hel : (b.want.eraseIdx k).length ≤ b.want.length := by rw [List.length_eraseIdx]; split <;> omega
    have hsm : (b.want.getD k tx0 = t) → sameT (b.want.getD k tx0).1 (b.want.getD k tx0).2 t.1 t.2 = true := fun h => by rw [h]; simp [sameT]
    have hsn : (b.want.getD k tx0 ≠ t) → sameT (b.want.getD k tx0).1 (b.want.getD k tx0).2 t.1 t.2 = false := fun h => by
      unfold sameT
      cases e1 : decide ((b.want.getD k tx0).1 = t.1) <;> cases e2 : decide ((b.want.getD k tx0).2 = t.2) <;> try rfl
      exact absurd (Prod.ext (of_decide_eq_true e1) (of_decide_eq_true e2)) h
    generalize hyy : sameT (b.want.getD k tx0).1 (b.want.getD k tx0).2 t.1 t.2 = sm at *
    generalize (b.want.getD k tx0).1.length = M1 at *
    generalize (b.want.getD k tx0).2.length = M2 at *
    generalize b.want.getD k tx0 = y at *
    obtain ⟨ord, key, want, mat, wrg⟩ := b
    simp only at *
    obtain ⟨N, hN⟩ : ∃ N, N = want.length := ⟨_, rfl⟩
    obtain ⟨G, hG⟩ : ∃ G, G = wrg.length := ⟨_, rfl⟩
    obtain ⟨L1, hL1⟩ : ∃ n, n = t.1.length := ⟨_, rfl⟩
    obtain ⟨L2, hL2⟩ : ∃ n, n = t.2.length := ⟨_, rfl⟩
    have HN := Lib.hid hN
    have HGL := Lib.hid hG
    have K1 := Lib.hid hL1
    have K2 := Lib.hid hL2
    obtain ⟨ls, hls⟩ : ∃ ls, ls = want.eraseIdx k := ⟨_, rfl⟩
    rw [← hls] at CC2 hel hway
    obtain ⟨N1, hN1⟩ : ∃ n, n = ls.length := ⟨_, rfl⟩
    rw [← hN1] at CC2 hel
    rw [← hN] at CA CP CC2 CM2 H1 hkl hel ⊢
    rw [← hG] at CA CP CC2 CM2 H2 hf1 ⊢
    rw [← hL1] at CA CP CS3 S1 ⊢
    rw [← hL2] at CA CP CS3 S2 ⊢
    clear hN hG hL1 hL2 n1 n2 ha hok htv hat CC CM CS CS2 HX hls hN1 q1 q2 x1 x2 hql hyy hel
    have HMS := Lib.hid hsm
    have HNS := Lib.hid hsn
    have HWY := Lib.hid hway
    clear hsm hsn hway
    have hk2 : (k : Int) < (N : Int) := by omega
    have hk0 : (0 : Int) ≤ (k : Int) := by omega
    have g0 : ¬ (k : Int) < 0 := by omega
    go_enter Tryd.func17, Tryd.ntmps17
    go_wp2_with fail
    have XA := Lib.hid (((box_new (W := w) (g := w.heap.size) 25 #[.bool ord, .string key, .slice (some ⟨q, o, none⟩) N c1, .int .i64 mat, .slice A2 G c2] (by simp)).below (below_alloc _ (.cells #[.slice B1 L1 d1, .slice B2 L2 d2] 28))).below (below_alloc _ (.cells #[.bool false, .string ⟨#[]⟩, .slice none 0 0, .int .i64 0, .slice none 0 0] 25)))
    have XB := Lib.hid ((box_new (W := (w.alloc (.cells #[.bool ord, .string key, .slice (some ⟨q, o, none⟩) N c1, .int .i64 mat, .slice A2 G c2] 25))) (g := w.heap.size + 1) 28 #[.slice B1 L1 d1, .slice B2 L2 d2] (by simp)).below (below_alloc _ (.cells #[.bool false, .string ⟨#[]⟩, .slice none 0 0, .int .i64 0, .slice none 0 0] 25)))
    have XR := Lib.hid (box_new (W := ((w.alloc (.cells #[.bool ord, .string key, .slice (some ⟨q, o, none⟩) N c1, .int .i64 mat, .slice A2 G c2] 25)).alloc (.cells #[.slice B1 L1 d1, .slice B2 L2 d2] 28))) (g := w.heap.size + 1 + 1) 25 #[.bool false, .string ⟨#[]⟩, .slice none 0 0, .int .i64 0, .slice none 0 0] (by simp))
    have HB := Lib.hid (below_step (below_step (below_alloc w (.cells #[.bool ord, .string key, .slice (some ⟨q, o, none⟩) N c1, .int .i64 mat, .slice A2 G c2] 25)) (below_alloc (w.alloc (.cells #[.bool ord, .string key, .slice (some ⟨q, o, none⟩) N c1, .int .i64 mat, .slice A2 G c2] 25)) (.cells #[.slice B1 L1 d1, .slice B2 L2 d2] 28))) (below_alloc ((w.alloc (.cells #[.bool ord, .string key, .slice (some ⟨q, o, none⟩) N c1, .int .i64 mat, .slice A2 G c2] 25)).alloc (.cells #[.slice B1 L1 d1, .slice B2 L2 d2] 28)) (.cells #[.bool false, .string ⟨#[]⟩, .slice none 0 0, .int .i64 0, .slice none 0 0] 25)))
    generalize ((w.alloc (.cells #[.bool ord, .string key, .slice (some ⟨q, o, none⟩) N c1, .int .i64 mat, .slice A2 G c2] 25)).alloc (.cells #[.slice B1 L1 d1, .slice B2 L2 d2] 28)).alloc (.cells #[.bool false, .string ⟨#[]⟩, .slice none 0 0, .int .i64 0, .slice none 0 0] 25) = w1 at *
    refine (CA.out _ (H1.out.below HB.out) (H2.out.below HB.out) (S1.out.below HB.out) (S2.out.below HB.out) (HK.out.below HB.out) (HM.out.below HB.out)).mono ?_; rintro e w2 ⟨rfl, hb⟩
    replace XA := Lib.hid (XA.out.below hb)
    replace XB := Lib.hid (XB.out.below hb)
    replace XR := Lib.hid (XR.out.below hb)
    replace HB := Lib.hid (below_step HB.out hb)
    clear hb
    have XA_0 := XA.out.at_ 0 _ rfl
    have XA_1 := XA.out.at_ 1 _ rfl
    have XA_2 := XA.out.at_ 2 _ rfl
    have XA_3 := XA.out.at_ 3 _ rfl
    have XA_4 := XA.out.at_ 4 _ rfl
    have XB_0 := XB.out.at_ 0 _ rfl
    have XB_1 := XB.out.at_ 1 _ rfl
    have f1 : ¬ (1024 : Int) ≤ (G : Int) := by omega
    have f2 : ¬ 1099511627776 ≤ mat := by omega
    go_wp2_with fail
    clear XA_0 XA_1 XA_2 XA_3 XA_4 XB_0 XB_1
    refine (CP.out _ (H1.out.below HB.out) (H2.out.below HB.out) (S1.out.below HB.out) (S2.out.below HB.out)).mono ?_; rintro e w3 ⟨rfl, hb⟩
    replace XA := Lib.hid (XA.out.below hb)
    replace XB := Lib.hid (XB.out.below hb)
    replace XR := Lib.hid (XR.out.below hb)
    replace HB := Lib.hid (below_step HB.out hb)
    clear hb
    have XA_0 := XA.out.at_ 0 _ rfl
    have XA_1 := XA.out.at_ 1 _ rfl
    have XA_2 := XA.out.at_ 2 _ rfl
    have XA_3 := XA.out.at_ 3 _ rfl
    have XA_4 := XA.out.at_ 4 _ rfl
    go_wp2_with fail
    clear XA_0 XA_1 XA_2 XA_3 XA_4
    refine (CC2.out _ (H1.out.below HB.out) (H2.out.below HB.out)).mono ?_; rintro e w4 ⟨OA, oc, QA, qc, wm, rfl, hog, hwm, hkp, hqg, hb⟩
    have HLE := Lib.hid (Nat.le_trans HB.out.size hwm.size)
    have XRm := Lib.hid (XR.out.below hwm)
    have HLM := Lib.hid hkp.1
    have HLR := Lib.hid XR.out.lt
    have HOG := Lib.hid hog
    have HKP := Lib.hid hkp
    have HQG := Lib.hid hqg
    have hsz34 := hb.size
    clear hog hqg CC2 hwm hkp
    replace XA := Lib.hid (XA.out.below hb)
    replace XB := Lib.hid (XB.out.below hb)
    replace XR := Lib.hid (XR.out.below hb)
    replace HB := Lib.hid (below_step HB.out hb)
    clear hb
    go_upto_region 9 with fail
    have hba0 := below_alloc w4 (.cells #[.bool ord, .string key, .slice OA N1 oc, .int .i64 mat, .slice QA G qc] 25)
    replace HKP := Lib.hid (HKP.out.below hba0)
    replace HQG := Lib.hid (HQG.out.below hba0)
    have HL45 := Lib.hid hba0.size
    clear hba0
    have XO := Lib.hid (box_new (W := w4) (g := w4.heap.size) 25 #[.bool ord, .string key, .slice OA N1 oc, .int .i64 mat, .slice QA G qc] (by simp))
    have hba := (below_alloc w4 (.cells #[.bool ord, .string key, .slice OA N1 oc, .int .i64 mat, .slice QA G qc] 25))
    replace XA := Lib.hid (XA.out.below hba)
    replace XB := Lib.hid (XB.out.below hba)
    replace XR := Lib.hid (XR.out.below hba)
    replace HB := Lib.hid (below_step HB.out hba)
    clear hba
    generalize w4.alloc (.cells #[.bool ord, .string key, .slice OA N1 oc, .int .i64 mat, .slice QA G qc] 25) = w5 at *
    go_wp2_with fail
    have VS := Lib.hid (fun p : Lat w5 => CS3.out p.w (below_step HB.out p.h) (S1.out.below (below_step HB.out p.h)) (S2.out.below (below_step HB.out p.h)))
    have l0 := XA.out.lat 2 _ rfl
    have l1 := XB.out.lat 0 _ rfl
    have l2 := XB.out.lat 1 _ rfl
    have m1 : ∀ p : Lat w5, p.w.cell? ⟨q, o + k * 2, none⟩ = _ := fun p => Q1.out p.w (below_step HB.out p.h)
    have m2 : ∀ p : Lat w5, p.w.cell? ⟨q, o + k * 2 + 1, none⟩ = _ := fun p => Q2.out p.w (below_step HB.out p.h)
    refine wp_region_lat (by kernel_rfl) (by kernel_rfl) ?_
    repeat (go_big_quiet_step (with_reducible exact lat_call (VS.out _)))
    refine wpQuiet_nil ?_; intro w5b hb
    clear l0 l1 l2 m1 m2 VS
    replace HKP := Lib.hid (HKP.out.below hb)
    replace HQG := Lib.hid (HQG.out.below hb)
    have HL55 := Lib.hid (Nat.le_trans HL45.out hb.size)
    replace XA := Lib.hid (XA.out.below hb)
    replace XB := Lib.hid (XB.out.below hb)
    replace XR := Lib.hid (XR.out.below hb)
    replace XO := Lib.hid (XO.out.below hb)
    replace HB := Lib.hid (below_step HB.out hb)
    clear hb
    have hlr := HLR.out
    have hsz4 := HLM.out
    rcases HWY.out with ⟨hy, hr⟩ | ⟨hy, hr⟩
    · have hs := HMS.out hy
      clear HMS HNS HWY hy CM2
      subst hs
      subst hr
      have HMB := Lib.hid hf2
      have XO_3 := XO.out.at_ 3 _ rfl
      go_upto_region 12 with fail
      clear XO_3
      have HKP8 := Lib.hid (HKP.out.set (p := ⟨w4.heap.size, 3, none⟩) (.inr HLM.out) (.int .i64 (mat + 1)))
      clear HKP
      have XO_3 := XO.out.at_ 3 _ rfl
      have XO' := Lib.hid (XO.out.set_ 3 (.int .i64 (mat + 1)))
      have XR' := Lib.hid (XR.out.setNe (p := ⟨w4.heap.size, 3, none⟩) (by show w4.heap.size ≠ _; first | omega | (exact boxes_apart XO.out XR.out (by decide))) (.int .i64 (mat + 1)))
      have HQG' := Lib.hid (HQG.out.setBox XO.out (by decide) (by omega) (by decide) 3 (.int .i64 (mat + 1)))
      have HB' := Lib.hid (HB.out.setCell (p := ⟨w4.heap.size, 3, none⟩) (by show w.heap.size ≤ w4.heap.size; omega) (.int .i64 (mat + 1)))
      have XO_l := XO.out.lt
      have XO_z3 := XO.out.frozen 3
      go_upto_region 13 with fail
      clear XO_3 XO_l XO_z3
      clear HB XO XR HQG
      generalize w5b.setCell ⟨w4.heap.size, 3, none⟩ (.int .i64 (mat + 1)) = w8 at *
      have XO : Hid (Box w8 w4.heap.size #[.bool ord, .string key, .slice OA N1 oc, .int .i64 (mat + 1), .slice QA G qc] 25) := XO'
      have XR := XR'
      have HQG := HQG'
      have HB := HB'
      clear HB' XO' XR' HQG'
      have XO_0 := XO.out.at_ 0 _ rfl
      have XO_1 := XO.out.at_ 1 _ rfl
      have XO_2 := XO.out.at_ 2 _ rfl
      have XO_3 := XO.out.at_ 3 _ rfl
      have XO_4 := XO.out.at_ 4 _ rfl
      have XR_0 := XR.out.at_ 0 _ rfl
      have XR_1 := XR.out.at_ 1 _ rfl
      have XR_2 := XR.out.at_ 2 _ rfl
      have XR_3 := XR.out.at_ 3 _ rfl
      have XR_4 := XR.out.at_ 4 _ rfl
      have XR_l := XR.out.lt
      have XR_z0 := XR.out.frozen 0
      have XR_z1 := XR.out.frozen 1
      have XR_z2 := XR.out.frozen 2
      have XR_z3 := XR.out.frozen 3
      have XR_z4 := XR.out.frozen 4
      go_wp2_with fail
      refine bodyPost_ret (v := .tuple #[.agg #[.bool ord, .string key, .slice OA N1 oc, .int .i64 (mat + 1), .slice QA G qc], .int .i64 0]) (by simp [results, Tryd.results17, go_sem, XR_0, XR_1, XR_2, XR_3, XR_4, XR_l]) rfl ?_
      exact ⟨_, rfl, BDF.mk (b := ⟨ord, key, ls, (mat + 1), wrg⟩) (HOG.out.bx (set5_kept (.bool ord) (.string key) (.slice OA N1 oc) (.int .i64 (mat + 1)) (.slice QA G qc) HKP8.out (.inl ⟨Nat.zero_le _, _, XRm.out⟩)) (by decide) (by decide)) (HQG.out.set5 XR.out (by decide) (Nat.zero_le _) (by decide) (.bool ord) (.string key) (.slice OA N1 oc) (.int .i64 (mat + 1)) (.slice QA G qc)), set5_below (.bool ord) (.string key) (.slice OA N1 oc) (.int .i64 (mat + 1)) (.slice QA G qc) HB.out (by omega)⟩
    · have hs := HNS.out hy
      clear HMS HNS HWY hy
      subst hs
      subst hr
      go_wp2_with fail
      have HT5 := Lib.hid (HT.out.below HB.out)
      obtain ⟨ln, hln⟩ : ∃ ln, ln = lineT sMis (numB ⟨ord, key, want, mat, wrg⟩) := ⟨_, rfl⟩
      rw [← hln] at CM2
      have HLN := Lib.hid hln
      unfold sMis at CM2
      clear hln
      refine wp_region_gen 5 (Kit.of [gVal 3 [] (.string ln), gRs 4 [] strR [ln] 0]) (by kernel_rfl) (by kernel_rfl) (fun γ => by kernel_rfl) (by kernel_rfl) (Kit.of_stable ?_) (Kit.of_known ?_) ?_
      · intro z hz; simp only [List.mem_cons, List.not_mem_nil, or_false] at hz; rcases hz with rfl | rfl
        · apply gVal_st
        · apply gRs_st
      · intro z hz; simp only [List.mem_cons, List.not_mem_nil, or_false] at hz; rcases hz with rfl | rfl
        · apply gVal_kn
        · apply gRs_kn
      intro γ hγ C hC hne
      have e3 : γ 3 = .string ln := hγ 3 rfl
      obtain ⟨A4, c4, e4⟩ : ∃ A c, γ 4 = .slice A 1 c := hγ 4 rfl
      have l0 := XO.out.latC (C := C) 4 _ rfl
      have l1 := XA.out.latC (C := C) 0 _ rfl
      have l2 := XA.out.latC (C := C) 1 _ rfl
      have l3 := XA.out.latC (C := C) 2 _ rfl
      have l4 := XA.out.latC (C := C) 3 _ rfl
      have l5 := XA.out.latC (C := C) 4 _ rfl
      simp only [List.take_succ_cons, List.take_zero, List.drop_succ_cons, List.drop_zero]
      iterate 3 (refine wpF_quiet rfl ?_; go_big_quiet_step (fail); refine wpQuiet_nil ?_)
      refine wpF_fresh rfl (freshAt_call (args := #[.agg #[.bool ord, .string key, .slice (some ⟨q, o, none⟩) N c1, .int .i64 mat, .slice A2 G c2], .string ⟨#[109, 105, 115, 109, 97, 116, 99, 104]⟩]) rfl _ _ _ (run_go Tryd.func37 (by kernel_rfl) (by kernel_rfl)) rfl (by simp [Act.eval]) (fun w' hb hf => (CM2.out w' (HT5.out.below hb)).mono fun e w2 ⟨he, h1⟩ => ⟨_, he, rfl, h1⟩)) ?_
      simp only [Nat.zero_add, Nat.reduceAdd, e3]
      go_simp
      refine wpF_fresh rfl (freshAt_one (φ := strR) (x := ln) (B := 0) (T := 9) (us := #[.string ln]) rfl (fun w => by kernel_rfl) (fun w' hb hf => rfl) (fun v w h => h)) ?_
      simp only [Nat.zero_add, Nat.reduceAdd, e4]
      go_simp
      intro w6 hb hF
      have HL6 := Lib.hid (show w4.heap.size ≤ w6.heap.size from Nat.le_trans HL55.out hb.size)
      have R4 : Rs strR w6 (γ 4) [ln] (Ty w6 0 strR.ts) := hF 4 (by decide) rfl
      rw [e4] at R4
      have HR4 := Lib.hid R4
      replace HKP := Lib.hid (HKP.out.below hb)
      replace HQG := Lib.hid (HQG.out.below hb)
      clear l0 l1 l2 l3 l4 l5 hF hγ hC hne e3 e4 R4 CM2
      replace XR := Lib.hid (XR.out.below hb)
      replace XO := Lib.hid (XO.out.below hb)
      replace HB := Lib.hid (below_step HB.out hb)
      clear hb
      go_wp2_with (at_builtin; refine wpList_append_og (φ := strR) (T := 9) (B := wm.heap.size) (C := 0) (xs := wrg) (ys := [ln]) rfl _ _ 23 rfl i0 (.string ⟨#[]⟩) 16 Tryd.underlying23 HI.out HZ0.out HZ1.out HZ2.out rfl rfl HQG.out (.slice A4 1 c4) rfl HR4.out ?c1 ?c2 ?c3 ?_)
      case c1 => simp only [List.length_cons, List.length_nil]; rw [← HGL.out]; omega
      case c2 => simp only [List.length_cons, List.length_nil]; rw [← HGL.out]; unfold maxLen; omega
      case c3 => exact Nat.le_trans HLM.out HL6.out
      intro v' w7 hqg7 hg7
      replace XR := Lib.hid (HQG.out.boxKept hg7.out XR.out (.inl (by decide)))
      replace XO := Lib.hid (HQG.out.boxKept hg7.out XO.out (.inl (by decide)))
      replace HKP := Lib.hid (HKP.out.grown hg7.out fun q hq => .inr (HQG.out.blk q hq))
      replace HB := Lib.hid (HQG.out.belowG hg7.out HB.out HB.out.size HLE.out)
      obtain ⟨A7, c7, hv'⟩ := hqg7.out.slice
      rw [show (wrg ++ [ln]).length = G + 1 by rw [List.length_append, HGL.out]; rfl] at hv'
      subst hv'
      clear HQG hg7 HR4
      have HQG := hqg7
      have hlr := HLR.out
      clear hqg7
      have HKP8 := Lib.hid (HKP.out.set (p := ⟨w4.heap.size, 4, none⟩) (.inr HLM.out) (.slice A7 (G + 1) c7))
      clear HKP
      have XO' := Lib.hid (XO.out.set_ 4 (.slice A7 (G + 1) c7))
      have XR' := Lib.hid (XR.out.setNe (p := ⟨w4.heap.size, 4, none⟩) (by show w4.heap.size ≠ _; first | omega | (exact boxes_apart XO.out XR.out (by decide))) (.slice A7 (G + 1) c7))
      have HQG' := Lib.hid (HQG.out.setBox XO.out (by decide) (by omega) (by decide) 4 (.slice A7 (G + 1) c7))
      have HB' := Lib.hid (HB.out.setCell (p := ⟨w4.heap.size, 4, none⟩) (by show w.heap.size ≤ w4.heap.size; omega) (.slice A7 (G + 1) c7))
      have XO_4 := XO.out.at_ 4 _ rfl
      have XO_l := XO.out.lt
      have XO_z4 := XO.out.frozen 4
      go_upto_region 13 with fail
      clear XO_4 XO_l XO_z4
      clear HB XO XR HQG
      generalize w7.setCell ⟨w4.heap.size, 4, none⟩ (.slice A7 (G + 1) c7) = w8 at *
      have XO : Hid (Box w8 w4.heap.size #[.bool ord, .string key, .slice OA N1 oc, .int .i64 mat, .slice A7 (G + 1) c7] 25) := XO'
      have XR := XR'
      have HQG := HQG'
      have HB := HB'
      clear HB' XO' XR' HQG'
      have XO_0 := XO.out.at_ 0 _ rfl
      have XO_1 := XO.out.at_ 1 _ rfl
      have XO_2 := XO.out.at_ 2 _ rfl
      have XO_3 := XO.out.at_ 3 _ rfl
      have XO_4 := XO.out.at_ 4 _ rfl
      have XR_0 := XR.out.at_ 0 _ rfl
      have XR_1 := XR.out.at_ 1 _ rfl
      have XR_2 := XR.out.at_ 2 _ rfl
      have XR_3 := XR.out.at_ 3 _ rfl
      have XR_4 := XR.out.at_ 4 _ rfl
      have XR_l := XR.out.lt
      have XR_z0 := XR.out.frozen 0
      have XR_z1 := XR.out.frozen 1
      have XR_z2 := XR.out.frozen 2
      have XR_z3 := XR.out.frozen 3
      have XR_z4 := XR.out.frozen 4
      go_wp2_with fail
      refine bodyPost_ret (v := .tuple #[.agg #[.bool ord, .string key, .slice OA N1 oc, .int .i64 mat, .slice A7 (G + 1) c7], .int .i64 0]) (by simp [results, Tryd.results17, go_sem, XR_0, XR_1, XR_2, XR_3, XR_4, XR_l]) rfl ?_
      rw [← HLN.out]
      exact ⟨_, rfl, BDF.mk (b := ⟨ord, key, ls, mat, wrg ++ [ln]⟩) (HOG.out.bx (set5_kept (.bool ord) (.string key) (.slice OA N1 oc) (.int .i64 mat) (.slice A7 (G + 1) c7) HKP8.out (.inl ⟨Nat.zero_le _, _, XRm.out⟩)) (by decide) (by decide)) (HQG.out.set5 XR.out (by decide) (Nat.zero_le _) (by decide) (.bool ord) (.string key) (.slice OA N1 oc) (.int .i64 mat) (.slice A7 (G + 1) c7)), set5_below (.bool ord) (.string key) (.slice OA N1 oc) (.int .i64 mat) (.slice A7 (G + 1) c7) HB.out (by omega)⟩

end Go.Proofs.YtldafnjbgjagiaaDoor

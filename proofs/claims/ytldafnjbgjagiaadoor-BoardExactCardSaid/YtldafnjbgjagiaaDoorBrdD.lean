/-
  Contracts of board.partner, complaint, loss, Clean.
-/
import Derived.Test.YtldafnjbgjagiaaDoorBrdC
import Derived.Test.YtldafnjbgjagiaaDoorDec
namespace Go.Proofs.YtldafnjbgjagiaaDoor
open Go.RowKit
set_option linter.unusedVariables false
set_option linter.unusedSimpArgs false

theorem itoaC (n : Int) (w : World) (h0 : -9223372036854775808 ≤ n) (h1 : n ≤ 9223372036854775807) (ht : Tab w) : Calls Tryd.prog 52 #[.int .i64 n] w fun e w' => e = .returned (.string (fmtS n)) ∧ Below w.heap.size w w' :=
  (Tryd.strconv_Itoa n h0 h1 _ ht).mono fun e w' ⟨he, k, os, hw⟩ => ⟨he, by rw [hw]; exact below_grow w k os⟩

set_option maxRecDepth 100000 in
set_option maxHeartbeats 4000000 in
/-- The closure of board.partner. -/
theorem brdPart1 (w : World) (g g2 : Nat) (o : Bool) (s : ByteArray) (m z : Int) (wv gv v1 v2 : Value) (ns : List ByteArray) (zs : List Int) (hx : Box w g #[.bool o, .string s, wv, .int .i64 m, gv] 25) (hx2 : Box w g2 #[.int .i64 z] 3) (h1 : SL w v1 ns) (h2 : IL w v2 zs)
    (n1 : ns.length ≤ 9223372036854775807) (n2 : zs.length ≤ 9223372036854775807) (h3 : ∃ A n c, wv = .slice A n c) (h4 : ∃ A n c, gv = .slice A n c) :
    Calls Tryd.prog 51 #[.agg #[v1, v2], .pointer (some ⟨g, 0, none⟩), .pointer (some ⟨g2, 0, none⟩)] w fun e w' => e = .returned (.bool (decide ((getT ns zs s).1 = z))) ∧ Below w.heap.size w w' := by
  have HQ1 := Lib.hid h1
  have HQ2 := Lib.hid h2
  have XG := Lib.hid hx
  have XZ := Lib.hid hx2
  have CG := Lib.hid (fun W h1 h2 => brdKey W o s m wv gv v1 v2 ns zs h1 h2 n1 n2)
  obtain ⟨A1, N1, c1, rfl⟩ := h3
  obtain ⟨A2, N2, c2, rfl⟩ := h4
  obtain ⟨B1, d1, rfl, -⟩ := id h1
  obtain ⟨B2, d2, rfl, -⟩ := id h2
  generalize getT ns zs s = r at *
  generalize ns.length = L1 at *
  generalize zs.length = L2 at *
  obtain ⟨rv, rb⟩ := r
  simp only [ret2b] at CG ⊢
  clear h1 h2 n1 n2 hx hx2
  go_enter Tryd.func51, Tryd.ntmps51
  go_upto_region 1 with fail
  have XB := Lib.hid (box_new (W := w) (g := w.heap.size) 28 #[.slice B1 L1 d1, .slice B2 L2 d2] (by simp))
  have HB := Lib.hid (below_alloc w (.cells #[.slice B1 L1 d1, .slice B2 L2 d2] 28))
  generalize w.alloc (.cells #[.slice B1 L1 d1, .slice B2 L2 d2] 28) = w1 at *
  have XA := Lib.hid (XG.out.below HB.out)
  have XA_0 := XA.out.at_ 0 _ rfl
  have XA_1 := XA.out.at_ 1 _ rfl
  have XA_2 := XA.out.at_ 2 _ rfl
  have XA_3 := XA.out.at_ 3 _ rfl
  have XA_4 := XA.out.at_ 4 _ rfl
  have XB_0 := XB.out.at_ 0 _ rfl
  have XB_1 := XB.out.at_ 1 _ rfl
  go_wp2_with fail
  clear XA_0 XA_1 XA_2 XA_3 XA_4 XB_0 XB_1
  clear XA
  refine (CG.out _ (HQ1.out.below HB.out) (HQ2.out.below HB.out)).mono ?_; rintro e w2 ⟨rfl, hb⟩
  replace XB := Lib.hid (XB.out.below hb)
  replace HB := Lib.hid (below_step HB.out hb)
  clear hb
  have XA := Lib.hid (XZ.out.below HB.out)
  have XA_0 := XA.out.at_ 0 _ rfl
  go_wp2_with fail
  go_ret
  exact ⟨rfl, HB.out⟩

theorem at_ord (b : Bd) (t : Tx) (h : b.ord = true) : atT b t = if b.want.length = 0 then -1 else 0 := by
  have hh : hitB b (gt t b.key).1 = fun _ => true := by funext u; simp [hitB, h]
  unfold atT atN
  rw [hh]
  cases b.want with
  | nil => rfl
  | cons x l => simp [List.findIdx_cons]
theorem at_key (b : Bd) (t : Tx) (h : b.ord = false) : atT b t = fIdx (fun u => decide ((getT u.1 u.2 b.key).1 = (getT t.1 t.2 b.key).1)) b.want := by
  have hh : hitB b (gt t b.key).1 = fun u => decide ((getT u.1 u.2 b.key).1 = (getT t.1 t.2 b.key).1) := by funext u; simp only [hitB, h, Bool.false_or]; rfl
  unfold atT atN fIdx
  rw [hh]
set_option maxRecDepth 100000 in
set_option maxHeartbeats 8000000 in
theorem brdPartner (w : World) (b : Bd) (t : Tx) (wv gv v1 v2 : Value) (h1 : Rs txR w wv b.want anyB) (h2 : SL w gv b.wrg) (s1 : SL w v1 t.1) (s2 : IL w v2 t.2) (n1 : b.want.length ≤ 9223372036854775807) (hz : ∀ t ∈ b.want, TZ t) (tz : TZ t) :
    Calls Tryd.prog 36 #[.agg #[.bool b.ord, .string b.key, wv, .int .i64 b.mat, gv], .agg #[v1, v2]] w fun e w' => e = .returned (.int .i64 (atT b t)) ∧ Below w.heap.size w w' := by
  have H1 := Lib.hid h1
  have S1 := Lib.hid s1
  have S2 := Lib.hid s2
  have E1 := Lib.hid (at_ord b t)
  have E2 := Lib.hid (at_key b t)
  have CK := Lib.hid (fun W a1 a2 => brdKey W b.ord b.key b.mat wv gv v1 v2 t.1 t.2 a1 a2 tz.1 tz.2.1)
  obtain ⟨A1, c1, rfl, -⟩ := h1.slice
  obtain ⟨A2, c2, rfl, -⟩ := id h2
  obtain ⟨B1, d1, rfl, -⟩ := id s1
  obtain ⟨B2, d2, rfl, -⟩ := id s2
  generalize atT b t = r at *
  cases ho : b.ord
  case true =>
    have E := Lib.hid (E1.out ho)
    generalize b.key = s at *
    generalize b.mat = m at *
    generalize b.wrg.length = G at *
    generalize t.1.length = L1 at *
    generalize t.2.length = L2 at *
    obtain ⟨N, hN⟩ : ∃ N, N = b.want.length := ⟨_, rfl⟩
    rw [← hN] at E n1 ⊢
    clear E1 E2 CK H1 S1 S2 h1 h2 s1 s2 hz tz hN ho
    by_cases h0 : N = 0
    · subst h0
      have E3 : Hid (r = -1) := Lib.hid (by rw [E.out]; rfl)
      clear E
      go_enter Tryd.func36, Tryd.ntmps36
      go_wp2_with fail
      go_ret
      exact ⟨ret1 E3.out.symm, below_step (below_alloc _ _) (below_alloc _ _)⟩
    · have E3 : Hid (r = 0) := Lib.hid (by rw [E.out, if_neg h0])
      have f1 : (1 : Int) ≤ (N : Int) := by omega
      have f2 : ¬ (N : Int) < 1 := by omega
      have f3 : min (N : Int) 1 = 1 := by omega
      clear E h0
      go_enter Tryd.func36, Tryd.ntmps36
      go_wp2_with fail
      go_ret
      exact ⟨ret1 E3.out.symm, below_step (below_alloc _ _) (below_alloc _ _)⟩
  case false =>
    have E := Lib.hid (E2.out ho)
    rw [ho] at CK
    obtain ⟨⟨z, zb⟩, hzz⟩ : ∃ q, q = getT t.1 t.2 b.key := ⟨_, rfl⟩
    rw [← hzz] at E CK
    simp only [ret2b] at E CK
    have hf : ∀ g g2, Hid (∀ W, Below w.heap.size w W → Box W g #[.bool false, .string b.key, .slice A1 b.want.length c1, .int .i64 b.mat, .slice A2 b.wrg.length c2] 25 → Box W g2 #[.int .i64 z] 3 → Calls Tryd.prog 50 #[.slice A1 b.want.length c1, .func (.func 51) #[] #[.pointer (some ⟨g, 0, none⟩), .pointer (some ⟨g2, 0, none⟩)]] W fun e w' => e = .returned (.int .i64 r) ∧ Below W.heap.size W w') := fun g g2 => Lib.hid fun W hW hx hx2 => by
      have := idxFunc W (.slice A1 b.want.length c1) b.want (H1.out.below hW) n1 51 #[.pointer (some ⟨g, 0, none⟩), .pointer (some ⟨g2, 0, none⟩)] (fun u => decide ((getT u.1 u.2 b.key).1 = z)) (run_go Tryd.func51 (by kernel_rfl) (by kernel_rfl))
        (fun W' v1 v2 u hb' hu s1 s2 => brdPart1 W' g g2 false b.key b.mat z (.slice A1 b.want.length c1) (.slice A2 b.wrg.length c2) v1 v2 u.1 u.2 (hx.below hb') (hx2.below hb') s1 s2 (hz u hu).1 (hz u hu).2.1 ⟨_, _, _, rfl⟩ ⟨_, _, _, rfl⟩)
      rw [← E.out] at this
      exact this
    have HF := Lib.hid hf
    generalize b.key = s at *
    generalize b.mat = m at *
    generalize b.want.length = N at *
    generalize b.wrg.length = G at *
    generalize t.1.length = L1 at *
    generalize t.2.length = L2 at *
    have hmf : ∀ (fn : Fn) (first cap : Array Value) (w : World), (Instr.makeFunc fn first cap).run Tryd.prog w = .ok (.func fn first cap) w := fun _ _ _ _ => rfl
    clear E1 E2 E H1 h1 h2 s1 s2 hz tz ho hf hzz
    go_enter Tryd.func36, Tryd.ntmps36
    go_wp2_with fail
    have XA := Lib.hid ((box_new (W := w) (g := w.heap.size) 25 #[.bool false, .string s, .slice A1 N c1, .int .i64 m, .slice A2 G c2] (by simp)).below (below_alloc _ (.cells #[.slice B1 L1 d1, .slice B2 L2 d2] 28)))
    have XB := Lib.hid (box_new (W := (w.alloc (.cells #[.bool false, .string s, .slice A1 N c1, .int .i64 m, .slice A2 G c2] 25))) (g := w.heap.size + 1) 28 #[.slice B1 L1 d1, .slice B2 L2 d2] (by simp))
    have HB := Lib.hid (below_step (below_alloc w (.cells #[.bool false, .string s, .slice A1 N c1, .int .i64 m, .slice A2 G c2] 25)) (below_alloc (w.alloc (.cells #[.bool false, .string s, .slice A1 N c1, .int .i64 m, .slice A2 G c2] 25)) (.cells #[.slice B1 L1 d1, .slice B2 L2 d2] 28)))
    generalize (w.alloc (.cells #[.bool false, .string s, .slice A1 N c1, .int .i64 m, .slice A2 G c2] 25)).alloc (.cells #[.slice B1 L1 d1, .slice B2 L2 d2] 28) = w1 at *
    refine (CK.out _ (S1.out.below HB.out) (S2.out.below HB.out)).mono ?_; rintro e w2 ⟨rfl, hb⟩
    replace XA := Lib.hid (XA.out.below hb)
    replace XB := Lib.hid (XB.out.below hb)
    replace HB := Lib.hid (below_step HB.out hb)
    clear hb
    have XA_2 := XA.out.at_ 2 _ rfl
    go_upto_region 4 with fail
    clear XA_2
    have XZ := Lib.hid (box_new (W := w2) (g := w2.heap.size) 3 #[.int .i64 z] (by simp))
    have hba := (below_alloc w2 (.cells #[.int .i64 z] 3))
    replace XA := Lib.hid (XA.out.below hba)
    replace XB := Lib.hid (XB.out.below hba)
    replace HB := Lib.hid (below_step HB.out hba)
    clear hba
    generalize w2.alloc (.cells #[.int .i64 z] 3) = w3 at *
    have XA_2 := XA.out.at_ 2 _ rfl
    go_wp2_with fail
    clear XA_2
    refine ((HF.out _ _).out _ HB.out XA.out XZ.out).mono ?_; rintro e w4 ⟨rfl, hb⟩
    replace XA := Lib.hid (XA.out.below hb)
    replace XB := Lib.hid (XB.out.below hb)
    replace XZ := Lib.hid (XZ.out.below hb)
    replace HB := Lib.hid (below_step HB.out hb)
    clear hb
    go_wp2_with fail
    go_ret
    exact ⟨rfl, HB.out⟩

set_option maxRecDepth 100000 in
set_option maxHeartbeats 4000000 in
theorem brdComplaint (w : World) (b : Bd) (s : ByteArray) (A1 A2 : Option Addr) (c1 c2 : Nat) (hs : s.size ≤ 1000) (h0 : 0 ≤ b.mat) (h1 : b.mat ≤ 1099511627776) (h2 : b.wrg.length ≤ 1024) (ht : Tab w) :
    Calls Tryd.prog 37 #[.agg #[.bool b.ord, .string b.key, .slice A1 b.want.length c1, .int .i64 b.mat, .slice A2 b.wrg.length c2], .string s] w fun e w' => e = .returned (.string (lineT s (numB b))) ∧ Below w.heap.size w w' := by
  have HT := Lib.hid ht
  have HR : Hid (lineT s (numB b) = (s ++ ⟨#[32]⟩) ++ fmtS (b.mat + b.wrg.length)) := Lib.hid rfl
  have CI := Lib.hid (fun W h => itoaC (b.mat + b.wrg.length) W (by omega) (by omega) h)
  have hfs := fmt_size (b.mat + b.wrg.length) (by omega) (by omega)
  generalize lineT s (numB b) = r at *
  generalize b.want.length = N at *
  generalize b.wrg.length = G at *
  generalize b.ord = o at *
  generalize b.key = k at *
  generalize b.mat = m at *
  generalize fmtS (m + G) = x at *
  have f5 : ¬ 9223372036854775807 < s.size + 1 := by omega
  have f6 : ¬ 9223372036854775807 < (s ++ (⟨#[32]⟩ : ByteArray)).size + x.size := by rw [ByteArray.size_append]; show ¬ 9223372036854775807 < s.size + 1 + x.size; omega
  have f7 : ¬ 9223372036854775807 < s.size + 1 + x.size := by omega
  clear ht
  go_enter Tryd.func37, Tryd.ntmps37
  go_wp2_with fail
  have XA := Lib.hid (box_new (W := w) (g := w.heap.size) 25 #[.bool o, .string k, .slice A1 N c1, .int .i64 m, .slice A2 G c2] (by simp))
  have HB := Lib.hid (below_alloc w (.cells #[.bool o, .string k, .slice A1 N c1, .int .i64 m, .slice A2 G c2] 25))
  generalize w.alloc (.cells #[.bool o, .string k, .slice A1 N c1, .int .i64 m, .slice A2 G c2] 25) = w1 at *
  refine (CI.out _ (HT.out.below HB.out)).mono ?_; rintro e w2 ⟨rfl, hb⟩
  replace XA := Lib.hid (XA.out.below hb)
  replace HB := Lib.hid (below_step HB.out hb)
  clear hb
  go_wp2_with fail
  go_ret
  exact ⟨by rw [HR.out]; rfl, HB.out⟩

end Go.Proofs.YtldafnjbgjagiaaDoor

/-
  Contract of the reference's Observe.
-/
import Derived.Test.YtldafnjbgjagiaaDoorBrrC
namespace Go.Proofs.YtldafnjbgjagiaaDoor
open Go.RowKit
set_option linter.unusedVariables false
set_option linter.unusedSimpArgs false

theorem Rs.take {α : Type} {φ : Rd α} {w : World} {b o N c : Nat} {xs : List α} {F : Nat → Prop} (h : Rs φ w (.slice (some ⟨b, o, none⟩) N c) xs F) (k : Nat) (hk : k ≤ N) : Rs φ w (.slice (some ⟨b, o, none⟩) k c) (xs.take k) F := by
  obtain ⟨A, c', e, hc, h⟩ := h
  simp only [Value.slice.injEq] at e
  obtain ⟨rfl, rfl, rfl⟩ := e
  have hl : (xs.take k).length = k := by rw [List.length_take]; omega
  refine ⟨_, _, by rw [hl], by omega, fun hp => ?_⟩
  obtain ⟨b', o', e, hb, h⟩ := h (by omega)
  simp only [Option.some.injEq] at e
  cases e
  refine ⟨_, _, rfl, hb, fun j x hj => ?_⟩
  have hjk : j < k := by have := (List.getElem?_eq_some_iff.1 hj).1; omega
  rw [List.getElem?_take_of_lt hjk] at hj
  exact h j x hj
theorem Rs.drop {α : Type} {φ : Rd α} {w : World} {b o N c : Nat} {xs : List α} {F : Nat → Prop} (h : Rs φ w (.slice (some ⟨b, o, none⟩) N c) xs F) (k : Nat) (hk : k < N) (c2 : Nat) (hc2 : N - k ≤ c2) : Rs φ w (.slice (some ⟨b, o + k * φ.k, none⟩) (N - k) c2) (xs.drop k) F := by
  obtain ⟨A, c', e, hc, h⟩ := h
  simp only [Value.slice.injEq] at e
  obtain ⟨rfl, rfl, rfl⟩ := e
  have hl : (xs.drop k).length = xs.length - k := by rw [List.length_drop]
  refine ⟨_, _, by rw [hl], by omega, fun hp => ?_⟩
  obtain ⟨b', o', e, hb, h⟩ := h (by omega)
  simp only [Option.some.injEq] at e
  cases e
  refine ⟨_, _, rfl, hb, fun j x hj => ?_⟩
  rw [List.getElem?_drop] at hj
  obtain ⟨us, h1, h2⟩ := h (k + j) x hj
  refine ⟨us, fun i hi => ?_, h2⟩
  have := h1 i hi
  rw [Nat.add_mul] at this
  rw [← this]
  congr 2
  omega
theorem Rs.none {α : Type} {φ : Rd α} {w : World} (A : Option Addr) (c : Nat) (F : Nat → Prop) : Rs φ w (.slice A 0 c) [] F := ⟨A, c, rfl, Nat.zero_le _, fun h => absurd h (by simp)⟩
set_option maxRecDepth 100000 in
set_option maxHeartbeats 16000000 in
theorem brrObserve (w : World) (b : Bd) (t : Tx) (D0 : Nat) (A1 A2 : Option Addr) (c1 c2 : Nat) (v1 v2 : Value) (h1 : Rs txR w (.slice A1 b.want.length c1) b.want (Ty w D0 txR.ts)) (h2 : SL w (.slice A2 b.wrg.length c2) b.wrg) (s1 : SL w v1 t.1) (s2 : IL w v2 t.2) (hC : D0 ≤ w.heap.size) (n1 : b.want.length ≤ 9223372036854775807) (n2 : b.wrg.length ≤ 9223372036854775807) (hz : ∀ t ∈ b.want, TZ t) (tz : TZ t) :
    Calls Tryd.prog 18 #[.agg #[.bool b.ord, .string b.key, .slice A1 b.want.length c1, .int .i64 b.mat, .slice A2 b.wrg.length c2], .agg #[v1, v2]] w (RETB w D0 (obsT b t)) := by
  obtain ⟨i0, hi0, hz0, hz1, hz2⟩ := info_parts istr
  have HI := Lib.hid hi0
  have HZ0 := Lib.hid hz0
  have HZ1 := Lib.hid hz1
  have HZ2 := Lib.hid hz2
  obtain ⟨i1, hi1, hy0, hy1, hy2⟩ := info_parts itxn
  have JI := Lib.hid hi1
  have JZ0 := Lib.hid hy0
  have JZ1 := Lib.hid hy1
  have JZ2 := Lib.hid hy2
  have HCW := Lib.hid hC
  have H1 : Hid (∀ W, Below w.heap.size w W → Rs txR W (.slice A1 b.want.length c1) b.want (Ty W D0 txR.ts)) := Lib.hid fun W hW => (h1.below hW).mono fun q hq => hq.below hW
  have H2 : Hid (∀ W, Below w.heap.size w W → SL W (.slice A2 b.wrg.length c2) b.wrg) := Lib.hid fun W hW => h2.below hW
  have CA : Hid (∀ W, Below w.heap.size w W → Calls Tryd.prog 33 #[.agg #[.bool b.ord, .string b.key, .slice A1 b.want.length c1, .int .i64 b.mat, .slice A2 b.wrg.length c2], .agg #[v1, v2]] W fun e w' => e = .returned (.int .i64 (askT b t)) ∧ Below W.heap.size W w') := Lib.hid fun W hW =>
    brrWrong W b t _ _ v1 v2 ((H1.out W hW).mono fun _ _ => trivial) (H2.out W hW) (s1.below hW) (s2.below hW) n1 n2 hz tz
  have CP : Hid (∀ W, Below w.heap.size w W → Calls Tryd.prog 39 #[.agg #[.bool b.ord, .string b.key, .slice A1 b.want.length c1, .int .i64 b.mat, .slice A2 b.wrg.length c2], .agg #[v1, v2]] W fun e w' => e = .returned (.int .i64 (atT b t)) ∧ Below W.heap.size W w') := Lib.hid fun W hW =>
    brrPlace W b t _ _ v1 v2 ((H1.out W hW).mono fun _ _ => trivial) (H2.out W hW) (s1.below hW) (s2.below hW) n1 hz tz
  have CC : Hid (OkB b → ∀ W, Below w.heap.size w W → Calls Tryd.prog 34 #[.agg #[.bool b.ord, .string b.key, .slice A1 b.want.length c1, .int .i64 b.mat, .slice A2 b.wrg.length c2]] W fun e w' => ∃ OA oc QA qc wm, e = .returned (.agg #[.bool b.ord, .string b.key, .slice OA b.want.length oc, .int .i64 b.mat, .slice QA b.wrg.length qc]) ∧
    (OG txR wm W.heap.size D0 28 (.slice OA b.want.length oc) b.want ∧ Below W.heap.size W wm ∧ Kept (BX wm D0) wm w' ∧ OG strR w' wm.heap.size 0 9 (.slice QA b.wrg.length qc) b.wrg) ∧ Below W.heap.size W w') := Lib.hid fun hok W hW =>
    brrCopied W b D0 A1 A2 c1 c2 (H1.out W hW) (H2.out W hW) (Nat.le_trans hC hW.size) (by have := hok.1; omega) (by have := hok.2.1; omega)
  have CM : Hid (OkB b → ∀ s : ByteArray, s.size ≤ 1000 → ∀ W, Calls Tryd.prog 40 #[.string s, .int .i64 (b.mat + b.wrg.length)] W fun e w' => e = .returned (.string (lineT s (numB b))) ∧ Below W.heap.size W w') := Lib.hid fun hok s hs W =>
    brrLine W s (numB b) hs (by have := hok.2.2.1; unfold numB; omega) (by have := hok.2.2.2.1; have := hok.2.1; unfold numB; omega)
  have htx := h1.txs
  have CS : Hid (∀ k, k < b.want.length → ∀ W u1 u2, Below w.heap.size w W → SL W u1 (b.want.getD k tx0).1 → IL W u2 (b.want.getD k tx0).2 → OkB b → tv t = true → Calls Tryd.prog 29 #[.agg #[u1, u2], .agg #[v1, v2]] W fun e w' => e = .returned (.bool (sameT (b.want.getD k tx0).1 (b.want.getD k tx0).2 t.1 t.2)) ∧ Below W.heap.size W w') := Lib.hid fun k hk W u1 u2 hW a1 a2 hok htv => by
    have h1 := (hok.2.2.2.2 _ (getD_mem tx0 hk)).1
    have h2 := of_decide_eq_true (show decide (TxV (b.want.getD k tx0).1 (b.want.getD k tx0).2) = true from h1)
    have h3 := of_decide_eq_true (show decide (TxV t.1 t.2) = true from htv)
    have e1 := h2.1; have e2 := h2.2.1; have e3 := h3.1; have e4 := h3.2.1
    exact refSame W u1 u2 v1 v2 _ _ _ _ a1 a2 (s1.below hW) (s2.below hW) (by omega) (by omega) (by omega) (by omega)
  obtain ⟨B1, d1, rfl, -⟩ := id s1
  obtain ⟨B2, d2, rfl, -⟩ := id s2
  have HX := Lib.hid htx
  have hcap : b.want.length ≤ c1 := by obtain ⟨A, c, e, hc, _⟩ := h1; simp only [Value.slice.injEq] at e; omega
  have hw := obs_ways b t
  generalize obsT b t = r at *
  clear h1 h2 s1 s2 hz tz hC hi0 hz0 hz1 hz2 hi1 hy0 hy1 hy2 htx
  rcases hw with ⟨c, hc, ha, rfl⟩ | ⟨ha, hok, htv, hfull, rfl⟩ | ⟨ha, hok, htv, hf1, hf2, hat, rfl⟩ | ⟨k, ha, hok, htv, hf1, hf2, hat, hkl, hway⟩
  case inl =>
    rw [ha] at CA
    have f1 : (c != 0) = true := by simpa using hc
    obtain ⟨ord, key, want, mat, wrg⟩ := b
    simp only at *
    generalize want.length = N at *
    generalize wrg.length = G at *
    generalize t.1.length = L1 at *
    generalize t.2.length = L2 at *
    clear hc ha CC CP CM CS HX H1 H2 hcap
    go_enter Tryd.func18, Tryd.ntmps18
    go_wp2_with fail
    have XA := Lib.hid (((box_new (W := w) (g := w.heap.size) 25 #[.bool ord, .string key, .slice A1 N c1, .int .i64 mat, .slice A2 G c2] (by simp)).below (below_alloc _ (.cells #[.slice B1 L1 d1, .slice B2 L2 d2] 28))).below (below_alloc _ (.cells #[.bool false, .string ⟨#[]⟩, .slice none 0 0, .int .i64 0, .slice none 0 0] 25)))
    have XB := Lib.hid ((box_new (W := (w.alloc (.cells #[.bool ord, .string key, .slice A1 N c1, .int .i64 mat, .slice A2 G c2] 25))) (g := w.heap.size + 1) 28 #[.slice B1 L1 d1, .slice B2 L2 d2] (by simp)).below (below_alloc _ (.cells #[.bool false, .string ⟨#[]⟩, .slice none 0 0, .int .i64 0, .slice none 0 0] 25)))
    have XR := Lib.hid (box_new (W := ((w.alloc (.cells #[.bool ord, .string key, .slice A1 N c1, .int .i64 mat, .slice A2 G c2] 25)).alloc (.cells #[.slice B1 L1 d1, .slice B2 L2 d2] 28))) (g := w.heap.size + 1 + 1) 25 #[.bool false, .string ⟨#[]⟩, .slice none 0 0, .int .i64 0, .slice none 0 0] (by simp))
    have HB := Lib.hid (below_step (below_step (below_alloc w (.cells #[.bool ord, .string key, .slice A1 N c1, .int .i64 mat, .slice A2 G c2] 25)) (below_alloc (w.alloc (.cells #[.bool ord, .string key, .slice A1 N c1, .int .i64 mat, .slice A2 G c2] 25)) (.cells #[.slice B1 L1 d1, .slice B2 L2 d2] 28))) (below_alloc ((w.alloc (.cells #[.bool ord, .string key, .slice A1 N c1, .int .i64 mat, .slice A2 G c2] 25)).alloc (.cells #[.slice B1 L1 d1, .slice B2 L2 d2] 28)) (.cells #[.bool false, .string ⟨#[]⟩, .slice none 0 0, .int .i64 0, .slice none 0 0] 25)))
    generalize ((w.alloc (.cells #[.bool ord, .string key, .slice A1 N c1, .int .i64 mat, .slice A2 G c2] 25)).alloc (.cells #[.slice B1 L1 d1, .slice B2 L2 d2] 28)).alloc (.cells #[.bool false, .string ⟨#[]⟩, .slice none 0 0, .int .i64 0, .slice none 0 0] 25) = w1 at *
    refine (CA.out _ HB.out).mono ?_; rintro e w2 ⟨rfl, hb⟩
    replace XA := Lib.hid (XA.out.below hb)
    replace XB := Lib.hid (XB.out.below hb)
    replace XR := Lib.hid (XR.out.below hb)
    replace HB := Lib.hid (below_step HB.out hb)
    clear hb
    have XA_3 := XA.out.at_ 3 _ rfl
    have XA_4 := XA.out.at_ 4 _ rfl
    have XR_0 := XR.out.at_ 0 _ rfl
    have XR_1 := XR.out.at_ 1 _ rfl
    have XR_2 := XR.out.at_ 2 _ rfl
    have XR_3 := XR.out.at_ 3 _ rfl
    have XR_4 := XR.out.at_ 4 _ rfl
    have XR_l := XR.out.lt
    have XR_z0 := XR.out.frozen 0
    have XR_z1 := XR.out.frozen 1
    have XR_z2 := XR.out.frozen 2
    have XR_z3 := XR.out.frozen 3
    have XR_z4 := XR.out.frozen 4
    go_wp2_with fail
    refine bodyPost_ret (v := .tuple #[.agg #[.bool false, .string ⟨#[]⟩, .slice none 0 0, .int .i64 0, .slice none 0 0], .int .i64 c]) (by simp [results, Tryd.results18, go_sem, XR_0, XR_1, XR_2, XR_3, XR_4, XR_l]) rfl ?_
    exact ⟨_, rfl, BDF.zero _ _, set5_below _ _ _ _ _ HB.out (by omega)⟩
  case inr.inl =>
    rw [ha] at CA
    have k1 := hok.2.1
    have k2 := hok.2.2.2.1
    obtain ⟨ord, key, want, mat, wrg⟩ := b
    simp only at *
    generalize want.length = N at *
    generalize wrg.length = G at *
    generalize t.1.length = L1 at *
    generalize t.2.length = L2 at *
    have hway : ((G : Int) == 1024) = true ∨ (((G : Int) == 1024) = false ∧ (mat == 1099511627776) = true) := by
      by_cases e : G = 1024
      · exact .inl (by subst e; rfl)
      · exact .inr ⟨by have : ¬ (G : Int) = 1024 := by omega
                       simpa using this, by have : mat = 1099511627776 := by omega
                                            simpa using this⟩
    clear ha hok htv CC CP CM CS HX H1 H2 hcap hfull k1 k2
    rcases hway with f1 | ⟨f1, f2⟩
    · skip
      go_enter Tryd.func18, Tryd.ntmps18
      go_wp2_with fail
      have XA := Lib.hid (((box_new (W := w) (g := w.heap.size) 25 #[.bool ord, .string key, .slice A1 N c1, .int .i64 mat, .slice A2 G c2] (by simp)).below (below_alloc _ (.cells #[.slice B1 L1 d1, .slice B2 L2 d2] 28))).below (below_alloc _ (.cells #[.bool false, .string ⟨#[]⟩, .slice none 0 0, .int .i64 0, .slice none 0 0] 25)))
      have XB := Lib.hid ((box_new (W := (w.alloc (.cells #[.bool ord, .string key, .slice A1 N c1, .int .i64 mat, .slice A2 G c2] 25))) (g := w.heap.size + 1) 28 #[.slice B1 L1 d1, .slice B2 L2 d2] (by simp)).below (below_alloc _ (.cells #[.bool false, .string ⟨#[]⟩, .slice none 0 0, .int .i64 0, .slice none 0 0] 25)))
      have XR := Lib.hid (box_new (W := ((w.alloc (.cells #[.bool ord, .string key, .slice A1 N c1, .int .i64 mat, .slice A2 G c2] 25)).alloc (.cells #[.slice B1 L1 d1, .slice B2 L2 d2] 28))) (g := w.heap.size + 1 + 1) 25 #[.bool false, .string ⟨#[]⟩, .slice none 0 0, .int .i64 0, .slice none 0 0] (by simp))
      have HB := Lib.hid (below_step (below_step (below_alloc w (.cells #[.bool ord, .string key, .slice A1 N c1, .int .i64 mat, .slice A2 G c2] 25)) (below_alloc (w.alloc (.cells #[.bool ord, .string key, .slice A1 N c1, .int .i64 mat, .slice A2 G c2] 25)) (.cells #[.slice B1 L1 d1, .slice B2 L2 d2] 28))) (below_alloc ((w.alloc (.cells #[.bool ord, .string key, .slice A1 N c1, .int .i64 mat, .slice A2 G c2] 25)).alloc (.cells #[.slice B1 L1 d1, .slice B2 L2 d2] 28)) (.cells #[.bool false, .string ⟨#[]⟩, .slice none 0 0, .int .i64 0, .slice none 0 0] 25)))
      generalize ((w.alloc (.cells #[.bool ord, .string key, .slice A1 N c1, .int .i64 mat, .slice A2 G c2] 25)).alloc (.cells #[.slice B1 L1 d1, .slice B2 L2 d2] 28)).alloc (.cells #[.bool false, .string ⟨#[]⟩, .slice none 0 0, .int .i64 0, .slice none 0 0] 25) = w1 at *
      refine (CA.out _ HB.out).mono ?_; rintro e w2 ⟨rfl, hb⟩
      replace XA := Lib.hid (XA.out.below hb)
      replace XB := Lib.hid (XB.out.below hb)
      replace XR := Lib.hid (XR.out.below hb)
      replace HB := Lib.hid (below_step HB.out hb)
      clear hb
      have XA_3 := XA.out.at_ 3 _ rfl
      have XA_4 := XA.out.at_ 4 _ rfl
      have XR_0 := XR.out.at_ 0 _ rfl
      have XR_1 := XR.out.at_ 1 _ rfl
      have XR_2 := XR.out.at_ 2 _ rfl
      have XR_3 := XR.out.at_ 3 _ rfl
      have XR_4 := XR.out.at_ 4 _ rfl
      have XR_l := XR.out.lt
      have XR_z0 := XR.out.frozen 0
      have XR_z1 := XR.out.frozen 1
      have XR_z2 := XR.out.frozen 2
      have XR_z3 := XR.out.frozen 3
      have XR_z4 := XR.out.frozen 4
      go_wp2_with fail
      refine bodyPost_ret (v := .tuple #[.agg #[.bool false, .string ⟨#[]⟩, .slice none 0 0, .int .i64 0, .slice none 0 0], .int .i64 16]) (by simp [results, Tryd.results18, go_sem, XR_0, XR_1, XR_2, XR_3, XR_4, XR_l]) rfl ?_
      exact ⟨_, rfl, BDF.zero _ _, set5_below _ _ _ _ _ HB.out (by omega)⟩
    · skip
      go_enter Tryd.func18, Tryd.ntmps18
      go_wp2_with fail
      have XA := Lib.hid (((box_new (W := w) (g := w.heap.size) 25 #[.bool ord, .string key, .slice A1 N c1, .int .i64 mat, .slice A2 G c2] (by simp)).below (below_alloc _ (.cells #[.slice B1 L1 d1, .slice B2 L2 d2] 28))).below (below_alloc _ (.cells #[.bool false, .string ⟨#[]⟩, .slice none 0 0, .int .i64 0, .slice none 0 0] 25)))
      have XB := Lib.hid ((box_new (W := (w.alloc (.cells #[.bool ord, .string key, .slice A1 N c1, .int .i64 mat, .slice A2 G c2] 25))) (g := w.heap.size + 1) 28 #[.slice B1 L1 d1, .slice B2 L2 d2] (by simp)).below (below_alloc _ (.cells #[.bool false, .string ⟨#[]⟩, .slice none 0 0, .int .i64 0, .slice none 0 0] 25)))
      have XR := Lib.hid (box_new (W := ((w.alloc (.cells #[.bool ord, .string key, .slice A1 N c1, .int .i64 mat, .slice A2 G c2] 25)).alloc (.cells #[.slice B1 L1 d1, .slice B2 L2 d2] 28))) (g := w.heap.size + 1 + 1) 25 #[.bool false, .string ⟨#[]⟩, .slice none 0 0, .int .i64 0, .slice none 0 0] (by simp))
      have HB := Lib.hid (below_step (below_step (below_alloc w (.cells #[.bool ord, .string key, .slice A1 N c1, .int .i64 mat, .slice A2 G c2] 25)) (below_alloc (w.alloc (.cells #[.bool ord, .string key, .slice A1 N c1, .int .i64 mat, .slice A2 G c2] 25)) (.cells #[.slice B1 L1 d1, .slice B2 L2 d2] 28))) (below_alloc ((w.alloc (.cells #[.bool ord, .string key, .slice A1 N c1, .int .i64 mat, .slice A2 G c2] 25)).alloc (.cells #[.slice B1 L1 d1, .slice B2 L2 d2] 28)) (.cells #[.bool false, .string ⟨#[]⟩, .slice none 0 0, .int .i64 0, .slice none 0 0] 25)))
      generalize ((w.alloc (.cells #[.bool ord, .string key, .slice A1 N c1, .int .i64 mat, .slice A2 G c2] 25)).alloc (.cells #[.slice B1 L1 d1, .slice B2 L2 d2] 28)).alloc (.cells #[.bool false, .string ⟨#[]⟩, .slice none 0 0, .int .i64 0, .slice none 0 0] 25) = w1 at *
      refine (CA.out _ HB.out).mono ?_; rintro e w2 ⟨rfl, hb⟩
      replace XA := Lib.hid (XA.out.below hb)
      replace XB := Lib.hid (XB.out.below hb)
      replace XR := Lib.hid (XR.out.below hb)
      replace HB := Lib.hid (below_step HB.out hb)
      clear hb
      have XA_3 := XA.out.at_ 3 _ rfl
      have XA_4 := XA.out.at_ 4 _ rfl
      have XR_0 := XR.out.at_ 0 _ rfl
      have XR_1 := XR.out.at_ 1 _ rfl
      have XR_2 := XR.out.at_ 2 _ rfl
      have XR_3 := XR.out.at_ 3 _ rfl
      have XR_4 := XR.out.at_ 4 _ rfl
      have XR_l := XR.out.lt
      have XR_z0 := XR.out.frozen 0
      have XR_z1 := XR.out.frozen 1
      have XR_z2 := XR.out.frozen 2
      have XR_z3 := XR.out.frozen 3
      have XR_z4 := XR.out.frozen 4
      go_wp2_with fail
      refine bodyPost_ret (v := .tuple #[.agg #[.bool false, .string ⟨#[]⟩, .slice none 0 0, .int .i64 0, .slice none 0 0], .int .i64 16]) (by simp [results, Tryd.results18, go_sem, XR_0, XR_1, XR_2, XR_3, XR_4, XR_l]) rfl ?_
      exact ⟨_, rfl, BDF.zero _ _, set5_below _ _ _ _ _ HB.out (by omega)⟩
  case inr.inr.inl =>
    rw [ha] at CA
    rw [hat] at CP
    have CC2 := Lib.hid (CC.out hok)
    have CM2 := Lib.hid (CM.out hok sExtra (by decide))
    have HMT := hok.2.2.1
    have HMM := hok.1
    obtain ⟨ord, key, want, mat, wrg⟩ := b
    simp only at *
    obtain ⟨N, hN⟩ : ∃ N, N = want.length := ⟨_, rfl⟩
    obtain ⟨G, hG⟩ : ∃ G, G = wrg.length := ⟨_, rfl⟩
    obtain ⟨L1, hL1⟩ : ∃ n, n = t.1.length := ⟨_, rfl⟩
    obtain ⟨L2, hL2⟩ : ∃ n, n = t.2.length := ⟨_, rfl⟩
    have HN := Lib.hid hN
    have HGL := Lib.hid hG
    have K1 := Lib.hid hL1
    have K2 := Lib.hid hL2
    rw [← hN] at CA CP CC2 HMM ⊢
    rw [← hG] at CA CP CC2 CM2 hf1 ⊢
    rw [← hL1] at CA CP ⊢
    rw [← hL2] at CA CP ⊢
    clear hN hG hL1 hL2 n1 n2 ha hok htv hat CC CM CS HX H1 H2 hcap
    go_enter Tryd.func18, Tryd.ntmps18
    go_wp2_with fail
    have XA := Lib.hid (((box_new (W := w) (g := w.heap.size) 25 #[.bool ord, .string key, .slice A1 N c1, .int .i64 mat, .slice A2 G c2] (by simp)).below (below_alloc _ (.cells #[.slice B1 L1 d1, .slice B2 L2 d2] 28))).below (below_alloc _ (.cells #[.bool false, .string ⟨#[]⟩, .slice none 0 0, .int .i64 0, .slice none 0 0] 25)))
    have XB := Lib.hid ((box_new (W := (w.alloc (.cells #[.bool ord, .string key, .slice A1 N c1, .int .i64 mat, .slice A2 G c2] 25))) (g := w.heap.size + 1) 28 #[.slice B1 L1 d1, .slice B2 L2 d2] (by simp)).below (below_alloc _ (.cells #[.bool false, .string ⟨#[]⟩, .slice none 0 0, .int .i64 0, .slice none 0 0] 25)))
    have XR := Lib.hid (box_new (W := ((w.alloc (.cells #[.bool ord, .string key, .slice A1 N c1, .int .i64 mat, .slice A2 G c2] 25)).alloc (.cells #[.slice B1 L1 d1, .slice B2 L2 d2] 28))) (g := w.heap.size + 1 + 1) 25 #[.bool false, .string ⟨#[]⟩, .slice none 0 0, .int .i64 0, .slice none 0 0] (by simp))
    have HB := Lib.hid (below_step (below_step (below_alloc w (.cells #[.bool ord, .string key, .slice A1 N c1, .int .i64 mat, .slice A2 G c2] 25)) (below_alloc (w.alloc (.cells #[.bool ord, .string key, .slice A1 N c1, .int .i64 mat, .slice A2 G c2] 25)) (.cells #[.slice B1 L1 d1, .slice B2 L2 d2] 28))) (below_alloc ((w.alloc (.cells #[.bool ord, .string key, .slice A1 N c1, .int .i64 mat, .slice A2 G c2] 25)).alloc (.cells #[.slice B1 L1 d1, .slice B2 L2 d2] 28)) (.cells #[.bool false, .string ⟨#[]⟩, .slice none 0 0, .int .i64 0, .slice none 0 0] 25)))
    generalize ((w.alloc (.cells #[.bool ord, .string key, .slice A1 N c1, .int .i64 mat, .slice A2 G c2] 25)).alloc (.cells #[.slice B1 L1 d1, .slice B2 L2 d2] 28)).alloc (.cells #[.bool false, .string ⟨#[]⟩, .slice none 0 0, .int .i64 0, .slice none 0 0] 25) = w1 at *
    refine (CA.out _ HB.out).mono ?_; rintro e w2 ⟨rfl, hb⟩
    replace XA := Lib.hid (XA.out.below hb)
    replace XB := Lib.hid (XB.out.below hb)
    replace XR := Lib.hid (XR.out.below hb)
    replace HB := Lib.hid (below_step HB.out hb)
    clear hb
    have XA_0 := XA.out.at_ 0 _ rfl
    have XA_1 := XA.out.at_ 1 _ rfl
    have XA_2 := XA.out.at_ 2 _ rfl
    have XA_3 := XA.out.at_ 3 _ rfl
    have XA_4 := XA.out.at_ 4 _ rfl
    have f1 : ((G : Int) == 1024) = false := by have : ¬ (G : Int) = 1024 := by omega
                                                simpa using this
    have f2 : (mat == 1099511627776) = false := by have : ¬ mat = 1099511627776 := by omega
                                                   simpa using this
    go_wp2_with fail
    clear XA_0 XA_1 XA_2 XA_3 XA_4
    refine (CC2.out _ HB.out).mono ?_; rintro e w4 ⟨OA, oc, QA, qc, wm, rfl, ⟨hog, hwm, hkp, hqg⟩, hb⟩
    have HLE := Lib.hid (Nat.le_trans HB.out.size hwm.size)
    have XRm := Lib.hid (XR.out.below hwm)
    have HLM := Lib.hid hkp.1
    have HLR := Lib.hid XR.out.lt
    have HOG := Lib.hid hog
    have HKP := Lib.hid hkp
    have HQG := Lib.hid hqg
    have hsz34 := hb.size
    clear hog hqg CC2 hwm hkp
    replace XA := Lib.hid (XA.out.below hb)
    replace XB := Lib.hid (XB.out.below hb)
    replace XR := Lib.hid (XR.out.below hb)
    replace HB := Lib.hid (below_step HB.out hb)
    clear hb
    go_upto_region 7 with fail
    have hba0 := below_alloc w4 (.cells #[.bool ord, .string key, .slice OA N oc, .int .i64 mat, .slice QA G qc] 25)
    replace HKP := Lib.hid (HKP.out.below hba0)
    replace HQG := Lib.hid (HQG.out.below hba0)
    have HL45 := Lib.hid hba0.size
    clear hba0
    have XO := Lib.hid (box_new (W := w4) (g := w4.heap.size) 25 #[.bool ord, .string key, .slice OA N oc, .int .i64 mat, .slice QA G qc] (by simp))
    have hba := (below_alloc w4 (.cells #[.bool ord, .string key, .slice OA N oc, .int .i64 mat, .slice QA G qc] 25))
    replace XA := Lib.hid (XA.out.below hba)
    replace XB := Lib.hid (XB.out.below hba)
    replace XR := Lib.hid (XR.out.below hba)
    replace HB := Lib.hid (below_step HB.out hba)
    clear hba
    generalize w4.alloc (.cells #[.bool ord, .string key, .slice OA N oc, .int .i64 mat, .slice QA G qc] 25) = w5 at *
    have XA_0 := XA.out.at_ 0 _ rfl
    have XA_1 := XA.out.at_ 1 _ rfl
    have XA_2 := XA.out.at_ 2 _ rfl
    have XA_3 := XA.out.at_ 3 _ rfl
    have XA_4 := XA.out.at_ 4 _ rfl
    have XB_0 := XB.out.at_ 0 _ rfl
    have XB_1 := XB.out.at_ 1 _ rfl
    go_wp2_with fail
    clear XA_0 XA_1 XA_2 XA_3 XA_4 XB_0 XB_1
    refine (CP.out _ HB.out).mono ?_; rintro e w5b ⟨rfl, hb⟩
    replace HKP := Lib.hid (HKP.out.below hb)
    replace HQG := Lib.hid (HQG.out.below hb)
    replace HL45 := Lib.hid (Nat.le_trans HL45.out hb.size)
    replace XA := Lib.hid (XA.out.below hb)
    replace XB := Lib.hid (XB.out.below hb)
    replace XR := Lib.hid (XR.out.below hb)
    replace XO := Lib.hid (XO.out.below hb)
    replace HB := Lib.hid (below_step HB.out hb)
    clear hb
    have g0 : (-1 : Int) < 0 := by decide
    go_wp2_with fail
    obtain ⟨ln, hln⟩ : ∃ ln, ln = lineT sExtra (numB ⟨ord, key, want, mat, wrg⟩) := ⟨_, rfl⟩
    rw [← hln] at CM2
    have HLN := Lib.hid hln
    unfold sExtra at CM2
    clear hln
    refine wp_region_gen 5 (Kit.of [gVal 3 [] (.string ln), gRs 4 [] strR [ln] 0]) (by kernel_rfl) (by kernel_rfl) (fun γ => by kernel_rfl) (by kernel_rfl) (Kit.of_stable ?_) (Kit.of_known ?_) ?_
    · intro z hz; simp only [List.mem_cons, List.not_mem_nil, or_false] at hz; rcases hz with rfl | rfl
      · apply gVal_st
      · apply gRs_st
    · intro z hz; simp only [List.mem_cons, List.not_mem_nil, or_false] at hz; rcases hz with rfl | rfl
      · apply gVal_kn
      · apply gRs_kn
    intro γ hγ C hC hne
    have e3 : γ 3 = .string ln := hγ 3 rfl
    obtain ⟨A4, c4, e4⟩ : ∃ A c, γ 4 = .slice A 1 c := hγ 4 rfl
    have l0 := XO.out.latC (C := C) 4 _ rfl
    simp only [List.take_succ_cons, List.take_zero, List.drop_succ_cons, List.drop_zero]
    iterate 3 (refine wpF_quiet rfl ?_; go_big_quiet_step (fail); refine wpQuiet_nil ?_)
    refine wpF_fresh rfl (freshAt_call (args := #[.string ⟨#[101, 120, 116, 114, 97]⟩, .int .i64 (mat + (G : Int))]) rfl _ _ _ (run_go Tryd.func40 (by kernel_rfl) (by kernel_rfl)) rfl (by simp [Act.eval]) (fun w' hb hf => (CM2.out w').mono fun e w2 ⟨he, h1⟩ => ⟨_, he, rfl, h1⟩)) ?_
    simp only [Nat.zero_add, Nat.reduceAdd, e3]
    go_simp
    refine wpF_fresh rfl (freshAt_one (φ := strR) (x := ln) (B := 0) (T := 9) (us := #[.string ln]) rfl (fun w => by kernel_rfl) (fun w' hb hf => rfl) (fun v w h => h)) ?_
    simp only [Nat.zero_add, Nat.reduceAdd, e4]
    go_simp
    intro w6 hb hF
    have HL6 := Lib.hid (show w4.heap.size ≤ w6.heap.size from Nat.le_trans HL45.out hb.size)
    have R4 : Rs strR w6 (γ 4) [ln] (Ty w6 0 strR.ts) := hF 4 (by decide) rfl
    rw [e4] at R4
    have HR4 := Lib.hid R4
    replace HKP := Lib.hid (HKP.out.below hb)
    replace HQG := Lib.hid (HQG.out.below hb)
    clear l0 hF hγ hC hne e3 e4 R4 CM2
    replace XR := Lib.hid (XR.out.below hb)
    replace XO := Lib.hid (XO.out.below hb)
    replace XA := Lib.hid (XA.out.below hb)
    replace HB := Lib.hid (below_step HB.out hb)
    clear hb
    go_wp2_with (at_builtin; refine wpList_append_og (φ := strR) (T := 9) (B := wm.heap.size) (C := 0) (xs := wrg) (ys := [ln]) rfl _ _ 23 rfl i0 (.string ⟨#[]⟩) 16 Tryd.underlying23 HI.out HZ0.out HZ1.out HZ2.out rfl rfl HQG.out (.slice A4 1 c4) rfl HR4.out ?c1 ?c2 ?c3 ?_)
    case c1 => simp only [List.length_cons, List.length_nil]; rw [← HGL.out]; omega
    case c2 => simp only [List.length_cons, List.length_nil]; rw [← HGL.out]; unfold maxLen; omega
    case c3 => exact Nat.le_trans HLM.out HL6.out
    intro v' w7 hqg7 hg7
    replace XR := Lib.hid (HQG.out.boxKept hg7.out XR.out (.inl (by decide)))
    replace XO := Lib.hid (HQG.out.boxKept hg7.out XO.out (.inl (by decide)))
    replace XA := Lib.hid (HQG.out.boxKept hg7.out XA.out (.inl (by decide)))
    replace HKP := Lib.hid (HKP.out.grown hg7.out fun q hq => .inr (HQG.out.blk q hq))
    replace HB := Lib.hid (HQG.out.belowG hg7.out HB.out HB.out.size HLE.out)
    obtain ⟨A7, c7, hv'⟩ := hqg7.out.slice
    rw [show (wrg ++ [ln]).length = G + 1 by rw [List.length_append, HGL.out]; rfl] at hv'
    subst hv'
    clear HQG hg7 HR4
    have HQG := hqg7
    have hlr := HLR.out
    have hsz4 := HLM.out
    clear hqg7
    have HKP8 := Lib.hid (HKP.out.set (p := ⟨w4.heap.size, 4, none⟩) (.inr HLM.out) (.slice A7 (G + 1) c7))
    clear HKP
    have XO' := Lib.hid (XO.out.set_ 4 (.slice A7 (G + 1) c7))
    have XR' := Lib.hid (XR.out.setNe (p := ⟨w4.heap.size, 4, none⟩) (by show w4.heap.size ≠ _; first | omega | (exact boxes_apart XO.out XR.out (by decide))) (.slice A7 (G + 1) c7))
    have XA' := Lib.hid (XA.out.setNe (p := ⟨w4.heap.size, 4, none⟩) (by show w4.heap.size ≠ _; first | omega | (exact boxes_apart XO.out XA.out (by decide))) (.slice A7 (G + 1) c7))
    have HQG' := Lib.hid (HQG.out.setBox XO.out (by decide) (by omega) (by decide) 4 (.slice A7 (G + 1) c7))
    have HB' := Lib.hid (HB.out.setCell (p := ⟨w4.heap.size, 4, none⟩) (by show w.heap.size ≤ w4.heap.size; omega) (.slice A7 (G + 1) c7))
    have XO_4 := XO.out.at_ 4 _ rfl
    have XO_l := XO.out.lt
    have XO_z4 := XO.out.frozen 4
    go_upto_region 11 with fail
    clear XO_4 XO_l XO_z4
    clear HB XO XR XA HQG
    generalize w7.setCell ⟨w4.heap.size, 4, none⟩ (.slice A7 (G + 1) c7) = w8 at *
    have XO : Hid (Box w8 w4.heap.size #[.bool ord, .string key, .slice OA N oc, .int .i64 mat, .slice A7 (G + 1) c7] 25) := XO'
    have XR := XR'
    have XA := XA'
    have HQG := HQG'
    have HB := HB'
    clear HB' XO' XR' XA' HQG'
    have XO_0 := XO.out.at_ 0 _ rfl
    have XO_1 := XO.out.at_ 1 _ rfl
    have XO_2 := XO.out.at_ 2 _ rfl
    have XO_3 := XO.out.at_ 3 _ rfl
    have XO_4 := XO.out.at_ 4 _ rfl
    have XR_0 := XR.out.at_ 0 _ rfl
    have XR_1 := XR.out.at_ 1 _ rfl
    have XR_2 := XR.out.at_ 2 _ rfl
    have XR_3 := XR.out.at_ 3 _ rfl
    have XR_4 := XR.out.at_ 4 _ rfl
    have XR_l := XR.out.lt
    have XR_z0 := XR.out.frozen 0
    have XR_z1 := XR.out.frozen 1
    have XR_z2 := XR.out.frozen 2
    have XR_z3 := XR.out.frozen 3
    have XR_z4 := XR.out.frozen 4
    go_wp2_with fail
    refine bodyPost_ret (v := .tuple #[.agg #[.bool ord, .string key, .slice OA N oc, .int .i64 mat, .slice A7 (G + 1) c7], .int .i64 0]) (by simp [results, Tryd.results18, go_sem, XR_0, XR_1, XR_2, XR_3, XR_4, XR_l]) rfl ?_
    rw [← HLN.out]
    exact ⟨_, rfl, BDF.mk (b := ⟨ord, key, want, mat, wrg ++ [ln]⟩) (HOG.out.bx (set5_kept (.bool ord) (.string key) (.slice OA N oc) (.int .i64 mat) (.slice A7 (G + 1) c7) HKP8.out (.inl ⟨by have := HCW.out; omega, _, XRm.out⟩)) (by decide) (by decide)) (HQG.out.set5 XR.out (by decide) (Nat.zero_le _) (by decide) (.bool ord) (.string key) (.slice OA N oc) (.int .i64 mat) (.slice A7 (G + 1) c7)), set5_below (.bool ord) (.string key) (.slice OA N oc) (.int .i64 mat) (.slice A7 (G + 1) c7) HB.out (by omega)⟩
  case inr.inr.inr =>
    rw [ha] at CA
    rw [hat] at CP
    have CC2 := Lib.hid (CC.out hok)
    have CM2 := Lib.hid (CM.out hok sMis (by decide))
    have HMT := hok.2.2.1
    have HMM := hok.1
    have CS2 := Lib.hid (fun W u1 u2 hW a1 a2 => CS.out k hkl W u1 u2 hW a1 a2 hok htv)
    obtain ⟨A', c', eA, -, hX⟩ := HX.out
    simp only [Value.slice.injEq] at eA
    obtain ⟨rfl, -, rfl⟩ := eA
    obtain ⟨q, o, u1, u2, rfl, hql, q1, q2, x1, x2, -⟩ := hX k hkl
    clear hX
    have CS3 := Lib.hid (fun W (hW : Below w.heap.size w W) => CS2.out W u1 u2 hW (x1.below hW) (x2.below hW))
    have Q1 := Lib.hid (fun W (hW : Below w.heap.size w W) => (hW.cell (p := ⟨q, o + k * 2, none⟩) hql).trans q1)
    have Q2 := Lib.hid (fun W (hW : Below w.heap.size w W) => (hW.cell (p := ⟨q, o + k * 2 + 1, none⟩) hql).trans q2)
    obtain ⟨E1, e1, rfl, -⟩ := id x1
    obtain ⟨E2, e2, rfl, -⟩ := id x2
    have hsm : (b.want.getD k tx0 = t) → sameT (b.want.getD k tx0).1 (b.want.getD k tx0).2 t.1 t.2 = true := fun h => by rw [h]; simp [sameT]
    have hsn : (b.want.getD k tx0 ≠ t) → sameT (b.want.getD k tx0).1 (b.want.getD k tx0).2 t.1 t.2 = false := fun h => by
      unfold sameT
      cases e1 : decide ((b.want.getD k tx0).1 = t.1) <;> cases e2 : decide ((b.want.getD k tx0).2 = t.2) <;> try rfl
      exact absurd (Prod.ext (of_decide_eq_true e1) (of_decide_eq_true e2)) h
    have HT1 : Hid (∀ W, Below w.heap.size w W → Rs txR W (.slice (some ⟨q, o, none⟩) k c1) (b.want.take k) (Ty W D0 txR.ts)) := Lib.hid fun W hW => (H1.out W hW).take k (Nat.le_of_lt hkl)
    have HT2 : Hid (∀ W, Below w.heap.size w W → k + 1 < b.want.length → Rs txR W (.slice (some ⟨q, o + (k + 1) * 2, none⟩) (b.want.length - (k + 1)) (c1 - (k + 1))) (b.want.drop (k + 1)) (Ty W D0 txR.ts)) := Lib.hid fun W hW hlt => (H1.out W hW).drop (k + 1) hlt _ (by omega)
    have hdr : ¬ k + 1 < b.want.length → b.want.drop (k + 1) = [] := fun h => List.drop_eq_nil_of_le (by omega)
    have hlt1 : (b.want.take k).length = k := by rw [List.length_take]; omega
    have hld1 : (b.want.drop (k + 1)).length = b.want.length - (k + 1) := List.length_drop
    have her := List.eraseIdx_eq_take_drop_succ b.want k
    generalize hyy : sameT (b.want.getD k tx0).1 (b.want.getD k tx0).2 t.1 t.2 = sm at *
    generalize (b.want.getD k tx0).1.length = M1 at *
    generalize (b.want.getD k tx0).2.length = M2 at *
    generalize b.want.getD k tx0 = y at *
    obtain ⟨ord, key, want, mat, wrg⟩ := b
    simp only at *
    obtain ⟨N, hN⟩ : ∃ N, N = want.length := ⟨_, rfl⟩
    obtain ⟨G, hG⟩ : ∃ G, G = wrg.length := ⟨_, rfl⟩
    obtain ⟨L1, hL1⟩ : ∃ n, n = t.1.length := ⟨_, rfl⟩
    obtain ⟨L2, hL2⟩ : ∃ n, n = t.2.length := ⟨_, rfl⟩
    have HN := Lib.hid hN
    have HGL := Lib.hid hG
    have K1 := Lib.hid hL1
    have K2 := Lib.hid hL2
    obtain ⟨la, hla⟩ : ∃ l, l = want.take k := ⟨_, rfl⟩
    obtain ⟨lb, hlb⟩ : ∃ l, l = want.drop (k + 1) := ⟨_, rfl⟩
    rw [← hla, ← hlb] at her
    rw [← hla] at HT1 hlt1
    rw [← hlb] at HT2 hdr hld1
    rw [her] at hway
    rw [← hN] at CA CP CC2 HMM hkl hcap HT2 hdr hld1 ⊢
    rw [← hG] at CA CP CC2 CM2 hf1 ⊢
    rw [← hL1] at CA CP CS3 ⊢
    rw [← hL2] at CA CP CS3 ⊢
    clear hN hG hL1 hL2 n1 n2 ha hok htv hat CC CM CS CS2 HX H1 H2 q1 q2 x1 x2 hql hyy hla hlb her
    have HMS := Lib.hid hsm
    have HNS := Lib.hid hsn
    have HWY := Lib.hid hway
    have HDR := Lib.hid hdr
    have HLA := Lib.hid hlt1
    have HLB := Lib.hid hld1
    clear hsm hsn hway hdr hlt1 hld1
    have hk2 : (k : Int) < (N : Int) := by omega
    have hk0 : (0 : Int) ≤ (k : Int) := by omega
    have g0 : ¬ (k : Int) < 0 := by omega
    go_enter Tryd.func18, Tryd.ntmps18
    go_wp2_with fail
    have XA := Lib.hid (((box_new (W := w) (g := w.heap.size) 25 #[.bool ord, .string key, .slice (some ⟨q, o, none⟩) N c1, .int .i64 mat, .slice A2 G c2] (by simp)).below (below_alloc _ (.cells #[.slice B1 L1 d1, .slice B2 L2 d2] 28))).below (below_alloc _ (.cells #[.bool false, .string ⟨#[]⟩, .slice none 0 0, .int .i64 0, .slice none 0 0] 25)))
    have XB := Lib.hid ((box_new (W := (w.alloc (.cells #[.bool ord, .string key, .slice (some ⟨q, o, none⟩) N c1, .int .i64 mat, .slice A2 G c2] 25))) (g := w.heap.size + 1) 28 #[.slice B1 L1 d1, .slice B2 L2 d2] (by simp)).below (below_alloc _ (.cells #[.bool false, .string ⟨#[]⟩, .slice none 0 0, .int .i64 0, .slice none 0 0] 25)))
    have XR := Lib.hid (box_new (W := ((w.alloc (.cells #[.bool ord, .string key, .slice (some ⟨q, o, none⟩) N c1, .int .i64 mat, .slice A2 G c2] 25)).alloc (.cells #[.slice B1 L1 d1, .slice B2 L2 d2] 28))) (g := w.heap.size + 1 + 1) 25 #[.bool false, .string ⟨#[]⟩, .slice none 0 0, .int .i64 0, .slice none 0 0] (by simp))
    have HB := Lib.hid (below_step (below_step (below_alloc w (.cells #[.bool ord, .string key, .slice (some ⟨q, o, none⟩) N c1, .int .i64 mat, .slice A2 G c2] 25)) (below_alloc (w.alloc (.cells #[.bool ord, .string key, .slice (some ⟨q, o, none⟩) N c1, .int .i64 mat, .slice A2 G c2] 25)) (.cells #[.slice B1 L1 d1, .slice B2 L2 d2] 28))) (below_alloc ((w.alloc (.cells #[.bool ord, .string key, .slice (some ⟨q, o, none⟩) N c1, .int .i64 mat, .slice A2 G c2] 25)).alloc (.cells #[.slice B1 L1 d1, .slice B2 L2 d2] 28)) (.cells #[.bool false, .string ⟨#[]⟩, .slice none 0 0, .int .i64 0, .slice none 0 0] 25)))
    generalize ((w.alloc (.cells #[.bool ord, .string key, .slice (some ⟨q, o, none⟩) N c1, .int .i64 mat, .slice A2 G c2] 25)).alloc (.cells #[.slice B1 L1 d1, .slice B2 L2 d2] 28)).alloc (.cells #[.bool false, .string ⟨#[]⟩, .slice none 0 0, .int .i64 0, .slice none 0 0] 25) = w1 at *
    refine (CA.out _ HB.out).mono ?_; rintro e w2 ⟨rfl, hb⟩
    replace XA := Lib.hid (XA.out.below hb)
    replace XB := Lib.hid (XB.out.below hb)
    replace XR := Lib.hid (XR.out.below hb)
    replace HB := Lib.hid (below_step HB.out hb)
    clear hb
    have XA_0 := XA.out.at_ 0 _ rfl
    have XA_1 := XA.out.at_ 1 _ rfl
    have XA_2 := XA.out.at_ 2 _ rfl
    have XA_3 := XA.out.at_ 3 _ rfl
    have XA_4 := XA.out.at_ 4 _ rfl
    have f1 : ((G : Int) == 1024) = false := by have : ¬ (G : Int) = 1024 := by omega
                                                simpa using this
    have f2 : (mat == 1099511627776) = false := by have : ¬ mat = 1099511627776 := by omega
                                                   simpa using this
    go_wp2_with fail
    clear XA_0 XA_1 XA_2 XA_3 XA_4
    refine (CC2.out _ HB.out).mono ?_; rintro e w4 ⟨OA, oc, QA, qc, wm, rfl, ⟨hog, hwm, hkp, hqg⟩, hb⟩
    have HLE := Lib.hid (Nat.le_trans HB.out.size hwm.size)
    have XRm := Lib.hid (XR.out.below hwm)
    have HLM := Lib.hid hkp.1
    have HLR := Lib.hid XR.out.lt
    have HOG := Lib.hid hog
    have HKP := Lib.hid hkp
    have HQG := Lib.hid hqg
    have hsz34 := hb.size
    clear hog hqg CC2 hwm hkp
    replace XA := Lib.hid (XA.out.below hb)
    replace XB := Lib.hid (XB.out.below hb)
    replace XR := Lib.hid (XR.out.below hb)
    replace HB := Lib.hid (below_step HB.out hb)
    clear hb
    go_upto_region 7 with fail
    have hba0 := below_alloc w4 (.cells #[.bool ord, .string key, .slice OA N oc, .int .i64 mat, .slice QA G qc] 25)
    replace HKP := Lib.hid (HKP.out.below hba0)
    replace HQG := Lib.hid (HQG.out.below hba0)
    have HL45 := Lib.hid hba0.size
    clear hba0
    have XO := Lib.hid (box_new (W := w4) (g := w4.heap.size) 25 #[.bool ord, .string key, .slice OA N oc, .int .i64 mat, .slice QA G qc] (by simp))
    have hba := (below_alloc w4 (.cells #[.bool ord, .string key, .slice OA N oc, .int .i64 mat, .slice QA G qc] 25))
    replace XA := Lib.hid (XA.out.below hba)
    replace XB := Lib.hid (XB.out.below hba)
    replace XR := Lib.hid (XR.out.below hba)
    replace HB := Lib.hid (below_step HB.out hba)
    clear hba
    generalize w4.alloc (.cells #[.bool ord, .string key, .slice OA N oc, .int .i64 mat, .slice QA G qc] 25) = w5 at *
    have XA_0 := XA.out.at_ 0 _ rfl
    have XA_1 := XA.out.at_ 1 _ rfl
    have XA_2 := XA.out.at_ 2 _ rfl
    have XA_3 := XA.out.at_ 3 _ rfl
    have XA_4 := XA.out.at_ 4 _ rfl
    have XB_0 := XB.out.at_ 0 _ rfl
    have XB_1 := XB.out.at_ 1 _ rfl
    go_wp2_with fail
    clear XA_0 XA_1 XA_2 XA_3 XA_4 XB_0 XB_1
    refine (CP.out _ HB.out).mono ?_; rintro e w5b ⟨rfl, hb⟩
    replace HKP := Lib.hid (HKP.out.below hb)
    replace HQG := Lib.hid (HQG.out.below hb)
    replace HL45 := Lib.hid (Nat.le_trans HL45.out hb.size)
    replace XA := Lib.hid (XA.out.below hb)
    replace XB := Lib.hid (XB.out.below hb)
    replace XR := Lib.hid (XR.out.below hb)
    replace XO := Lib.hid (XO.out.below hb)
    replace HB := Lib.hid (below_step HB.out hb)
    clear hb
    go_wp2_with fail
    have VS := Lib.hid (fun p : Lat w5b => CS3.out p.w (below_step HB.out p.h))
    have l0 := XA.out.lat 2 _ rfl
    have l1 := XB.out.lat 0 _ rfl
    have l2 := XB.out.lat 1 _ rfl
    have m1 : ∀ p : Lat w5b, p.w.cell? ⟨q, o + k * 2, none⟩ = _ := fun p => Q1.out p.w (below_step HB.out p.h)
    have m2 : ∀ p : Lat w5b, p.w.cell? ⟨q, o + k * 2 + 1, none⟩ = _ := fun p => Q2.out p.w (below_step HB.out p.h)
    refine wp_region_lat (by kernel_rfl) (by kernel_rfl) ?_
    repeat (go_big_quiet_step (with_reducible exact lat_call (VS.out _)))
    refine wpQuiet_nil ?_; intro w5c hb
    clear l0 l1 l2 m1 m2 VS
    replace HKP := Lib.hid (HKP.out.below hb)
    replace HQG := Lib.hid (HQG.out.below hb)
    replace HL45 := Lib.hid (Nat.le_trans HL45.out hb.size)
    replace XA := Lib.hid (XA.out.below hb)
    replace XB := Lib.hid (XB.out.below hb)
    replace XR := Lib.hid (XR.out.below hb)
    replace XO := Lib.hid (XO.out.below hb)
    replace HB := Lib.hid (below_step HB.out hb)
    clear hb
    have hlr := HLR.out
    have hsz4 := HLM.out
    have hc1 : (k : Int) ≤ (c1 : Int) := by omega
    have hc2 : ((k : Int) + 1) ≤ (N : Int) := by omega
    have hc3 : (N : Int) ≤ (c1 : Int) := by omega
    rcases HWY.out with ⟨hy, hr⟩ | ⟨hy, hr⟩
    · have hs := HMS.out hy
      clear HMS HNS HWY hy CM2
      subst hs
      subst hr
      have HMB := Lib.hid hf2
      have XA_3 := XA.out.at_ 3 _ rfl
      go_upto_region 13 with fail
      have HKP8 := Lib.hid (HKP.out.set (p := ⟨w4.heap.size, 3, none⟩) (.inr HLM.out) (.int .i64 (mat + 1)))
      clear HKP
      have XO' := Lib.hid (XO.out.set_ 3 (.int .i64 (mat + 1)))
      have XR' := Lib.hid (XR.out.setNe (p := ⟨w4.heap.size, 3, none⟩) (by show w4.heap.size ≠ _; first | omega | (exact boxes_apart XO.out XR.out (by decide))) (.int .i64 (mat + 1)))
      have XA' := Lib.hid (XA.out.setNe (p := ⟨w4.heap.size, 3, none⟩) (by show w4.heap.size ≠ _; first | omega | (exact boxes_apart XO.out XA.out (by decide))) (.int .i64 (mat + 1)))
      have HQG' := Lib.hid (HQG.out.setBox XO.out (by decide) (by omega) (by decide) 3 (.int .i64 (mat + 1)))
      have HB' := Lib.hid (HB.out.setCell (p := ⟨w4.heap.size, 3, none⟩) (by show w.heap.size ≤ w4.heap.size; omega) (.int .i64 (mat + 1)))
      have XO_3 := XO.out.at_ 3 _ rfl
      have XO_l := XO.out.lt
      have XO_z3 := XO.out.frozen 3
      go_upto_region 15 with fail
      clear XA_3 XO_3 XO_l XO_z3
      clear HB XO XR XA HQG
      generalize w5c.setCell ⟨w4.heap.size, 3, none⟩ (.int .i64 (mat + 1)) = w8 at *
      have XO : Hid (Box w8 w4.heap.size #[.bool ord, .string key, .slice OA N oc, .int .i64 (mat + 1), .slice QA G qc] 25) := XO'
      have XR := XR'
      have XA := XA'
      have HQG := HQG'
      have HB := HB'
      clear HB' XO' XR' XA' HQG'
      have hba := below_alloc w8 (.cells #[] 28)
      have HO0 := Lib.hid (OG.lit0 (φ := txR) w8 (B := w.heap.size) (C := D0) (T := 28) (by decide) HCW.out HB.out.size)
      have XA' := Lib.hid (XA.out.below hba)
      have XO' := Lib.hid (XO.out.below hba)
      have XR' := Lib.hid (XR.out.below hba)
      have HQG' := Lib.hid (HQG.out.below hba)
      have HB1 := Lib.hid (below_step HB.out hba)
      have R1 := Lib.hid (HT1.out _ HB1.out)
      have XA2 := XA'.out.at_ 2 _ rfl
      clear hba
      go_wp2_with (at_builtin; refine wpList_append_og (φ := txR) (T := 28) (B := w.heap.size) (C := D0) (xs := []) (ys := la) rfl _ _ 22 rfl i1 (.agg #[.slice none 0 0, .slice none 0 0]) 48 Tryd.underlying22 JI.out JZ0.out JZ1.out JZ2.out rfl rfl HO0.out (.slice (some ⟨q, o, none⟩) k c1) rfl R1.out ?c1 ?c2 ?c3 ?_)
      case c1 => (try simp only [List.length_nil]); rw [HLA.out]; omega
      case c2 => (try simp only [List.length_nil]); rw [HLA.out]; unfold maxLen; omega
      case c3 => exact HB1.out.size
      intro v' w9 hr1 hgr
      clear XA XO XR HQG HB XA2 R1
      have XA := Lib.hid (HO0.out.boxKept hgr.out XA'.out (.inl (by decide)))
      have XO := Lib.hid (HO0.out.boxKept hgr.out XO'.out (.inl (by decide)))
      have XR := Lib.hid (HO0.out.boxKept hgr.out XR'.out (.inl (by decide)))
      have HQG := Lib.hid (HQG'.out.growO HO0.out hgr.out (by decide) (by decide) (Nat.zero_le _))
      have HB := Lib.hid (HO0.out.belowG hgr.out HB1.out HB1.out.size (Nat.le_refl _))
      obtain ⟨RA, rc, hv'⟩ := hr1.out.slice
      rw [HLA.out] at hv'
      subst hv'
      clear HO0 XA' XO' XR' HQG' HB1 hgr
      have HRW := hr1
      clear hr1
      obtain ⟨R, hR⟩ : ∃ R, R = N - 1 := ⟨_, rfl⟩
      have HRL := Lib.hid (show R = N - 1 ∧ k < N from ⟨hR, hkl⟩)
      clear hR
      by_cases hlast : k + 1 < N
      · have hl2 : (k : Int) + 1 < (N : Int) := by omega
        have hl3 : ¬ (k : Int) + 1 = (c1 : Int) := by omega
        have R2 := Lib.hid (HT2.out _ HB.out hlast)
        have XA_2 := XA.out.at_ 2 _ rfl
        go_wp2_with (at_builtin; refine wpList_append_og (φ := txR) (T := 28) (B := w.heap.size) (C := D0) (xs := la) (ys := lb) rfl _ _ 22 rfl i1 (.agg #[.slice none 0 0, .slice none 0 0]) 48 Tryd.underlying22 JI.out JZ0.out JZ1.out JZ2.out rfl rfl HRW.out _ rfl R2.out ?c1 ?c2 ?c3 ?_)
        case c1 => rw [HLA.out, HLB.out]; omega
        case c2 => rw [HLA.out, HLB.out]; unfold maxLen; omega
        case c3 => exact HB.out.size
        intro v' w10 hr2 hgr
        replace XA := Lib.hid (HRW.out.boxKept hgr.out XA.out (.inl (by decide)))
        replace XO := Lib.hid (HRW.out.boxKept hgr.out XO.out (.inl (by decide)))
        replace XR := Lib.hid (HRW.out.boxKept hgr.out XR.out (.inl (by decide)))
        replace HQG := Lib.hid (HQG.out.growO HRW.out hgr.out (by decide) (by decide) (Nat.zero_le _))
        replace HB := Lib.hid (HRW.out.belowG hgr.out HB.out HB.out.size (Nat.le_refl _))
        obtain ⟨RA2, rc2, hv'⟩ := hr2.out.slice
        have hll : (la ++ lb).length = R := by rw [List.length_append, HLA.out, HLB.out]; have := HRL.out; omega
        rw [hll] at hv'
        subst hv'
        clear HRW hgr
        have HRW := hr2
        clear hr2
        have hcw := HCW.out
        go_upto_region 17 with fail
        have XO' := Lib.hid (XO.out.set_ 2 (.slice RA2 R rc2))
        have XR' := Lib.hid (XR.out.setNe (p := ⟨w4.heap.size, 2, none⟩) (by show w4.heap.size ≠ _; first | omega | (exact boxes_apart XO.out XR.out (by decide))) (.slice RA2 R rc2))
        have HRW' := Lib.hid (HRW.out.setBox XO.out (by decide) (by omega) (by decide) 2 (.slice RA2 R rc2))
        have HQG' := Lib.hid (HQG.out.setBox XO.out (by decide) (by omega) (by decide) 2 (.slice RA2 R rc2))
        have HB' := Lib.hid (HB.out.setCell (p := ⟨w4.heap.size, 2, none⟩) (by show w.heap.size ≤ w4.heap.size; omega) (.slice RA2 R rc2))
        have XO_2 := XO.out.at_ 2 _ rfl
        have XO_l := XO.out.lt
        have XO_z2 := XO.out.frozen 2
        go_upto_region 18 with fail
        clear XA_2 XO_2 XO_l XO_z2
        clear HB XO XR HRW HQG
        generalize w10.setCell ⟨w4.heap.size, 2, none⟩ (.slice RA2 R rc2) = w11 at *
        have XO : Hid (Box w11 w4.heap.size #[.bool ord, .string key, .slice RA2 R rc2, .int .i64 (mat + 1), .slice QA G qc] 25) := XO'
        have XR := XR'
        have HRW := HRW'
        have HQG := HQG'
        have HB := HB'
        clear HB' XO' XR' HRW' HQG'
        have XO_0 := XO.out.at_ 0 _ rfl
        have XO_1 := XO.out.at_ 1 _ rfl
        have XO_2 := XO.out.at_ 2 _ rfl
        have XO_3 := XO.out.at_ 3 _ rfl
        have XO_4 := XO.out.at_ 4 _ rfl
        have XR_0 := XR.out.at_ 0 _ rfl
        have XR_1 := XR.out.at_ 1 _ rfl
        have XR_2 := XR.out.at_ 2 _ rfl
        have XR_3 := XR.out.at_ 3 _ rfl
        have XR_4 := XR.out.at_ 4 _ rfl
        have XR_l := XR.out.lt
        have XR_z0 := XR.out.frozen 0
        have XR_z1 := XR.out.frozen 1
        have XR_z2 := XR.out.frozen 2
        have XR_z3 := XR.out.frozen 3
        have XR_z4 := XR.out.frozen 4
        go_wp2_with fail
        refine bodyPost_ret (v := .tuple #[.agg #[.bool ord, .string key, .slice RA2 R rc2, .int .i64 (mat + 1), .slice QA G qc], .int .i64 0]) (by simp [results, Tryd.results18, go_sem, XR_0, XR_1, XR_2, XR_3, XR_4, XR_l]) rfl ?_
        exact ⟨_, rfl, BDF.mk (b := ⟨ord, key, la ++ lb, (mat + 1), wrg⟩) (HRW.out.set5 XR.out (by decide) (by omega) (by decide) (.bool ord) (.string key) (.slice RA2 R rc2) (.int .i64 (mat + 1)) (.slice QA G qc)) (HQG.out.set5 XR.out (by decide) (Nat.zero_le _) (by decide) (.bool ord) (.string key) (.slice RA2 R rc2) (.int .i64 (mat + 1)) (.slice QA G qc)), set5_below (.bool ord) (.string key) (.slice RA2 R rc2) (.int .i64 (mat + 1)) (.slice QA G qc) HB.out (by omega)⟩
      · have hlb := HDR.out hlast
        have hN1 : N = k + 1 := by omega
        subst hlb
        subst hN1
        by_cases hcap2 : c1 = k + 1
        · subst hcap2
          have XA_2 := XA.out.at_ 2 _ rfl
          go_wp2_with (at_builtin; refine wpList_append_og (φ := txR) (T := 28) (B := w.heap.size) (C := D0) (xs := la) (ys := []) rfl _ _ 22 rfl i1 (.agg #[.slice none 0 0, .slice none 0 0]) 48 Tryd.underlying22 JI.out JZ0.out JZ1.out JZ2.out rfl rfl HRW.out _ rfl (Rs.none _ _ _) ?c1 ?c2 ?c3 ?_)
          case c1 => (try simp only [List.length_nil]); rw [HLA.out]; omega
          case c2 => (try simp only [List.length_nil]); rw [HLA.out]; unfold maxLen; omega
          case c3 => exact HB.out.size
          intro v' w10 hr2 hgr
          try rw [List.append_nil] at hr2
          replace XA := Lib.hid (HRW.out.boxKept hgr.out XA.out (.inl (by decide)))
          replace XO := Lib.hid (HRW.out.boxKept hgr.out XO.out (.inl (by decide)))
          replace XR := Lib.hid (HRW.out.boxKept hgr.out XR.out (.inl (by decide)))
          replace HQG := Lib.hid (HQG.out.growO HRW.out hgr.out (by decide) (by decide) (Nat.zero_le _))
          replace HB := Lib.hid (HRW.out.belowG hgr.out HB.out HB.out.size (Nat.le_refl _))
          obtain ⟨RA2, rc2, hv'⟩ := hr2.out.slice
          have hll : la.length = R := by rw [HLA.out]; have := HRL.out; omega
          rw [hll] at hv'
          subst hv'
          clear HRW hgr
          have HRW := hr2
          clear hr2
          have hcw := HCW.out
          go_upto_region 17 with fail
          have XO' := Lib.hid (XO.out.set_ 2 (.slice RA2 R rc2))
          have XR' := Lib.hid (XR.out.setNe (p := ⟨w4.heap.size, 2, none⟩) (by show w4.heap.size ≠ _; first | omega | (exact boxes_apart XO.out XR.out (by decide))) (.slice RA2 R rc2))
          have HRW' := Lib.hid (HRW.out.setBox XO.out (by decide) (by omega) (by decide) 2 (.slice RA2 R rc2))
          have HQG' := Lib.hid (HQG.out.setBox XO.out (by decide) (by omega) (by decide) 2 (.slice RA2 R rc2))
          have HB' := Lib.hid (HB.out.setCell (p := ⟨w4.heap.size, 2, none⟩) (by show w.heap.size ≤ w4.heap.size; omega) (.slice RA2 R rc2))
          have XO_2 := XO.out.at_ 2 _ rfl
          have XO_l := XO.out.lt
          have XO_z2 := XO.out.frozen 2
          go_upto_region 18 with fail
          clear XA_2 XO_2 XO_l XO_z2
          clear HB XO XR HRW HQG
          generalize w10.setCell ⟨w4.heap.size, 2, none⟩ (.slice RA2 R rc2) = w11 at *
          have XO : Hid (Box w11 w4.heap.size #[.bool ord, .string key, .slice RA2 R rc2, .int .i64 (mat + 1), .slice QA G qc] 25) := XO'
          have XR := XR'
          have HRW := HRW'
          have HQG := HQG'
          have HB := HB'
          clear HB' XO' XR' HRW' HQG'
          have XO_0 := XO.out.at_ 0 _ rfl
          have XO_1 := XO.out.at_ 1 _ rfl
          have XO_2 := XO.out.at_ 2 _ rfl
          have XO_3 := XO.out.at_ 3 _ rfl
          have XO_4 := XO.out.at_ 4 _ rfl
          have XR_0 := XR.out.at_ 0 _ rfl
          have XR_1 := XR.out.at_ 1 _ rfl
          have XR_2 := XR.out.at_ 2 _ rfl
          have XR_3 := XR.out.at_ 3 _ rfl
          have XR_4 := XR.out.at_ 4 _ rfl
          have XR_l := XR.out.lt
          have XR_z0 := XR.out.frozen 0
          have XR_z1 := XR.out.frozen 1
          have XR_z2 := XR.out.frozen 2
          have XR_z3 := XR.out.frozen 3
          have XR_z4 := XR.out.frozen 4
          go_wp2_with fail
          refine bodyPost_ret (v := .tuple #[.agg #[.bool ord, .string key, .slice RA2 R rc2, .int .i64 (mat + 1), .slice QA G qc], .int .i64 0]) (by simp [results, Tryd.results18, go_sem, XR_0, XR_1, XR_2, XR_3, XR_4, XR_l]) rfl ?_
          try rw [List.append_nil]
          exact ⟨_, rfl, BDF.mk (b := ⟨ord, key, la, (mat + 1), wrg⟩) (HRW.out.set5 XR.out (by decide) (by omega) (by decide) (.bool ord) (.string key) (.slice RA2 R rc2) (.int .i64 (mat + 1)) (.slice QA G qc)) (HQG.out.set5 XR.out (by decide) (Nat.zero_le _) (by decide) (.bool ord) (.string key) (.slice RA2 R rc2) (.int .i64 (mat + 1)) (.slice QA G qc)), set5_below (.bool ord) (.string key) (.slice RA2 R rc2) (.int .i64 (mat + 1)) (.slice QA G qc) HB.out (by omega)⟩
        · have hl3 : (k : Int) + 1 < (c1 : Int) := by omega
          have hl4 : ¬ (k : Int) + 1 = (c1 : Int) := by omega
          have hl5 : ¬ k + 1 = c1 := by omega
          have XA_2 := XA.out.at_ 2 _ rfl
          go_wp2_with (at_builtin; refine wpList_append_og (φ := txR) (T := 28) (B := w.heap.size) (C := D0) (xs := la) (ys := []) rfl _ _ 22 rfl i1 (.agg #[.slice none 0 0, .slice none 0 0]) 48 Tryd.underlying22 JI.out JZ0.out JZ1.out JZ2.out rfl rfl HRW.out _ rfl (Rs.none _ _ _) ?c1 ?c2 ?c3 ?_)
          case c1 => (try simp only [List.length_nil]); rw [HLA.out]; omega
          case c2 => (try simp only [List.length_nil]); rw [HLA.out]; unfold maxLen; omega
          case c3 => exact HB.out.size
          intro v' w10 hr2 hgr
          try rw [List.append_nil] at hr2
          replace XA := Lib.hid (HRW.out.boxKept hgr.out XA.out (.inl (by decide)))
          replace XO := Lib.hid (HRW.out.boxKept hgr.out XO.out (.inl (by decide)))
          replace XR := Lib.hid (HRW.out.boxKept hgr.out XR.out (.inl (by decide)))
          replace HQG := Lib.hid (HQG.out.growO HRW.out hgr.out (by decide) (by decide) (Nat.zero_le _))
          replace HB := Lib.hid (HRW.out.belowG hgr.out HB.out HB.out.size (Nat.le_refl _))
          obtain ⟨RA2, rc2, hv'⟩ := hr2.out.slice
          have hll : la.length = R := by rw [HLA.out]; have := HRL.out; omega
          rw [hll] at hv'
          subst hv'
          clear HRW hgr
          have HRW := hr2
          clear hr2
          have hcw := HCW.out
          go_upto_region 17 with fail
          have XO' := Lib.hid (XO.out.set_ 2 (.slice RA2 R rc2))
          have XR' := Lib.hid (XR.out.setNe (p := ⟨w4.heap.size, 2, none⟩) (by show w4.heap.size ≠ _; first | omega | (exact boxes_apart XO.out XR.out (by decide))) (.slice RA2 R rc2))
          have HRW' := Lib.hid (HRW.out.setBox XO.out (by decide) (by omega) (by decide) 2 (.slice RA2 R rc2))
          have HQG' := Lib.hid (HQG.out.setBox XO.out (by decide) (by omega) (by decide) 2 (.slice RA2 R rc2))
          have HB' := Lib.hid (HB.out.setCell (p := ⟨w4.heap.size, 2, none⟩) (by show w.heap.size ≤ w4.heap.size; omega) (.slice RA2 R rc2))
          have XO_2 := XO.out.at_ 2 _ rfl
          have XO_l := XO.out.lt
          have XO_z2 := XO.out.frozen 2
          go_upto_region 18 with fail
          clear XA_2 XO_2 XO_l XO_z2
          clear HB XO XR HRW HQG
          generalize w10.setCell ⟨w4.heap.size, 2, none⟩ (.slice RA2 R rc2) = w11 at *
          have XO : Hid (Box w11 w4.heap.size #[.bool ord, .string key, .slice RA2 R rc2, .int .i64 (mat + 1), .slice QA G qc] 25) := XO'
          have XR := XR'
          have HRW := HRW'
          have HQG := HQG'
          have HB := HB'
          clear HB' XO' XR' HRW' HQG'
          have XO_0 := XO.out.at_ 0 _ rfl
          have XO_1 := XO.out.at_ 1 _ rfl
          have XO_2 := XO.out.at_ 2 _ rfl
          have XO_3 := XO.out.at_ 3 _ rfl
          have XO_4 := XO.out.at_ 4 _ rfl
          have XR_0 := XR.out.at_ 0 _ rfl
          have XR_1 := XR.out.at_ 1 _ rfl
          have XR_2 := XR.out.at_ 2 _ rfl
          have XR_3 := XR.out.at_ 3 _ rfl
          have XR_4 := XR.out.at_ 4 _ rfl
          have XR_l := XR.out.lt
          have XR_z0 := XR.out.frozen 0
          have XR_z1 := XR.out.frozen 1
          have XR_z2 := XR.out.frozen 2
          have XR_z3 := XR.out.frozen 3
          have XR_z4 := XR.out.frozen 4
          go_wp2_with fail
          refine bodyPost_ret (v := .tuple #[.agg #[.bool ord, .string key, .slice RA2 R rc2, .int .i64 (mat + 1), .slice QA G qc], .int .i64 0]) (by simp [results, Tryd.results18, go_sem, XR_0, XR_1, XR_2, XR_3, XR_4, XR_l]) rfl ?_
          try rw [List.append_nil]
          exact ⟨_, rfl, BDF.mk (b := ⟨ord, key, la, (mat + 1), wrg⟩) (HRW.out.set5 XR.out (by decide) (by omega) (by decide) (.bool ord) (.string key) (.slice RA2 R rc2) (.int .i64 (mat + 1)) (.slice QA G qc)) (HQG.out.set5 XR.out (by decide) (Nat.zero_le _) (by decide) (.bool ord) (.string key) (.slice RA2 R rc2) (.int .i64 (mat + 1)) (.slice QA G qc)), set5_below (.bool ord) (.string key) (.slice RA2 R rc2) (.int .i64 (mat + 1)) (.slice QA G qc) HB.out (by omega)⟩
    · have hs := HNS.out hy
      clear HMS HNS HWY hy
      subst hs
      subst hr
      go_wp2_with fail
      obtain ⟨ln, hln⟩ : ∃ ln, ln = lineT sMis (numB ⟨ord, key, want, mat, wrg⟩) := ⟨_, rfl⟩
      rw [← hln] at CM2
      have HLN := Lib.hid hln
      unfold sMis at CM2
      clear hln
      refine wp_region_gen 5 (Kit.of [gVal 3 [] (.string ln), gRs 4 [] strR [ln] 0]) (by kernel_rfl) (by kernel_rfl) (fun γ => by kernel_rfl) (by kernel_rfl) (Kit.of_stable ?_) (Kit.of_known ?_) ?_
      · intro z hz; simp only [List.mem_cons, List.not_mem_nil, or_false] at hz; rcases hz with rfl | rfl
        · apply gVal_st
        · apply gRs_st
      · intro z hz; simp only [List.mem_cons, List.not_mem_nil, or_false] at hz; rcases hz with rfl | rfl
        · apply gVal_kn
        · apply gRs_kn
      intro γ hγ C hC hne
      have e3 : γ 3 = .string ln := hγ 3 rfl
      obtain ⟨A4, c4, e4⟩ : ∃ A c, γ 4 = .slice A 1 c := hγ 4 rfl
      have l0 := XO.out.latC (C := C) 4 _ rfl
      simp only [List.take_succ_cons, List.take_zero, List.drop_succ_cons, List.drop_zero]
      iterate 3 (refine wpF_quiet rfl ?_; go_big_quiet_step (fail); refine wpQuiet_nil ?_)
      refine wpF_fresh rfl (freshAt_call (args := #[.string ⟨#[109, 105, 115, 109, 97, 116, 99, 104]⟩, .int .i64 (mat + (G : Int))]) rfl _ _ _ (run_go Tryd.func40 (by kernel_rfl) (by kernel_rfl)) rfl (by simp [Act.eval]) (fun w' hb hf => (CM2.out w').mono fun e w2 ⟨he, h1⟩ => ⟨_, he, rfl, h1⟩)) ?_
      simp only [Nat.zero_add, Nat.reduceAdd, e3]
      go_simp
      refine wpF_fresh rfl (freshAt_one (φ := strR) (x := ln) (B := 0) (T := 9) (us := #[.string ln]) rfl (fun w => by kernel_rfl) (fun w' hb hf => rfl) (fun v w h => h)) ?_
      simp only [Nat.zero_add, Nat.reduceAdd, e4]
      go_simp
      intro w6 hb hF
      have HL6 := Lib.hid (show w4.heap.size ≤ w6.heap.size from Nat.le_trans HL45.out hb.size)
      have R4 : Rs strR w6 (γ 4) [ln] (Ty w6 0 strR.ts) := hF 4 (by decide) rfl
      rw [e4] at R4
      have HR4 := Lib.hid R4
      replace HKP := Lib.hid (HKP.out.below hb)
      replace HQG := Lib.hid (HQG.out.below hb)
      clear l0 hF hγ hC hne e3 e4 R4 CM2
      replace XR := Lib.hid (XR.out.below hb)
      replace XO := Lib.hid (XO.out.below hb)
      replace XA := Lib.hid (XA.out.below hb)
      replace HB := Lib.hid (below_step HB.out hb)
      clear hb
      go_wp2_with (at_builtin; refine wpList_append_og (φ := strR) (T := 9) (B := wm.heap.size) (C := 0) (xs := wrg) (ys := [ln]) rfl _ _ 23 rfl i0 (.string ⟨#[]⟩) 16 Tryd.underlying23 HI.out HZ0.out HZ1.out HZ2.out rfl rfl HQG.out (.slice A4 1 c4) rfl HR4.out ?c1 ?c2 ?c3 ?_)
      case c1 => simp only [List.length_cons, List.length_nil]; rw [← HGL.out]; omega
      case c2 => simp only [List.length_cons, List.length_nil]; rw [← HGL.out]; unfold maxLen; omega
      case c3 => exact Nat.le_trans HLM.out HL6.out
      intro v' w7 hqg7 hg7
      replace XR := Lib.hid (HQG.out.boxKept hg7.out XR.out (.inl (by decide)))
      replace XO := Lib.hid (HQG.out.boxKept hg7.out XO.out (.inl (by decide)))
      replace XA := Lib.hid (HQG.out.boxKept hg7.out XA.out (.inl (by decide)))
      replace HKP := Lib.hid (HKP.out.grown hg7.out fun q hq => .inr (HQG.out.blk q hq))
      replace HB := Lib.hid (HQG.out.belowG hg7.out HB.out HB.out.size HLE.out)
      obtain ⟨A7, c7, hv'⟩ := hqg7.out.slice
      rw [show (wrg ++ [ln]).length = G + 1 by rw [List.length_append, HGL.out]; rfl] at hv'
      subst hv'
      clear HQG hg7 HR4
      have HQG := hqg7
      have hlr := HLR.out
      have hsz4 := HLM.out
      clear hqg7
      have HKP8 := Lib.hid (HKP.out.set (p := ⟨w4.heap.size, 4, none⟩) (.inr HLM.out) (.slice A7 (G + 1) c7))
      clear HKP
      have XO' := Lib.hid (XO.out.set_ 4 (.slice A7 (G + 1) c7))
      have XR' := Lib.hid (XR.out.setNe (p := ⟨w4.heap.size, 4, none⟩) (by show w4.heap.size ≠ _; first | omega | (exact boxes_apart XO.out XR.out (by decide))) (.slice A7 (G + 1) c7))
      have XA' := Lib.hid (XA.out.setNe (p := ⟨w4.heap.size, 4, none⟩) (by show w4.heap.size ≠ _; first | omega | (exact boxes_apart XO.out XA.out (by decide))) (.slice A7 (G + 1) c7))
      have HQG' := Lib.hid (HQG.out.setBox XO.out (by decide) (by omega) (by decide) 4 (.slice A7 (G + 1) c7))
      have HB' := Lib.hid (HB.out.setCell (p := ⟨w4.heap.size, 4, none⟩) (by show w.heap.size ≤ w4.heap.size; omega) (.slice A7 (G + 1) c7))
      have XO_4 := XO.out.at_ 4 _ rfl
      have XO_l := XO.out.lt
      have XO_z4 := XO.out.frozen 4
      go_upto_region 15 with fail
      clear XO_4 XO_l XO_z4
      clear HB XO XR XA HQG
      generalize w7.setCell ⟨w4.heap.size, 4, none⟩ (.slice A7 (G + 1) c7) = w8 at *
      have XO : Hid (Box w8 w4.heap.size #[.bool ord, .string key, .slice OA N oc, .int .i64 mat, .slice A7 (G + 1) c7] 25) := XO'
      have XR := XR'
      have XA := XA'
      have HQG := HQG'
      have HB := HB'
      clear HB' XO' XR' XA' HQG'
      clear HKP8
      have hba := below_alloc w8 (.cells #[] 28)
      have HO0 := Lib.hid (OG.lit0 (φ := txR) w8 (B := w.heap.size) (C := D0) (T := 28) (by decide) HCW.out HB.out.size)
      have XA' := Lib.hid (XA.out.below hba)
      have XO' := Lib.hid (XO.out.below hba)
      have XR' := Lib.hid (XR.out.below hba)
      have HQG' := Lib.hid (HQG.out.below hba)
      have HB1 := Lib.hid (below_step HB.out hba)
      have R1 := Lib.hid (HT1.out _ HB1.out)
      have XA2 := XA'.out.at_ 2 _ rfl
      clear hba
      go_wp2_with (at_builtin; refine wpList_append_og (φ := txR) (T := 28) (B := w.heap.size) (C := D0) (xs := []) (ys := la) rfl _ _ 22 rfl i1 (.agg #[.slice none 0 0, .slice none 0 0]) 48 Tryd.underlying22 JI.out JZ0.out JZ1.out JZ2.out rfl rfl HO0.out (.slice (some ⟨q, o, none⟩) k c1) rfl R1.out ?c1 ?c2 ?c3 ?_)
      case c1 => (try simp only [List.length_nil]); rw [HLA.out]; omega
      case c2 => (try simp only [List.length_nil]); rw [HLA.out]; unfold maxLen; omega
      case c3 => exact HB1.out.size
      intro v' w9 hr1 hgr
      clear XA XO XR HQG HB XA2 R1
      have XA := Lib.hid (HO0.out.boxKept hgr.out XA'.out (.inl (by decide)))
      have XO := Lib.hid (HO0.out.boxKept hgr.out XO'.out (.inl (by decide)))
      have XR := Lib.hid (HO0.out.boxKept hgr.out XR'.out (.inl (by decide)))
      have HQG := Lib.hid (HQG'.out.growO HO0.out hgr.out (by decide) (by decide) (Nat.zero_le _))
      have HB := Lib.hid (HO0.out.belowG hgr.out HB1.out HB1.out.size (Nat.le_refl _))
      obtain ⟨RA, rc, hv'⟩ := hr1.out.slice
      rw [HLA.out] at hv'
      subst hv'
      clear HO0 XA' XO' XR' HQG' HB1 hgr
      have HRW := hr1
      clear hr1
      obtain ⟨R, hR⟩ : ∃ R, R = N - 1 := ⟨_, rfl⟩
      have HRL := Lib.hid (show R = N - 1 ∧ k < N from ⟨hR, hkl⟩)
      clear hR
      by_cases hlast : k + 1 < N
      · have hl2 : (k : Int) + 1 < (N : Int) := by omega
        have hl3 : ¬ (k : Int) + 1 = (c1 : Int) := by omega
        have R2 := Lib.hid (HT2.out _ HB.out hlast)
        have XA_2 := XA.out.at_ 2 _ rfl
        go_wp2_with (at_builtin; refine wpList_append_og (φ := txR) (T := 28) (B := w.heap.size) (C := D0) (xs := la) (ys := lb) rfl _ _ 22 rfl i1 (.agg #[.slice none 0 0, .slice none 0 0]) 48 Tryd.underlying22 JI.out JZ0.out JZ1.out JZ2.out rfl rfl HRW.out _ rfl R2.out ?c1 ?c2 ?c3 ?_)
        case c1 => rw [HLA.out, HLB.out]; omega
        case c2 => rw [HLA.out, HLB.out]; unfold maxLen; omega
        case c3 => exact HB.out.size
        intro v' w10 hr2 hgr
        replace XA := Lib.hid (HRW.out.boxKept hgr.out XA.out (.inl (by decide)))
        replace XO := Lib.hid (HRW.out.boxKept hgr.out XO.out (.inl (by decide)))
        replace XR := Lib.hid (HRW.out.boxKept hgr.out XR.out (.inl (by decide)))
        replace HQG := Lib.hid (HQG.out.growO HRW.out hgr.out (by decide) (by decide) (Nat.zero_le _))
        replace HB := Lib.hid (HRW.out.belowG hgr.out HB.out HB.out.size (Nat.le_refl _))
        obtain ⟨RA2, rc2, hv'⟩ := hr2.out.slice
        have hll : (la ++ lb).length = R := by rw [List.length_append, HLA.out, HLB.out]; have := HRL.out; omega
        rw [hll] at hv'
        subst hv'
        clear HRW hgr
        have HRW := hr2
        clear hr2
        have hcw := HCW.out
        go_upto_region 17 with fail
        have XO' := Lib.hid (XO.out.set_ 2 (.slice RA2 R rc2))
        have XR' := Lib.hid (XR.out.setNe (p := ⟨w4.heap.size, 2, none⟩) (by show w4.heap.size ≠ _; first | omega | (exact boxes_apart XO.out XR.out (by decide))) (.slice RA2 R rc2))
        have HRW' := Lib.hid (HRW.out.setBox XO.out (by decide) (by omega) (by decide) 2 (.slice RA2 R rc2))
        have HQG' := Lib.hid (HQG.out.setBox XO.out (by decide) (by omega) (by decide) 2 (.slice RA2 R rc2))
        have HB' := Lib.hid (HB.out.setCell (p := ⟨w4.heap.size, 2, none⟩) (by show w.heap.size ≤ w4.heap.size; omega) (.slice RA2 R rc2))
        have XO_2 := XO.out.at_ 2 _ rfl
        have XO_l := XO.out.lt
        have XO_z2 := XO.out.frozen 2
        go_upto_region 18 with fail
        clear XA_2 XO_2 XO_l XO_z2
        clear HB XO XR HRW HQG
        generalize w10.setCell ⟨w4.heap.size, 2, none⟩ (.slice RA2 R rc2) = w11 at *
        have XO : Hid (Box w11 w4.heap.size #[.bool ord, .string key, .slice RA2 R rc2, .int .i64 mat, .slice A7 (G + 1) c7] 25) := XO'
        have XR := XR'
        have HRW := HRW'
        have HQG := HQG'
        have HB := HB'
        clear HB' XO' XR' HRW' HQG'
        have XO_0 := XO.out.at_ 0 _ rfl
        have XO_1 := XO.out.at_ 1 _ rfl
        have XO_2 := XO.out.at_ 2 _ rfl
        have XO_3 := XO.out.at_ 3 _ rfl
        have XO_4 := XO.out.at_ 4 _ rfl
        have XR_0 := XR.out.at_ 0 _ rfl
        have XR_1 := XR.out.at_ 1 _ rfl
        have XR_2 := XR.out.at_ 2 _ rfl
        have XR_3 := XR.out.at_ 3 _ rfl
        have XR_4 := XR.out.at_ 4 _ rfl
        have XR_l := XR.out.lt
        have XR_z0 := XR.out.frozen 0
        have XR_z1 := XR.out.frozen 1
        have XR_z2 := XR.out.frozen 2
        have XR_z3 := XR.out.frozen 3
        have XR_z4 := XR.out.frozen 4
        go_wp2_with fail
        refine bodyPost_ret (v := .tuple #[.agg #[.bool ord, .string key, .slice RA2 R rc2, .int .i64 mat, .slice A7 (G + 1) c7], .int .i64 0]) (by simp [results, Tryd.results18, go_sem, XR_0, XR_1, XR_2, XR_3, XR_4, XR_l]) rfl ?_
        rw [← HLN.out]
        exact ⟨_, rfl, BDF.mk (b := ⟨ord, key, la ++ lb, mat, wrg ++ [ln]⟩) (HRW.out.set5 XR.out (by decide) (by omega) (by decide) (.bool ord) (.string key) (.slice RA2 R rc2) (.int .i64 mat) (.slice A7 (G + 1) c7)) (HQG.out.set5 XR.out (by decide) (Nat.zero_le _) (by decide) (.bool ord) (.string key) (.slice RA2 R rc2) (.int .i64 mat) (.slice A7 (G + 1) c7)), set5_below (.bool ord) (.string key) (.slice RA2 R rc2) (.int .i64 mat) (.slice A7 (G + 1) c7) HB.out (by omega)⟩
      · have hlb := HDR.out hlast
        have hN1 : N = k + 1 := by omega
        subst hlb
        subst hN1
        by_cases hcap2 : c1 = k + 1
        · subst hcap2
          have XA_2 := XA.out.at_ 2 _ rfl
          go_wp2_with (at_builtin; refine wpList_append_og (φ := txR) (T := 28) (B := w.heap.size) (C := D0) (xs := la) (ys := []) rfl _ _ 22 rfl i1 (.agg #[.slice none 0 0, .slice none 0 0]) 48 Tryd.underlying22 JI.out JZ0.out JZ1.out JZ2.out rfl rfl HRW.out _ rfl (Rs.none _ _ _) ?c1 ?c2 ?c3 ?_)
          case c1 => (try simp only [List.length_nil]); rw [HLA.out]; omega
          case c2 => (try simp only [List.length_nil]); rw [HLA.out]; unfold maxLen; omega
          case c3 => exact HB.out.size
          intro v' w10 hr2 hgr
          try rw [List.append_nil] at hr2
          replace XA := Lib.hid (HRW.out.boxKept hgr.out XA.out (.inl (by decide)))
          replace XO := Lib.hid (HRW.out.boxKept hgr.out XO.out (.inl (by decide)))
          replace XR := Lib.hid (HRW.out.boxKept hgr.out XR.out (.inl (by decide)))
          replace HQG := Lib.hid (HQG.out.growO HRW.out hgr.out (by decide) (by decide) (Nat.zero_le _))
          replace HB := Lib.hid (HRW.out.belowG hgr.out HB.out HB.out.size (Nat.le_refl _))
          obtain ⟨RA2, rc2, hv'⟩ := hr2.out.slice
          have hll : la.length = R := by rw [HLA.out]; have := HRL.out; omega
          rw [hll] at hv'
          subst hv'
          clear HRW hgr
          have HRW := hr2
          clear hr2
          have hcw := HCW.out
          go_upto_region 17 with fail
          have XO' := Lib.hid (XO.out.set_ 2 (.slice RA2 R rc2))
          have XR' := Lib.hid (XR.out.setNe (p := ⟨w4.heap.size, 2, none⟩) (by show w4.heap.size ≠ _; first | omega | (exact boxes_apart XO.out XR.out (by decide))) (.slice RA2 R rc2))
          have HRW' := Lib.hid (HRW.out.setBox XO.out (by decide) (by omega) (by decide) 2 (.slice RA2 R rc2))
          have HQG' := Lib.hid (HQG.out.setBox XO.out (by decide) (by omega) (by decide) 2 (.slice RA2 R rc2))
          have HB' := Lib.hid (HB.out.setCell (p := ⟨w4.heap.size, 2, none⟩) (by show w.heap.size ≤ w4.heap.size; omega) (.slice RA2 R rc2))
          have XO_2 := XO.out.at_ 2 _ rfl
          have XO_l := XO.out.lt
          have XO_z2 := XO.out.frozen 2
          go_upto_region 18 with fail
          clear XA_2 XO_2 XO_l XO_z2
          clear HB XO XR HRW HQG
          generalize w10.setCell ⟨w4.heap.size, 2, none⟩ (.slice RA2 R rc2) = w11 at *
          have XO : Hid (Box w11 w4.heap.size #[.bool ord, .string key, .slice RA2 R rc2, .int .i64 mat, .slice A7 (G + 1) c7] 25) := XO'
          have XR := XR'
          have HRW := HRW'
          have HQG := HQG'
          have HB := HB'
          clear HB' XO' XR' HRW' HQG'
          have XO_0 := XO.out.at_ 0 _ rfl
          have XO_1 := XO.out.at_ 1 _ rfl
          have XO_2 := XO.out.at_ 2 _ rfl
          have XO_3 := XO.out.at_ 3 _ rfl
          have XO_4 := XO.out.at_ 4 _ rfl
          have XR_0 := XR.out.at_ 0 _ rfl
          have XR_1 := XR.out.at_ 1 _ rfl
          have XR_2 := XR.out.at_ 2 _ rfl
          have XR_3 := XR.out.at_ 3 _ rfl
          have XR_4 := XR.out.at_ 4 _ rfl
          have XR_l := XR.out.lt
          have XR_z0 := XR.out.frozen 0
          have XR_z1 := XR.out.frozen 1
          have XR_z2 := XR.out.frozen 2
          have XR_z3 := XR.out.frozen 3
          have XR_z4 := XR.out.frozen 4
          go_wp2_with fail
          refine bodyPost_ret (v := .tuple #[.agg #[.bool ord, .string key, .slice RA2 R rc2, .int .i64 mat, .slice A7 (G + 1) c7], .int .i64 0]) (by simp [results, Tryd.results18, go_sem, XR_0, XR_1, XR_2, XR_3, XR_4, XR_l]) rfl ?_
          rw [← HLN.out]
          try rw [List.append_nil]
          exact ⟨_, rfl, BDF.mk (b := ⟨ord, key, la, mat, wrg ++ [ln]⟩) (HRW.out.set5 XR.out (by decide) (by omega) (by decide) (.bool ord) (.string key) (.slice RA2 R rc2) (.int .i64 mat) (.slice A7 (G + 1) c7)) (HQG.out.set5 XR.out (by decide) (Nat.zero_le _) (by decide) (.bool ord) (.string key) (.slice RA2 R rc2) (.int .i64 mat) (.slice A7 (G + 1) c7)), set5_below (.bool ord) (.string key) (.slice RA2 R rc2) (.int .i64 mat) (.slice A7 (G + 1) c7) HB.out (by omega)⟩
        · have hl3 : (k : Int) + 1 < (c1 : Int) := by omega
          have hl4 : ¬ (k : Int) + 1 = (c1 : Int) := by omega
          have hl5 : ¬ k + 1 = c1 := by omega
          have XA_2 := XA.out.at_ 2 _ rfl
          go_wp2_with (at_builtin; refine wpList_append_og (φ := txR) (T := 28) (B := w.heap.size) (C := D0) (xs := la) (ys := []) rfl _ _ 22 rfl i1 (.agg #[.slice none 0 0, .slice none 0 0]) 48 Tryd.underlying22 JI.out JZ0.out JZ1.out JZ2.out rfl rfl HRW.out _ rfl (Rs.none _ _ _) ?c1 ?c2 ?c3 ?_)
          case c1 => (try simp only [List.length_nil]); rw [HLA.out]; omega
          case c2 => (try simp only [List.length_nil]); rw [HLA.out]; unfold maxLen; omega
          case c3 => exact HB.out.size
          intro v' w10 hr2 hgr
          try rw [List.append_nil] at hr2
          replace XA := Lib.hid (HRW.out.boxKept hgr.out XA.out (.inl (by decide)))
          replace XO := Lib.hid (HRW.out.boxKept hgr.out XO.out (.inl (by decide)))
          replace XR := Lib.hid (HRW.out.boxKept hgr.out XR.out (.inl (by decide)))
          replace HQG := Lib.hid (HQG.out.growO HRW.out hgr.out (by decide) (by decide) (Nat.zero_le _))
          replace HB := Lib.hid (HRW.out.belowG hgr.out HB.out HB.out.size (Nat.le_refl _))
          obtain ⟨RA2, rc2, hv'⟩ := hr2.out.slice
          have hll : la.length = R := by rw [HLA.out]; have := HRL.out; omega
          rw [hll] at hv'
          subst hv'
          clear HRW hgr
          have HRW := hr2
          clear hr2
          have hcw := HCW.out
          go_upto_region 17 with fail
          have XO' := Lib.hid (XO.out.set_ 2 (.slice RA2 R rc2))
          have XR' := Lib.hid (XR.out.setNe (p := ⟨w4.heap.size, 2, none⟩) (by show w4.heap.size ≠ _; first | omega | (exact boxes_apart XO.out XR.out (by decide))) (.slice RA2 R rc2))
          have HRW' := Lib.hid (HRW.out.setBox XO.out (by decide) (by omega) (by decide) 2 (.slice RA2 R rc2))
          have HQG' := Lib.hid (HQG.out.setBox XO.out (by decide) (by omega) (by decide) 2 (.slice RA2 R rc2))
          have HB' := Lib.hid (HB.out.setCell (p := ⟨w4.heap.size, 2, none⟩) (by show w.heap.size ≤ w4.heap.size; omega) (.slice RA2 R rc2))
          have XO_2 := XO.out.at_ 2 _ rfl
          have XO_l := XO.out.lt
          have XO_z2 := XO.out.frozen 2
          go_upto_region 18 with fail
          clear XA_2 XO_2 XO_l XO_z2
          clear HB XO XR HRW HQG
          generalize w10.setCell ⟨w4.heap.size, 2, none⟩ (.slice RA2 R rc2) = w11 at *
          have XO : Hid (Box w11 w4.heap.size #[.bool ord, .string key, .slice RA2 R rc2, .int .i64 mat, .slice A7 (G + 1) c7] 25) := XO'
          have XR := XR'
          have HRW := HRW'
          have HQG := HQG'
          have HB := HB'
          clear HB' XO' XR' HRW' HQG'
          have XO_0 := XO.out.at_ 0 _ rfl
          have XO_1 := XO.out.at_ 1 _ rfl
          have XO_2 := XO.out.at_ 2 _ rfl
          have XO_3 := XO.out.at_ 3 _ rfl
          have XO_4 := XO.out.at_ 4 _ rfl
          have XR_0 := XR.out.at_ 0 _ rfl
          have XR_1 := XR.out.at_ 1 _ rfl
          have XR_2 := XR.out.at_ 2 _ rfl
          have XR_3 := XR.out.at_ 3 _ rfl
          have XR_4 := XR.out.at_ 4 _ rfl
          have XR_l := XR.out.lt
          have XR_z0 := XR.out.frozen 0
          have XR_z1 := XR.out.frozen 1
          have XR_z2 := XR.out.frozen 2
          have XR_z3 := XR.out.frozen 3
          have XR_z4 := XR.out.frozen 4
          go_wp2_with fail
          refine bodyPost_ret (v := .tuple #[.agg #[.bool ord, .string key, .slice RA2 R rc2, .int .i64 mat, .slice A7 (G + 1) c7], .int .i64 0]) (by simp [results, Tryd.results18, go_sem, XR_0, XR_1, XR_2, XR_3, XR_4, XR_l]) rfl ?_
          rw [← HLN.out]
          try rw [List.append_nil]
          exact ⟨_, rfl, BDF.mk (b := ⟨ord, key, la, mat, wrg ++ [ln]⟩) (HRW.out.set5 XR.out (by decide) (by omega) (by decide) (.bool ord) (.string key) (.slice RA2 R rc2) (.int .i64 mat) (.slice A7 (G + 1) c7)) (HQG.out.set5 XR.out (by decide) (Nat.zero_le _) (by decide) (.bool ord) (.string key) (.slice RA2 R rc2) (.int .i64 mat) (.slice A7 (G + 1) c7)), set5_below (.bool ord) (.string key) (.slice RA2 R rc2) (.int .i64 mat) (.slice A7 (G + 1) c7) HB.out (by omega)⟩

end Go.Proofs.YtldafnjbgjagiaaDoor

/-
  Contracts of board.asked, New, Expect.
-/
import Derived.Test.YtldafnjbgjagiaaDoorBrdB
namespace Go.Proofs.YtldafnjbgjagiaaDoor
open Go.RowKit
set_option linter.unusedVariables false
set_option linter.unusedSimpArgs false

theorem own_slc {w : World} {base : Nat} {e : TypeId} {size : Nat} {v : Value} {n : Nat} {xs : List Value} (h : w.ownsRow base e size v n xs) : ∃ A c, v = .slice A n c := by
  rcases h.2 with ⟨rfl, rfl⟩ | ⟨g, cap, cur, rfl, _⟩
  · exact ⟨none, 0, rfl⟩
  · exact ⟨_, cap, rfl⟩
/-- A board's value. -/
def BV (b : Bd) (wv gv : Value) : Value := .agg #[.bool b.ord, .string b.key, wv, .int .i64 b.mat, gv]
def tsB : List TypeId := [9, 3, 28]
/-- What a value reads as, leaning on blocks below C or of the types of rows alone. -/
def BDF (w : World) (C : Nat) (v : Value) (b : Bd) : Prop := ∃ wv gv, v = BV b wv gv ∧ (Rs txR w wv b.want (Ty w C txR.ts) ∧ In (Ty w C tsB) wv b.want.length) ∧ (SL w gv b.wrg ∧ In (Ty w C tsB) gv b.wrg.length)
theorem in_keep {w w' : World} {C n : Nat} {ts : List TypeId} {v : Value} (h : In (Ty w C ts) v n) (hk : ∀ b, b < w.heap.size → Ty w C ts b → w'.heap[b]? = w.heap[b]?) : In (Ty w' C ts) v n := fun hn b hb => (h hn b hb).keep fun hl => hk b hl (h hn b hb)
theorem ty_sub {w : World} {C b : Nat} (h : Ty w C txR.ts b) : Ty w C tsB b := h.imp id fun ⟨cs, e, fz, h1, h2⟩ => ⟨cs, e, fz, h1, by simp [txR] at h2; rcases h2 with h2 | h2 <;> simp [tsB, h2]⟩
theorem rs_blk {α : Type} {φ : Rd α} {w : World} {v : Value} {xs : List α} {F : Nat → Prop} (h : Rs φ w v xs F) (hn : 0 < xs.length) : ∀ b, v.ownBlock = some b → b < w.heap.size := fun b hb => by
  obtain ⟨A, c, rfl, _, h⟩ := h
  obtain ⟨b', o, rfl, hlt, _⟩ := h hn
  simp only [Value.ownBlock, Option.some.injEq] at hb
  omega
theorem BDF.move {w w' : World} {C : Nat} {v : Value} {b : Bd} (h : BDF w C v b) (hs : w.heap.size ≤ w'.heap.size) (hk : ∀ b, b < w.heap.size → Ty w C tsB b → w'.heap[b]? = w.heap[b]?) : BDF w' C v b := by
  obtain ⟨wv, gv, rfl, ⟨h1, h2⟩, h3, h4⟩ := h
  refine ⟨wv, gv, rfl, ⟨?_, in_keep h2 hk⟩, ?_, in_keep h4 hk⟩
  · by_cases hn : 0 < b.want.length
    · exact (h1.same hs (fun q hq => hk q (rs_blk h1 hn q hq) (h2 hn q hq)) fun q hl hq => hk q hl (ty_sub hq)).mono fun q hq => hq.keep fun hl => hk q hl (ty_sub hq)
    · obtain ⟨A, c, rfl, hc, _⟩ := h1
      exact ⟨A, c, rfl, hc, fun h => absurd h hn⟩
  · exact sl_same0 h3 hs fun hn q hl hq => hk q hl (h4 hn q hq)
theorem BDF.below {w w' : World} {C : Nat} {v : Value} {b : Bd} (h : BDF w C v b) (hb : Below w.heap.size w w') : BDF w' C v b := h.move hb.size fun q hl _ => hb.block q hl
theorem BDF.set {w : World} {C g i : Nat} {v u : Value} {b : Bd} {cs : Array Value} {T : TypeId} (h : BDF w C v b) (hx : Box w g cs T) (hT : T ∉ tsB) (hC : C ≤ g) : BDF (w.setCell ⟨g, i, none⟩ u) C v b :=
  h.move (by simp [World.setCell]) fun q _ hq => Below.heap_setCell w ⟨g, i, none⟩ u q (hq.box hx hT hC)
theorem BDF.mono {w : World} {C C' : Nat} {v : Value} {b : Bd} (h : BDF w C v b) (hC : C ≤ C') : BDF w C' v b := by
  obtain ⟨wv, gv, rfl, ⟨h1, h2⟩, h3, h4⟩ := h
  have key : ∀ ts q, Ty w C ts q → Ty w C' ts q := fun ts q h => h.imp (fun h => Nat.lt_of_lt_of_le h hC) id
  exact ⟨wv, gv, rfl, ⟨h1.mono (key _), fun hn q hq => key _ _ (h2 hn q hq)⟩, h3, fun hn q hq => key _ _ (h4 hn q hq)⟩
theorem BDF.mk {w : World} {b : Bd} {wv gv : Value} {B1 B2 C : Nat} (h1 : OG txR w B1 C 28 wv b.want) (h2 : OG strR w B2 0 9 gv b.wrg) : BDF w C (BV b wv gv) b := by
  refine ⟨wv, gv, rfl, ⟨h1.rs, fun _ q hq => ?_⟩, h2.any.sl, fun _ q hq => ?_⟩
  · obtain ⟨_, uss, _, ho, _⟩ := h1
    exact Ty.own ho (by simp [tsB]) q hq
  · obtain ⟨_, uss, _, ho, _⟩ := h2
    exact Ty.own ho (by simp [tsB]) q hq
theorem BDF.rd {w : World} {C : Nat} {v : Value} {b : Bd} (h : BDF w C v b) : ∃ A c A2 c2, v = .agg #[.bool b.ord, .string b.key, .slice A b.want.length c, .int .i64 b.mat, .slice A2 b.wrg.length c2] ∧ Rs txR w (.slice A b.want.length c) b.want anyB ∧ SL w (.slice A2 b.wrg.length c2) b.wrg := by
  obtain ⟨wv, gv, rfl, ⟨h1, h2⟩, h3, h4⟩ := h
  obtain ⟨A, c, rfl, _⟩ := h1.slice
  obtain ⟨A2, c2, rfl, _⟩ := id h3
  exact ⟨A, c, A2, c2, rfl, h1.mono fun _ _ => trivial, h3⟩
theorem BDF.nil (w : World) (C : Nat) (o : Bool) (s : ByteArray) : BDF w C (.agg #[.bool o, .string s, .slice none 0 0, .int .i64 0, .slice none 0 0]) ⟨o, s, [], 0, []⟩ :=
  ⟨_, _, rfl, ⟨Rs.nil _ _ _, fun h => absurd h (by simp)⟩, SL.nil _, fun h => absurd h (by simp)⟩
theorem BDF.zero (w : World) (C : Nat) : BDF w C (.agg #[.bool false, .string ⟨#[]⟩, .slice none 0 0, .int .i64 0, .slice none 0 0]) bd0 := BDF.nil w C false ⟨#[]⟩
/-- What a board and a number are handed back. -/
def RETB (w : World) (C : Nat) (r : Bd × Int) (e : Ending) (w' : World) : Prop := ∃ v, e = .returned (.tuple #[v, .int .i64 r.2]) ∧ BDF w' C v r.1 ∧ Below w.heap.size w w'
theorem txf_of {t : Tx} (h : tv t = true) : TF t := by
  unfold tv at h
  have := of_decide_eq_true h
  obtain ⟨h1, h2, _⟩ := this
  exact ⟨by omega, by omega⟩

theorem cpy_none {w w' : World} {b : Bd} {e : Ending} (h : CPY w b (-1) e w') : ∃ OA oc QA qc, e = .returned (.agg #[.bool b.ord, .string b.key, .slice OA b.want.length oc, .int .i64 b.mat, .slice QA b.wrg.length qc]) ∧
    OG txR w' w.heap.size 0 28 (.slice OA b.want.length oc) b.want ∧ w'.ownsRow w.heap.size 9 1 (.slice QA b.wrg.length qc) b.wrg.length (scells b.wrg) ∧ Below w.heap.size w w' := by
  obtain ⟨wv, gv, wm, rfl, ⟨h0, hwm, hk, h2⟩, hb⟩ := h
  have h1 := h0.bx hk (by decide) (by decide)
  replace h2 := own_mono h2 hwm.size
  rw [show cutI b.want (-1) = b.want by simp [cutI]] at h1
  obtain ⟨OA, oc, rfl⟩ := h1.slice
  obtain ⟨QA, qc, rfl⟩ := own_slc h2
  exact ⟨OA, oc, QA, qc, rfl, h1, h2, hb⟩

set_option maxRecDepth 100000 in
set_option maxHeartbeats 8000000 in
theorem brdAsked (w : World) (b : Bd) (t : Tx) (wv gv v1 v2 : Value) (h1 : Rs txR w wv b.want anyB) (h2 : SL w gv b.wrg) (s1 : SL w v1 t.1) (s2 : IL w v2 t.2) (n1 : b.want.length ≤ 9223372036854775807) (n2 : b.wrg.length ≤ 9223372036854775807) (hz : ∀ t ∈ b.want, TZ t) (tz : TZ t) (hk : KW w) (hm : MLen w) :
    Calls Tryd.prog 30 #[.agg #[.bool b.ord, .string b.key, wv, .int .i64 b.mat, gv], .agg #[v1, v2]] w fun e w' => e = .returned (.int .i64 (askT b t)) ∧ Below w.heap.size w w' := by
  have HK := Lib.hid hk
  have HM := Lib.hid hm
  have H1 := Lib.hid h1
  have H2 := Lib.hid h2
  have S1 := Lib.hid s1
  have S2 := Lib.hid s2
  have CV := Lib.hid (fun W a1 a2 a3 a4 => brdValid W b wv gv a1 a2 n1 n2 hz a3 a4)
  have CT : Hid (∀ W, SL W v1 t.1 → IL W v2 t.2 → KW W → MLen W → Calls Tryd.prog 47 #[.agg #[v1, v2]] W fun e w' => e = .returned (.bool (tv t)) ∧ Below W.heap.size W w') := Lib.hid (fun W a1 a2 a3 a4 => txnValid W v1 v2 t.1 t.2 a1 a2 tz.2.2 tz.1 tz.2.1 a3 a4)
  have CK : Hid (∀ W, SL W v1 t.1 → IL W v2 t.2 → Calls Tryd.prog 48 #[.agg #[.bool b.ord, .string b.key, wv, .int .i64 b.mat, gv], .agg #[v1, v2]] W fun e w' => e = .returned (.bool (kyB b t)) ∧ Below W.heap.size W w') := Lib.hid (fun W a1 a2 => brdKeyed W b.ord b.key b.mat wv gv v1 v2 t.1 t.2 a1 a2 tz.1 tz.2.1)
  obtain ⟨A1, c1, rfl, -⟩ := h1.slice
  obtain ⟨A2, c2, rfl, -⟩ := id h2
  obtain ⟨B1, d1, rfl, -⟩ := id s1
  obtain ⟨B2, d2, rfl, -⟩ := id s2
  have hw := ask_ways b t
  generalize askT b t = r at *
  generalize okB b = q1 at *
  generalize tv t = q2 at *
  generalize kyB b t = q3 at *
  generalize b.want.length = N at *
  generalize b.wrg.length = G at *
  generalize b.ord = o at *
  generalize b.key = s at *
  generalize b.mat = m at *
  generalize t.1.length = L1 at *
  generalize t.2.length = L2 at *
  clear h1 h2 s1 s2 n1 n2 hz tz hk hm
  rcases hw with ⟨rfl, rfl⟩ | ⟨rfl, rfl, rfl⟩ | ⟨rfl, rfl, rfl, rfl⟩ | ⟨rfl, rfl, rfl, rfl⟩
  case inl =>
    clear CT CK
    go_enter Tryd.func30, Tryd.ntmps30
    go_wp2_with fail
    have XA := Lib.hid ((box_new (W := w) (g := w.heap.size) 25 #[.bool o, .string s, .slice A1 N c1, .int .i64 m, .slice A2 G c2] (by simp)).below (below_alloc _ (.cells #[.slice B1 L1 d1, .slice B2 L2 d2] 28)))
    have XB := Lib.hid (box_new (W := (w.alloc (.cells #[.bool o, .string s, .slice A1 N c1, .int .i64 m, .slice A2 G c2] 25))) (g := w.heap.size + 1) 28 #[.slice B1 L1 d1, .slice B2 L2 d2] (by simp))
    have HB := Lib.hid (below_step (below_alloc w (.cells #[.bool o, .string s, .slice A1 N c1, .int .i64 m, .slice A2 G c2] 25)) (below_alloc (w.alloc (.cells #[.bool o, .string s, .slice A1 N c1, .int .i64 m, .slice A2 G c2] 25)) (.cells #[.slice B1 L1 d1, .slice B2 L2 d2] 28)))
    generalize (w.alloc (.cells #[.bool o, .string s, .slice A1 N c1, .int .i64 m, .slice A2 G c2] 25)).alloc (.cells #[.slice B1 L1 d1, .slice B2 L2 d2] 28) = w1 at *
    refine (CV.out _ (H1.out.below HB.out) (H2.out.below HB.out) (HK.out.below HB.out) (HM.out.below HB.out)).mono ?_; rintro e w2 ⟨rfl, hb⟩
    replace XA := Lib.hid (XA.out.below hb)
    replace XB := Lib.hid (XB.out.below hb)
    replace HB := Lib.hid (below_step HB.out hb)
    clear hb
    go_wp2_with fail
    go_ret
    exact ⟨rfl, HB.out⟩
  case inr.inl =>
    clear CK
    go_enter Tryd.func30, Tryd.ntmps30
    go_wp2_with fail
    have XA := Lib.hid ((box_new (W := w) (g := w.heap.size) 25 #[.bool o, .string s, .slice A1 N c1, .int .i64 m, .slice A2 G c2] (by simp)).below (below_alloc _ (.cells #[.slice B1 L1 d1, .slice B2 L2 d2] 28)))
    have XB := Lib.hid (box_new (W := (w.alloc (.cells #[.bool o, .string s, .slice A1 N c1, .int .i64 m, .slice A2 G c2] 25))) (g := w.heap.size + 1) 28 #[.slice B1 L1 d1, .slice B2 L2 d2] (by simp))
    have HB := Lib.hid (below_step (below_alloc w (.cells #[.bool o, .string s, .slice A1 N c1, .int .i64 m, .slice A2 G c2] 25)) (below_alloc (w.alloc (.cells #[.bool o, .string s, .slice A1 N c1, .int .i64 m, .slice A2 G c2] 25)) (.cells #[.slice B1 L1 d1, .slice B2 L2 d2] 28)))
    generalize (w.alloc (.cells #[.bool o, .string s, .slice A1 N c1, .int .i64 m, .slice A2 G c2] 25)).alloc (.cells #[.slice B1 L1 d1, .slice B2 L2 d2] 28) = w1 at *
    refine (CV.out _ (H1.out.below HB.out) (H2.out.below HB.out) (HK.out.below HB.out) (HM.out.below HB.out)).mono ?_; rintro e w2 ⟨rfl, hb⟩
    replace XA := Lib.hid (XA.out.below hb)
    replace XB := Lib.hid (XB.out.below hb)
    replace HB := Lib.hid (below_step HB.out hb)
    clear hb
    have XB_0 := XB.out.at_ 0 _ rfl
    have XB_1 := XB.out.at_ 1 _ rfl
    go_wp2_with fail
    clear XB_0 XB_1
    refine (CT.out _ (S1.out.below HB.out) (S2.out.below HB.out) (HK.out.below HB.out) (HM.out.below HB.out)).mono ?_; rintro e w2 ⟨rfl, hb⟩
    replace XA := Lib.hid (XA.out.below hb)
    replace XB := Lib.hid (XB.out.below hb)
    replace HB := Lib.hid (below_step HB.out hb)
    clear hb
    go_wp2_with fail
    go_ret
    exact ⟨rfl, HB.out⟩
  case inr.inr.inl =>
    go_enter Tryd.func30, Tryd.ntmps30
    go_wp2_with fail
    have XA := Lib.hid ((box_new (W := w) (g := w.heap.size) 25 #[.bool o, .string s, .slice A1 N c1, .int .i64 m, .slice A2 G c2] (by simp)).below (below_alloc _ (.cells #[.slice B1 L1 d1, .slice B2 L2 d2] 28)))
    have XB := Lib.hid (box_new (W := (w.alloc (.cells #[.bool o, .string s, .slice A1 N c1, .int .i64 m, .slice A2 G c2] 25))) (g := w.heap.size + 1) 28 #[.slice B1 L1 d1, .slice B2 L2 d2] (by simp))
    have HB := Lib.hid (below_step (below_alloc w (.cells #[.bool o, .string s, .slice A1 N c1, .int .i64 m, .slice A2 G c2] 25)) (below_alloc (w.alloc (.cells #[.bool o, .string s, .slice A1 N c1, .int .i64 m, .slice A2 G c2] 25)) (.cells #[.slice B1 L1 d1, .slice B2 L2 d2] 28)))
    generalize (w.alloc (.cells #[.bool o, .string s, .slice A1 N c1, .int .i64 m, .slice A2 G c2] 25)).alloc (.cells #[.slice B1 L1 d1, .slice B2 L2 d2] 28) = w1 at *
    refine (CV.out _ (H1.out.below HB.out) (H2.out.below HB.out) (HK.out.below HB.out) (HM.out.below HB.out)).mono ?_; rintro e w2 ⟨rfl, hb⟩
    replace XA := Lib.hid (XA.out.below hb)
    replace XB := Lib.hid (XB.out.below hb)
    replace HB := Lib.hid (below_step HB.out hb)
    clear hb
    have XB_0 := XB.out.at_ 0 _ rfl
    have XB_1 := XB.out.at_ 1 _ rfl
    go_wp2_with fail
    clear XB_0 XB_1
    refine (CT.out _ (S1.out.below HB.out) (S2.out.below HB.out) (HK.out.below HB.out) (HM.out.below HB.out)).mono ?_; rintro e w2 ⟨rfl, hb⟩
    replace XA := Lib.hid (XA.out.below hb)
    replace XB := Lib.hid (XB.out.below hb)
    replace HB := Lib.hid (below_step HB.out hb)
    clear hb
    have XA_0 := XA.out.at_ 0 _ rfl
    have XA_1 := XA.out.at_ 1 _ rfl
    have XA_2 := XA.out.at_ 2 _ rfl
    have XA_3 := XA.out.at_ 3 _ rfl
    have XA_4 := XA.out.at_ 4 _ rfl
    have XB_0 := XB.out.at_ 0 _ rfl
    have XB_1 := XB.out.at_ 1 _ rfl
    go_wp2_with fail
    clear XA_0 XA_1 XA_2 XA_3 XA_4 XB_0 XB_1
    refine (CK.out _ (S1.out.below HB.out) (S2.out.below HB.out)).mono ?_; rintro e w2 ⟨rfl, hb⟩
    replace XA := Lib.hid (XA.out.below hb)
    replace XB := Lib.hid (XB.out.below hb)
    replace HB := Lib.hid (below_step HB.out hb)
    clear hb
    go_wp2_with fail
    go_ret
    exact ⟨rfl, HB.out⟩
  case inr.inr.inr =>
    go_enter Tryd.func30, Tryd.ntmps30
    go_wp2_with fail
    have XA := Lib.hid ((box_new (W := w) (g := w.heap.size) 25 #[.bool o, .string s, .slice A1 N c1, .int .i64 m, .slice A2 G c2] (by simp)).below (below_alloc _ (.cells #[.slice B1 L1 d1, .slice B2 L2 d2] 28)))
    have XB := Lib.hid (box_new (W := (w.alloc (.cells #[.bool o, .string s, .slice A1 N c1, .int .i64 m, .slice A2 G c2] 25))) (g := w.heap.size + 1) 28 #[.slice B1 L1 d1, .slice B2 L2 d2] (by simp))
    have HB := Lib.hid (below_step (below_alloc w (.cells #[.bool o, .string s, .slice A1 N c1, .int .i64 m, .slice A2 G c2] 25)) (below_alloc (w.alloc (.cells #[.bool o, .string s, .slice A1 N c1, .int .i64 m, .slice A2 G c2] 25)) (.cells #[.slice B1 L1 d1, .slice B2 L2 d2] 28)))
    generalize (w.alloc (.cells #[.bool o, .string s, .slice A1 N c1, .int .i64 m, .slice A2 G c2] 25)).alloc (.cells #[.slice B1 L1 d1, .slice B2 L2 d2] 28) = w1 at *
    refine (CV.out _ (H1.out.below HB.out) (H2.out.below HB.out) (HK.out.below HB.out) (HM.out.below HB.out)).mono ?_; rintro e w2 ⟨rfl, hb⟩
    replace XA := Lib.hid (XA.out.below hb)
    replace XB := Lib.hid (XB.out.below hb)
    replace HB := Lib.hid (below_step HB.out hb)
    clear hb
    have XB_0 := XB.out.at_ 0 _ rfl
    have XB_1 := XB.out.at_ 1 _ rfl
    go_wp2_with fail
    clear XB_0 XB_1
    refine (CT.out _ (S1.out.below HB.out) (S2.out.below HB.out) (HK.out.below HB.out) (HM.out.below HB.out)).mono ?_; rintro e w2 ⟨rfl, hb⟩
    replace XA := Lib.hid (XA.out.below hb)
    replace XB := Lib.hid (XB.out.below hb)
    replace HB := Lib.hid (below_step HB.out hb)
    clear hb
    have XA_0 := XA.out.at_ 0 _ rfl
    have XA_1 := XA.out.at_ 1 _ rfl
    have XA_2 := XA.out.at_ 2 _ rfl
    have XA_3 := XA.out.at_ 3 _ rfl
    have XA_4 := XA.out.at_ 4 _ rfl
    have XB_0 := XB.out.at_ 0 _ rfl
    have XB_1 := XB.out.at_ 1 _ rfl
    go_wp2_with fail
    clear XA_0 XA_1 XA_2 XA_3 XA_4 XB_0 XB_1
    refine (CK.out _ (S1.out.below HB.out) (S2.out.below HB.out)).mono ?_; rintro e w2 ⟨rfl, hb⟩
    replace XA := Lib.hid (XA.out.below hb)
    replace XB := Lib.hid (XB.out.below hb)
    replace HB := Lib.hid (below_step HB.out hb)
    clear hb
    go_wp2_with fail
    go_ret
    exact ⟨rfl, HB.out⟩

set_option maxHeartbeats 2000000 in
theorem brdNew (w : World) (o : Bool) (s : ByteArray) : Calls Tryd.prog 12 #[.bool o, .string s] w fun e w' => e = .returned (.agg #[.bool o, .string s, .slice none 0 0, .int .i64 0, .slice none 0 0]) ∧ Below w.heap.size w w' := by
  go_enter Tryd.func12, Tryd.ntmps12
  go_wp2_with fail
  refine bodyPost_ret (v := .agg #[.bool o, .string s, .slice none 0 0, .int .i64 0, .slice none 0 0]) (by simp [results, Tryd.results12, go_sem]) rfl ?_
  exact ⟨rfl, below_alloc _ _⟩

theorem exp_ways (b : Bd) (t : Tx) : (∃ c : Int, c ≠ 0 ∧ askT b t = c ∧ expT b t = (bd0, c)) ∨ (askT b t = 0 ∧ OkB b ∧ tv t = true ∧ 1024 ≤ b.want.length ∧ expT b t = (bd0, 16)) ∨
    (askT b t = 0 ∧ OkB b ∧ tv t = true ∧ ¬ 1024 ≤ b.want.length ∧ expT b t = ({ b with want := b.want ++ [t] }, 0)) := by
  unfold expT
  by_cases h : askT b t = 0
  · obtain ⟨h1, h2, _⟩ := ask_zero h
    by_cases h3 : 1024 ≤ b.want.length
    · exact .inr (.inl ⟨h, h1, h2, h3, by rw [if_neg (by simp [h]), if_pos h3]⟩)
    · exact .inr (.inr ⟨h, h1, h2, h3, by rw [if_neg (by simp [h]), if_neg h3]⟩)
  · exact .inl ⟨_, h, rfl, by rw [if_pos h]⟩
set_option maxRecDepth 100000 in
set_option maxHeartbeats 8000000 in
theorem brdExpect (w : World) (b : Bd) (t : Tx) (wv gv v1 v2 : Value) (h1 : Rs txR w wv b.want anyB) (h2 : SL w gv b.wrg) (s1 : SL w v1 t.1) (s2 : IL w v2 t.2) (n1 : b.want.length ≤ 9223372036854775807) (n2 : b.wrg.length ≤ 9223372036854775807) (hz : ∀ t ∈ b.want, TZ t) (tz : TZ t) (hk : KW w) (hm : MLen w) :
    Calls Tryd.prog 9 #[.agg #[.bool b.ord, .string b.key, wv, .int .i64 b.mat, gv], .agg #[v1, v2]] w (RETB w 0 (expT b t)) := by
  obtain ⟨i0, hi0, hz0, hz1, hz2⟩ := info_parts itxn
  have HI := Lib.hid hi0
  have HZ0 := Lib.hid hz0
  have HZ1 := Lib.hid hz1
  have HZ2 := Lib.hid hz2
  have HK := Lib.hid hk
  have HM := Lib.hid hm
  have H1 := Lib.hid h1
  have H2 := Lib.hid h2
  have S1 := Lib.hid s1
  have S2 := Lib.hid s2
  have CA := Lib.hid (fun W a1 a2 a3 a4 a5 a6 => brdAsked W b t wv gv v1 v2 a1 a2 a3 a4 n1 n2 hz tz a5 a6)
  have CC : Hid (OkB b → ∀ W, Rs txR W wv b.want anyB → SL W gv b.wrg → Calls Tryd.prog 31 #[.agg #[.bool b.ord, .string b.key, wv, .int .i64 b.mat, gv], .int .i64 (-1)] W fun e w' => ∃ OA oc QA qc, e = .returned (.agg #[.bool b.ord, .string b.key, .slice OA b.want.length oc, .int .i64 b.mat, .slice QA b.wrg.length qc]) ∧
    OG txR w' W.heap.size 0 28 (.slice OA b.want.length oc) b.want ∧ w'.ownsRow W.heap.size 9 1 (.slice QA b.wrg.length qc) b.wrg.length (scells b.wrg) ∧ Below W.heap.size W w') := Lib.hid fun hok W a1 a2 =>
    (brdCopied W b wv gv (-1) a1 a2 (by have := hok.1; omega) (by have := hok.2.1; omega) (fun t ht => txf_of (hok.2.2.2.2 t ht).1) ⟨by decide, by decide⟩).mono fun _ _ h => cpy_none h
  have CD : Hid (tv t = true → ∀ W, SL W v1 t.1 → IL W v2 t.2 → Calls Tryd.prog 32 #[.agg #[v1, v2]] W (DUP W t)) := Lib.hid fun ht W a1 a2 => brdDup W v1 v2 t a1 a2 (txf_of ht).1 (txf_of ht).2
  obtain ⟨A1, c1, rfl, -⟩ := h1.slice
  obtain ⟨A2, c2, rfl, -⟩ := id h2
  obtain ⟨B1, d1, rfl, -⟩ := id s1
  obtain ⟨B2, d2, rfl, -⟩ := id s2
  have hw := exp_ways b t
  generalize expT b t = r at *
  clear h1 h2 s1 s2 hz tz hk hm hi0 hz0 hz1 hz2
  rcases hw with ⟨c, hc, ha, rfl⟩ | ⟨ha, hok, htv, hfull, rfl⟩ | ⟨ha, hok, htv, hfull, rfl⟩
  case inl =>
    rw [ha] at CA
    have f1 : (c != 0) = true := by simpa using hc
    obtain ⟨ord, key, want, mat, wrg⟩ := b
    simp only at *
    generalize want.length = N at *
    generalize wrg.length = G at *
    generalize t.1.length = L1 at *
    generalize t.2.length = L2 at *
    clear hc ha CC CD
    go_enter Tryd.func9, Tryd.ntmps9
    go_wp2_with fail
    have XA := Lib.hid (((box_new (W := w) (g := w.heap.size) 25 #[.bool ord, .string key, .slice A1 N c1, .int .i64 mat, .slice A2 G c2] (by simp)).below (below_alloc _ (.cells #[.slice B1 L1 d1, .slice B2 L2 d2] 28))).below (below_alloc _ (.cells #[.bool false, .string ⟨#[]⟩, .slice none 0 0, .int .i64 0, .slice none 0 0] 25)))
    have XB := Lib.hid ((box_new (W := (w.alloc (.cells #[.bool ord, .string key, .slice A1 N c1, .int .i64 mat, .slice A2 G c2] 25))) (g := w.heap.size + 1) 28 #[.slice B1 L1 d1, .slice B2 L2 d2] (by simp)).below (below_alloc _ (.cells #[.bool false, .string ⟨#[]⟩, .slice none 0 0, .int .i64 0, .slice none 0 0] 25)))
    have XR := Lib.hid (box_new (W := ((w.alloc (.cells #[.bool ord, .string key, .slice A1 N c1, .int .i64 mat, .slice A2 G c2] 25)).alloc (.cells #[.slice B1 L1 d1, .slice B2 L2 d2] 28))) (g := w.heap.size + 1 + 1) 25 #[.bool false, .string ⟨#[]⟩, .slice none 0 0, .int .i64 0, .slice none 0 0] (by simp))
    have HB := Lib.hid (below_step (below_step (below_alloc w (.cells #[.bool ord, .string key, .slice A1 N c1, .int .i64 mat, .slice A2 G c2] 25)) (below_alloc (w.alloc (.cells #[.bool ord, .string key, .slice A1 N c1, .int .i64 mat, .slice A2 G c2] 25)) (.cells #[.slice B1 L1 d1, .slice B2 L2 d2] 28))) (below_alloc ((w.alloc (.cells #[.bool ord, .string key, .slice A1 N c1, .int .i64 mat, .slice A2 G c2] 25)).alloc (.cells #[.slice B1 L1 d1, .slice B2 L2 d2] 28)) (.cells #[.bool false, .string ⟨#[]⟩, .slice none 0 0, .int .i64 0, .slice none 0 0] 25)))
    generalize ((w.alloc (.cells #[.bool ord, .string key, .slice A1 N c1, .int .i64 mat, .slice A2 G c2] 25)).alloc (.cells #[.slice B1 L1 d1, .slice B2 L2 d2] 28)).alloc (.cells #[.bool false, .string ⟨#[]⟩, .slice none 0 0, .int .i64 0, .slice none 0 0] 25) = w1 at *
    refine (CA.out _ (H1.out.below HB.out) (H2.out.below HB.out) (S1.out.below HB.out) (S2.out.below HB.out) (HK.out.below HB.out) (HM.out.below HB.out)).mono ?_; rintro e w2 ⟨rfl, hb⟩
    replace XA := Lib.hid (XA.out.below hb)
    replace XB := Lib.hid (XB.out.below hb)
    replace XR := Lib.hid (XR.out.below hb)
    replace HB := Lib.hid (below_step HB.out hb)
    clear hb
    have XR_0 := XR.out.at_ 0 _ rfl
    have XR_1 := XR.out.at_ 1 _ rfl
    have XR_2 := XR.out.at_ 2 _ rfl
    have XR_3 := XR.out.at_ 3 _ rfl
    have XR_4 := XR.out.at_ 4 _ rfl
    have XR_l := XR.out.lt
    have XR_z0 := XR.out.frozen 0
    have XR_z1 := XR.out.frozen 1
    have XR_z2 := XR.out.frozen 2
    have XR_z3 := XR.out.frozen 3
    have XR_z4 := XR.out.frozen 4
    go_wp2_with fail
    refine bodyPost_ret (v := .tuple #[.agg #[.bool false, .string ⟨#[]⟩, .slice none 0 0, .int .i64 0, .slice none 0 0], .int .i64 c]) (by simp [results, Tryd.results9, go_sem, XR_0, XR_1, XR_2, XR_3, XR_4, XR_l]) rfl ?_
    exact ⟨_, rfl, BDF.zero _ _, set5_below _ _ _ _ _ HB.out (by omega)⟩
  case inr.inl =>
    rw [ha] at CA
    obtain ⟨ord, key, want, mat, wrg⟩ := b
    simp only at *
    generalize want.length = N at *
    generalize wrg.length = G at *
    generalize t.1.length = L1 at *
    generalize t.2.length = L2 at *
    have f1 : (1024 : Int) ≤ (N : Int) := by omega
    clear ha hok htv hfull CC CD
    go_enter Tryd.func9, Tryd.ntmps9
    go_wp2_with fail
    have XA := Lib.hid (((box_new (W := w) (g := w.heap.size) 25 #[.bool ord, .string key, .slice A1 N c1, .int .i64 mat, .slice A2 G c2] (by simp)).below (below_alloc _ (.cells #[.slice B1 L1 d1, .slice B2 L2 d2] 28))).below (below_alloc _ (.cells #[.bool false, .string ⟨#[]⟩, .slice none 0 0, .int .i64 0, .slice none 0 0] 25)))
    have XB := Lib.hid ((box_new (W := (w.alloc (.cells #[.bool ord, .string key, .slice A1 N c1, .int .i64 mat, .slice A2 G c2] 25))) (g := w.heap.size + 1) 28 #[.slice B1 L1 d1, .slice B2 L2 d2] (by simp)).below (below_alloc _ (.cells #[.bool false, .string ⟨#[]⟩, .slice none 0 0, .int .i64 0, .slice none 0 0] 25)))
    have XR := Lib.hid (box_new (W := ((w.alloc (.cells #[.bool ord, .string key, .slice A1 N c1, .int .i64 mat, .slice A2 G c2] 25)).alloc (.cells #[.slice B1 L1 d1, .slice B2 L2 d2] 28))) (g := w.heap.size + 1 + 1) 25 #[.bool false, .string ⟨#[]⟩, .slice none 0 0, .int .i64 0, .slice none 0 0] (by simp))
    have HB := Lib.hid (below_step (below_step (below_alloc w (.cells #[.bool ord, .string key, .slice A1 N c1, .int .i64 mat, .slice A2 G c2] 25)) (below_alloc (w.alloc (.cells #[.bool ord, .string key, .slice A1 N c1, .int .i64 mat, .slice A2 G c2] 25)) (.cells #[.slice B1 L1 d1, .slice B2 L2 d2] 28))) (below_alloc ((w.alloc (.cells #[.bool ord, .string key, .slice A1 N c1, .int .i64 mat, .slice A2 G c2] 25)).alloc (.cells #[.slice B1 L1 d1, .slice B2 L2 d2] 28)) (.cells #[.bool false, .string ⟨#[]⟩, .slice none 0 0, .int .i64 0, .slice none 0 0] 25)))
    generalize ((w.alloc (.cells #[.bool ord, .string key, .slice A1 N c1, .int .i64 mat, .slice A2 G c2] 25)).alloc (.cells #[.slice B1 L1 d1, .slice B2 L2 d2] 28)).alloc (.cells #[.bool false, .string ⟨#[]⟩, .slice none 0 0, .int .i64 0, .slice none 0 0] 25) = w1 at *
    refine (CA.out _ (H1.out.below HB.out) (H2.out.below HB.out) (S1.out.below HB.out) (S2.out.below HB.out) (HK.out.below HB.out) (HM.out.below HB.out)).mono ?_; rintro e w2 ⟨rfl, hb⟩
    replace XA := Lib.hid (XA.out.below hb)
    replace XB := Lib.hid (XB.out.below hb)
    replace XR := Lib.hid (XR.out.below hb)
    replace HB := Lib.hid (below_step HB.out hb)
    clear hb
    have XA_2 := XA.out.at_ 2 _ rfl
    have XR_0 := XR.out.at_ 0 _ rfl
    have XR_1 := XR.out.at_ 1 _ rfl
    have XR_2 := XR.out.at_ 2 _ rfl
    have XR_3 := XR.out.at_ 3 _ rfl
    have XR_4 := XR.out.at_ 4 _ rfl
    have XR_l := XR.out.lt
    have XR_z0 := XR.out.frozen 0
    have XR_z1 := XR.out.frozen 1
    have XR_z2 := XR.out.frozen 2
    have XR_z3 := XR.out.frozen 3
    have XR_z4 := XR.out.frozen 4
    go_wp2_with fail
    refine bodyPost_ret (v := .tuple #[.agg #[.bool false, .string ⟨#[]⟩, .slice none 0 0, .int .i64 0, .slice none 0 0], .int .i64 16]) (by simp [results, Tryd.results9, go_sem, XR_0, XR_1, XR_2, XR_3, XR_4, XR_l]) rfl ?_
    exact ⟨_, rfl, BDF.zero _ _, set5_below _ _ _ _ _ HB.out (by omega)⟩
  case inr.inr =>
    rw [ha] at CA
    have CC2 := Lib.hid (CC.out hok)
    have CD2 := Lib.hid (CD.out htv)
    obtain ⟨ord, key, want, mat, wrg⟩ := b
    simp only at *
    obtain ⟨N, hN⟩ : ∃ N, N = want.length := ⟨_, rfl⟩
    have HN := Lib.hid hN
    have hf2 : N < 1024 := by omega
    have f1 : ¬ (1024 : Int) ≤ (N : Int) := by omega
    rw [← hN] at CA CC CC2 H1 ⊢
    obtain ⟨G, hG⟩ : ∃ G, G = wrg.length := ⟨_, rfl⟩
    have HGL := Lib.hid hG
    rw [← hG] at CA CC CC2 H2 ⊢
    obtain ⟨L1, hL1⟩ : ∃ n, n = t.1.length := ⟨_, rfl⟩
    obtain ⟨L2, hL2⟩ : ∃ n, n = t.2.length := ⟨_, rfl⟩
    rw [← hL1] at CA CD CD2 S1 ⊢
    rw [← hL2] at CA CD CD2 S2 ⊢
    have K1 := Lib.hid hL1
    have K2 := Lib.hid hL2
    clear ha hok htv hfull CC CD hN hG hL1 hL2 n1 n2
    go_enter Tryd.func9, Tryd.ntmps9
    go_wp2_with fail
    have XA := Lib.hid (((box_new (W := w) (g := w.heap.size) 25 #[.bool ord, .string key, .slice A1 N c1, .int .i64 mat, .slice A2 G c2] (by simp)).below (below_alloc _ (.cells #[.slice B1 L1 d1, .slice B2 L2 d2] 28))).below (below_alloc _ (.cells #[.bool false, .string ⟨#[]⟩, .slice none 0 0, .int .i64 0, .slice none 0 0] 25)))
    have XB := Lib.hid ((box_new (W := (w.alloc (.cells #[.bool ord, .string key, .slice A1 N c1, .int .i64 mat, .slice A2 G c2] 25))) (g := w.heap.size + 1) 28 #[.slice B1 L1 d1, .slice B2 L2 d2] (by simp)).below (below_alloc _ (.cells #[.bool false, .string ⟨#[]⟩, .slice none 0 0, .int .i64 0, .slice none 0 0] 25)))
    have XR := Lib.hid (box_new (W := ((w.alloc (.cells #[.bool ord, .string key, .slice A1 N c1, .int .i64 mat, .slice A2 G c2] 25)).alloc (.cells #[.slice B1 L1 d1, .slice B2 L2 d2] 28))) (g := w.heap.size + 1 + 1) 25 #[.bool false, .string ⟨#[]⟩, .slice none 0 0, .int .i64 0, .slice none 0 0] (by simp))
    have HB := Lib.hid (below_step (below_step (below_alloc w (.cells #[.bool ord, .string key, .slice A1 N c1, .int .i64 mat, .slice A2 G c2] 25)) (below_alloc (w.alloc (.cells #[.bool ord, .string key, .slice A1 N c1, .int .i64 mat, .slice A2 G c2] 25)) (.cells #[.slice B1 L1 d1, .slice B2 L2 d2] 28))) (below_alloc ((w.alloc (.cells #[.bool ord, .string key, .slice A1 N c1, .int .i64 mat, .slice A2 G c2] 25)).alloc (.cells #[.slice B1 L1 d1, .slice B2 L2 d2] 28)) (.cells #[.bool false, .string ⟨#[]⟩, .slice none 0 0, .int .i64 0, .slice none 0 0] 25)))
    generalize ((w.alloc (.cells #[.bool ord, .string key, .slice A1 N c1, .int .i64 mat, .slice A2 G c2] 25)).alloc (.cells #[.slice B1 L1 d1, .slice B2 L2 d2] 28)).alloc (.cells #[.bool false, .string ⟨#[]⟩, .slice none 0 0, .int .i64 0, .slice none 0 0] 25) = w1 at *
    refine (CA.out _ (H1.out.below HB.out) (H2.out.below HB.out) (S1.out.below HB.out) (S2.out.below HB.out) (HK.out.below HB.out) (HM.out.below HB.out)).mono ?_; rintro e w2 ⟨rfl, hb⟩
    replace XA := Lib.hid (XA.out.below hb)
    replace XB := Lib.hid (XB.out.below hb)
    replace XR := Lib.hid (XR.out.below hb)
    replace HB := Lib.hid (below_step HB.out hb)
    clear hb
    have XA_0 := XA.out.at_ 0 _ rfl
    have XA_1 := XA.out.at_ 1 _ rfl
    have XA_2 := XA.out.at_ 2 _ rfl
    have XA_3 := XA.out.at_ 3 _ rfl
    have XA_4 := XA.out.at_ 4 _ rfl
    go_wp2_with fail
    clear XA_0 XA_1 XA_2 XA_3 XA_4
    refine (CC2.out _ (H1.out.below HB.out) (H2.out.below HB.out)).mono ?_; rintro e w3 ⟨OA, oc, QA, qc, rfl, hog, hqg, hb⟩
    have HLE := Lib.hid HB.out.size
    have HLE2 := Lib.hid hb.size
    have HLR := Lib.hid XR.out.lt
    have HOG := Lib.hid hog
    have HQG := Lib.hid (OG.of_scells (l := wrg) (by rw [← HGL.out]; exact hqg))
    clear hog hqg XA CC2
    replace XB := Lib.hid (XB.out.below hb)
    replace XR := Lib.hid (XR.out.below hb)
    replace HB := Lib.hid (below_step HB.out hb)
    clear hb
    have XB_0 := XB.out.at_ 0 _ rfl
    have XB_1 := XB.out.at_ 1 _ rfl
    go_upto_region 7 with fail
    clear XB_0 XB_1
    replace HOG := Lib.hid (HOG.out.below (below_alloc w3 (.cells #[.bool ord, .string key, .slice OA N oc, .int .i64 mat, .slice QA G qc] 25)))
    replace HQG := Lib.hid (HQG.out.below (below_alloc w3 (.cells #[.bool ord, .string key, .slice OA N oc, .int .i64 mat, .slice QA G qc] 25)))
    have HL34 := Lib.hid (below_alloc w3 (.cells #[.bool ord, .string key, .slice OA N oc, .int .i64 mat, .slice QA G qc] 25)).size
    have XO := Lib.hid (box_new (W := w3) (g := w3.heap.size) 25 #[.bool ord, .string key, .slice OA N oc, .int .i64 mat, .slice QA G qc] (by simp))
    have hba := (below_alloc w3 (.cells #[.bool ord, .string key, .slice OA N oc, .int .i64 mat, .slice QA G qc] 25))
    replace XB := Lib.hid (XB.out.below hba)
    replace XR := Lib.hid (XR.out.below hba)
    replace HB := Lib.hid (below_step HB.out hba)
    clear hba
    generalize w3.alloc (.cells #[.bool ord, .string key, .slice OA N oc, .int .i64 mat, .slice QA G qc] 25) = w4 at *
    have S1' := Lib.hid (S1.out.below HB.out)
    have S2' := Lib.hid (S2.out.below HB.out)
    refine wp_region_gen 5 (Kit.of [gTx 3 [] 0 t, gRs 4 [3] txR [t] 0]) (by kernel_rfl) (by kernel_rfl) (fun γ => by kernel_rfl) (by kernel_rfl) (Kit.of_stable ?_) (Kit.of_known ?_) ?_
    · intro z hz; simp only [List.mem_cons, List.not_mem_nil, or_false] at hz; rcases hz with rfl | rfl
      · apply gTx_st
      · apply gRs_st
    · intro z hz; simp only [List.mem_cons, List.not_mem_nil, or_false] at hz; rcases hz with rfl | rfl
      · apply gTx_kn
      · apply gRs_kn
    intro γ hγ C hC hne
    obtain ⟨P1, p1, P2, p2, e3⟩ : ∃ A1 c1 A2 c2, γ 3 = .agg #[.slice A1 t.1.length c1, .slice A2 t.2.length c2] := hγ 3 rfl
    obtain ⟨A4, c4, e4⟩ : ∃ A c, γ 4 = .slice A 1 c := hγ 4 rfl
    have l0 := XO.out.latC (C := C) 2 _ rfl
    have l1 := XB.out.latC (C := C) 0 _ rfl
    have l2 := XB.out.latC (C := C) 1 _ rfl
    simp only [List.take_succ_cons, List.take_zero, List.drop_succ_cons, List.drop_zero]
    iterate 3 (refine wpF_quiet rfl ?_; go_big_quiet_step (fail); refine wpQuiet_nil ?_)
    refine wpF_fresh rfl (freshAt_call (args := #[.agg #[.slice B1 L1 d1, .slice B2 L2 d2]]) rfl _ _ _ (run_go Tryd.func32 (by kernel_rfl) (by kernel_rfl)) rfl (by simp [Act.eval]) (fun w' hb hf => (CD2.out w' (S1'.out.below hb) (S2'.out.below hb)).mono fun e w2 ⟨v1, v2, he, h, hb⟩ => ⟨_, he, ⟨v1, v2, rfl, dup_rd h⟩, hb⟩)) ?_
    simp only [Nat.zero_add, Nat.reduceAdd, e3]
    go_simp
    refine wpF_fresh rfl (freshAt_one (φ := txR) (x := t) (B := 0) (T := 28) (us := #[.slice P1 t.1.length p1, .slice P2 t.2.length p2]) rfl (fun w => by kernel_rfl) (fun w' hb hf => gtx_at e3 (hf 3 (show 3 ∈ [3] by decide))) (fun v w h => h)) ?_
    simp only [Nat.zero_add, Nat.reduceAdd, e4]
    go_simp
    intro w5 hb hF
    have HL35 := Lib.hid (show w3.heap.size ≤ w5.heap.size from Nat.le_trans HL34.out hb.size)
    have R4 : Rs txR w5 (γ 4) [t] (Ty w5 0 txR.ts) := hF 4 (by decide) rfl
    rw [e4] at R4
    have HR4 := Lib.hid R4
    replace HOG := Lib.hid (HOG.out.below hb)
    replace HQG := Lib.hid (HQG.out.below hb)
    clear l0 l1 l2 hF hγ hC hne e3 e4 R4 CD2
    replace XR := Lib.hid (XR.out.below hb)
    replace XO := Lib.hid (XO.out.below hb)
    replace HB := Lib.hid (below_step HB.out hb)
    clear hb
    go_wp2_with (at_builtin; refine wpList_append_og (φ := txR) (T := 28) (B := w2.heap.size) (C := 0) (xs := want) (ys := [t]) rfl _ _ 22 rfl i0 (.agg #[.slice none 0 0, .slice none 0 0]) 48 Tryd.underlying22 HI.out HZ0.out HZ1.out HZ2.out rfl rfl HOG.out (.slice A4 1 c4) rfl HR4.out ?c1 ?c2 ?c3 ?_)
    case c1 => simp only [List.length_cons, List.length_nil]; rw [← HN.out]; omega
    case c2 => simp only [List.length_cons, List.length_nil]; rw [← HN.out]; unfold maxLen; omega
    case c3 => exact Nat.le_trans HLE2.out HL35.out
    intro v' w7 hog7 hg7
    replace XR := Lib.hid (HOG.out.boxKept hg7.out XR.out (.inl (by decide)))
    replace XO := Lib.hid (HOG.out.boxKept hg7.out XO.out (.inl (by decide)))
    replace HQG := Lib.hid (HQG.out.growO HOG.out hg7.out (by decide) (by decide) (Nat.zero_le _))
    replace HB := Lib.hid (HOG.out.belowG hg7.out HB.out HB.out.size HLE.out)
    obtain ⟨A7, c7, hv'⟩ := hog7.out.slice
    rw [show (want ++ [t]).length = N + 1 by rw [List.length_append, HN.out]; rfl] at hv'
    subst hv'
    clear HOG hg7 HR4
    have HOG := hog7
    have hlr := HLR.out
    have hle2 := HLE2.out
    clear hog7
    have XO' := Lib.hid (XO.out.set_ 2 (.slice A7 (N + 1) c7))
    have XR' := Lib.hid (XR.out.setNe (p := ⟨w3.heap.size, 2, none⟩) (by show w3.heap.size ≠ _; first | omega | (exact boxes_apart XO.out XR.out (by decide))) (.slice A7 (N + 1) c7))
    have HOG' := Lib.hid (HOG.out.setBox XO.out (by decide) (by omega) (by decide) 2 (.slice A7 (N + 1) c7))
    have HQG' := Lib.hid (HQG.out.setBox XO.out (by decide) (by omega) (by decide) 2 (.slice A7 (N + 1) c7))
    have HB' := Lib.hid (HB.out.setCell (p := ⟨w3.heap.size, 2, none⟩) (by show w.heap.size ≤ w3.heap.size; omega) (.slice A7 (N + 1) c7))
    have XO_2 := XO.out.at_ 2 _ rfl
    have XO_l := XO.out.lt
    have XO_z2 := XO.out.frozen 2
    go_upto_region 8 with fail
    clear XO_2 XO_l XO_z2
    clear HB XO XR HOG HQG
    generalize w7.setCell ⟨w3.heap.size, 2, none⟩ (.slice A7 (N + 1) c7) = w8 at *
    have XO : Hid (Box w8 w3.heap.size #[.bool ord, .string key, .slice A7 (N + 1) c7, .int .i64 mat, .slice QA G qc] 25) := XO'
    have XR := XR'
    have HOG := HOG'
    have HQG := HQG'
    have HB := HB'
    clear HB' XO' XR' HOG' HQG'
    have XO_0 := XO.out.at_ 0 _ rfl
    have XO_1 := XO.out.at_ 1 _ rfl
    have XO_2 := XO.out.at_ 2 _ rfl
    have XO_3 := XO.out.at_ 3 _ rfl
    have XO_4 := XO.out.at_ 4 _ rfl
    have XR_0 := XR.out.at_ 0 _ rfl
    have XR_1 := XR.out.at_ 1 _ rfl
    have XR_2 := XR.out.at_ 2 _ rfl
    have XR_3 := XR.out.at_ 3 _ rfl
    have XR_4 := XR.out.at_ 4 _ rfl
    have XR_l := XR.out.lt
    have XR_z0 := XR.out.frozen 0
    have XR_z1 := XR.out.frozen 1
    have XR_z2 := XR.out.frozen 2
    have XR_z3 := XR.out.frozen 3
    have XR_z4 := XR.out.frozen 4
    go_wp2_with fail
    refine bodyPost_ret (v := .tuple #[.agg #[.bool ord, .string key, .slice A7 (N + 1) c7, .int .i64 mat, .slice QA G qc], .int .i64 0]) (by simp [results, Tryd.results9, go_sem, XR_0, XR_1, XR_2, XR_3, XR_4, XR_l]) rfl ?_
    exact ⟨_, rfl, BDF.mk (b := ⟨ord, key, want ++ [t], mat, wrg⟩) (HOG.out.set5 XR.out (by decide) (Nat.zero_le _) (by decide) _ _ _ _ _) (HQG.out.set5 XR.out (by decide) (Nat.zero_le _) (by decide) _ _ _ _ _), set5_below _ _ _ _ _ HB.out (by omega)⟩

end Go.Proofs.YtldafnjbgjagiaaDoor

/-
  Contracts of the reference's board: wrong, copied, Expect, place.
-/
import Derived.Test.YtldafnjbgjagiaaDoorBrrA
namespace Go.Proofs.YtldafnjbgjagiaaDoor
open Go.RowKit
set_option linter.unusedVariables false
set_option linter.unusedSimpArgs false

set_option maxRecDepth 100000 in
set_option maxHeartbeats 8000000 in
theorem brrWrong (w : World) (b : Bd) (t : Tx) (wv gv v1 v2 : Value) (h1 : Rs txR w wv b.want anyB) (h2 : SL w gv b.wrg) (s1 : SL w v1 t.1) (s2 : IL w v2 t.2) (n1 : b.want.length ≤ 9223372036854775807) (n2 : b.wrg.length ≤ 9223372036854775807) (hz : ∀ t ∈ b.want, TZ t) (tz : TZ t) :
    Calls Tryd.prog 33 #[.agg #[.bool b.ord, .string b.key, wv, .int .i64 b.mat, gv], .agg #[v1, v2]] w fun e w' => e = .returned (.int .i64 (askT b t)) ∧ Below w.heap.size w w' := by
  have H1 := Lib.hid h1
  have H2 := Lib.hid h2
  have S1 := Lib.hid s1
  have S2 := Lib.hid s2
  have CV := Lib.hid (fun W a1 a2 => brrValid W b wv gv a1 a2 n1 n2 hz)
  have CT : Hid (∀ W, SL W v1 t.1 → IL W v2 t.2 → Calls Tryd.prog 25 #[.agg #[v1, v2]] W fun e w' => e = .returned (.bool (tv t)) ∧ Below W.heap.size W w') := Lib.hid (fun W a1 a2 => refValidT W v1 v2 t.1 t.2 a1 a2 tz.2.2 tz.1 tz.2.1)
  have CK : Hid (∀ W, SL W v1 t.1 → IL W v2 t.2 → Calls Tryd.prog 46 #[.agg #[.bool b.ord, .string b.key, wv, .int .i64 b.mat, gv], .agg #[v1, v2]] W fun e w' => e = .returned (.bool (kyB b t)) ∧ Below W.heap.size W w') := Lib.hid (fun W a1 a2 => brrKeyed W b.ord b.key b.mat wv gv v1 v2 t.1 t.2 a1 a2 tz.1 tz.2.1)
  obtain ⟨A1, c1, rfl, -⟩ := h1.slice
  obtain ⟨A2, c2, rfl, -⟩ := id h2
  obtain ⟨B1, d1, rfl, -⟩ := id s1
  obtain ⟨B2, d2, rfl, -⟩ := id s2
  have hw := ask_ways b t
  generalize askT b t = r at *
  generalize okB b = q1 at *
  generalize tv t = q2 at *
  generalize kyB b t = q3 at *
  generalize b.want.length = N at *
  generalize b.wrg.length = G at *
  generalize b.ord = o at *
  generalize b.key = s at *
  generalize b.mat = m at *
  generalize t.1.length = L1 at *
  generalize t.2.length = L2 at *
  clear h1 h2 s1 s2 n1 n2 hz tz
  rcases hw with ⟨rfl, rfl⟩ | ⟨rfl, rfl, rfl⟩ | ⟨rfl, rfl, rfl, rfl⟩ | ⟨rfl, rfl, rfl, rfl⟩
  case inl =>
    clear CT CK
    go_enter Tryd.func33, Tryd.ntmps33
    go_wp2_with fail
    have XA := Lib.hid ((box_new (W := w) (g := w.heap.size) 25 #[.bool o, .string s, .slice A1 N c1, .int .i64 m, .slice A2 G c2] (by simp)).below (below_alloc _ (.cells #[.slice B1 L1 d1, .slice B2 L2 d2] 28)))
    have XB := Lib.hid (box_new (W := (w.alloc (.cells #[.bool o, .string s, .slice A1 N c1, .int .i64 m, .slice A2 G c2] 25))) (g := w.heap.size + 1) 28 #[.slice B1 L1 d1, .slice B2 L2 d2] (by simp))
    have HB := Lib.hid (below_step (below_alloc w (.cells #[.bool o, .string s, .slice A1 N c1, .int .i64 m, .slice A2 G c2] 25)) (below_alloc (w.alloc (.cells #[.bool o, .string s, .slice A1 N c1, .int .i64 m, .slice A2 G c2] 25)) (.cells #[.slice B1 L1 d1, .slice B2 L2 d2] 28)))
    generalize (w.alloc (.cells #[.bool o, .string s, .slice A1 N c1, .int .i64 m, .slice A2 G c2] 25)).alloc (.cells #[.slice B1 L1 d1, .slice B2 L2 d2] 28) = w1 at *
    refine (CV.out _ (H1.out.below HB.out) (H2.out.below HB.out)).mono ?_; rintro e w2 ⟨rfl, hb⟩
    replace XA := Lib.hid (XA.out.below hb)
    replace XB := Lib.hid (XB.out.below hb)
    replace HB := Lib.hid (below_step HB.out hb)
    clear hb
    go_wp2_with fail
    go_ret
    exact ⟨rfl, HB.out⟩
  case inr.inl =>
    clear CK
    go_enter Tryd.func33, Tryd.ntmps33
    go_wp2_with fail
    have XA := Lib.hid ((box_new (W := w) (g := w.heap.size) 25 #[.bool o, .string s, .slice A1 N c1, .int .i64 m, .slice A2 G c2] (by simp)).below (below_alloc _ (.cells #[.slice B1 L1 d1, .slice B2 L2 d2] 28)))
    have XB := Lib.hid (box_new (W := (w.alloc (.cells #[.bool o, .string s, .slice A1 N c1, .int .i64 m, .slice A2 G c2] 25))) (g := w.heap.size + 1) 28 #[.slice B1 L1 d1, .slice B2 L2 d2] (by simp))
    have HB := Lib.hid (below_step (below_alloc w (.cells #[.bool o, .string s, .slice A1 N c1, .int .i64 m, .slice A2 G c2] 25)) (below_alloc (w.alloc (.cells #[.bool o, .string s, .slice A1 N c1, .int .i64 m, .slice A2 G c2] 25)) (.cells #[.slice B1 L1 d1, .slice B2 L2 d2] 28)))
    generalize (w.alloc (.cells #[.bool o, .string s, .slice A1 N c1, .int .i64 m, .slice A2 G c2] 25)).alloc (.cells #[.slice B1 L1 d1, .slice B2 L2 d2] 28) = w1 at *
    refine (CV.out _ (H1.out.below HB.out) (H2.out.below HB.out)).mono ?_; rintro e w2 ⟨rfl, hb⟩
    replace XA := Lib.hid (XA.out.below hb)
    replace XB := Lib.hid (XB.out.below hb)
    replace HB := Lib.hid (below_step HB.out hb)
    clear hb
    have XB_0 := XB.out.at_ 0 _ rfl
    have XB_1 := XB.out.at_ 1 _ rfl
    go_wp2_with fail
    clear XB_0 XB_1
    refine (CT.out _ (S1.out.below HB.out) (S2.out.below HB.out)).mono ?_; rintro e w2 ⟨rfl, hb⟩
    replace XA := Lib.hid (XA.out.below hb)
    replace XB := Lib.hid (XB.out.below hb)
    replace HB := Lib.hid (below_step HB.out hb)
    clear hb
    go_wp2_with fail
    go_ret
    exact ⟨rfl, HB.out⟩
  case inr.inr.inl =>
    go_enter Tryd.func33, Tryd.ntmps33
    go_wp2_with fail
    have XA := Lib.hid ((box_new (W := w) (g := w.heap.size) 25 #[.bool o, .string s, .slice A1 N c1, .int .i64 m, .slice A2 G c2] (by simp)).below (below_alloc _ (.cells #[.slice B1 L1 d1, .slice B2 L2 d2] 28)))
    have XB := Lib.hid (box_new (W := (w.alloc (.cells #[.bool o, .string s, .slice A1 N c1, .int .i64 m, .slice A2 G c2] 25))) (g := w.heap.size + 1) 28 #[.slice B1 L1 d1, .slice B2 L2 d2] (by simp))
    have HB := Lib.hid (below_step (below_alloc w (.cells #[.bool o, .string s, .slice A1 N c1, .int .i64 m, .slice A2 G c2] 25)) (below_alloc (w.alloc (.cells #[.bool o, .string s, .slice A1 N c1, .int .i64 m, .slice A2 G c2] 25)) (.cells #[.slice B1 L1 d1, .slice B2 L2 d2] 28)))
    generalize (w.alloc (.cells #[.bool o, .string s, .slice A1 N c1, .int .i64 m, .slice A2 G c2] 25)).alloc (.cells #[.slice B1 L1 d1, .slice B2 L2 d2] 28) = w1 at *
    refine (CV.out _ (H1.out.below HB.out) (H2.out.below HB.out)).mono ?_; rintro e w2 ⟨rfl, hb⟩
    replace XA := Lib.hid (XA.out.below hb)
    replace XB := Lib.hid (XB.out.below hb)
    replace HB := Lib.hid (below_step HB.out hb)
    clear hb
    have XB_0 := XB.out.at_ 0 _ rfl
    have XB_1 := XB.out.at_ 1 _ rfl
    go_wp2_with fail
    clear XB_0 XB_1
    refine (CT.out _ (S1.out.below HB.out) (S2.out.below HB.out)).mono ?_; rintro e w2 ⟨rfl, hb⟩
    replace XA := Lib.hid (XA.out.below hb)
    replace XB := Lib.hid (XB.out.below hb)
    replace HB := Lib.hid (below_step HB.out hb)
    clear hb
    have XA_0 := XA.out.at_ 0 _ rfl
    have XA_1 := XA.out.at_ 1 _ rfl
    have XA_2 := XA.out.at_ 2 _ rfl
    have XA_3 := XA.out.at_ 3 _ rfl
    have XA_4 := XA.out.at_ 4 _ rfl
    have XB_0 := XB.out.at_ 0 _ rfl
    have XB_1 := XB.out.at_ 1 _ rfl
    go_wp2_with fail
    clear XA_0 XA_1 XA_2 XA_3 XA_4 XB_0 XB_1
    refine (CK.out _ (S1.out.below HB.out) (S2.out.below HB.out)).mono ?_; rintro e w2 ⟨rfl, hb⟩
    replace XA := Lib.hid (XA.out.below hb)
    replace XB := Lib.hid (XB.out.below hb)
    replace HB := Lib.hid (below_step HB.out hb)
    clear hb
    go_wp2_with fail
    go_ret
    exact ⟨rfl, HB.out⟩
  case inr.inr.inr =>
    go_enter Tryd.func33, Tryd.ntmps33
    go_wp2_with fail
    have XA := Lib.hid ((box_new (W := w) (g := w.heap.size) 25 #[.bool o, .string s, .slice A1 N c1, .int .i64 m, .slice A2 G c2] (by simp)).below (below_alloc _ (.cells #[.slice B1 L1 d1, .slice B2 L2 d2] 28)))
    have XB := Lib.hid (box_new (W := (w.alloc (.cells #[.bool o, .string s, .slice A1 N c1, .int .i64 m, .slice A2 G c2] 25))) (g := w.heap.size + 1) 28 #[.slice B1 L1 d1, .slice B2 L2 d2] (by simp))
    have HB := Lib.hid (below_step (below_alloc w (.cells #[.bool o, .string s, .slice A1 N c1, .int .i64 m, .slice A2 G c2] 25)) (below_alloc (w.alloc (.cells #[.bool o, .string s, .slice A1 N c1, .int .i64 m, .slice A2 G c2] 25)) (.cells #[.slice B1 L1 d1, .slice B2 L2 d2] 28)))
    generalize (w.alloc (.cells #[.bool o, .string s, .slice A1 N c1, .int .i64 m, .slice A2 G c2] 25)).alloc (.cells #[.slice B1 L1 d1, .slice B2 L2 d2] 28) = w1 at *
    refine (CV.out _ (H1.out.below HB.out) (H2.out.below HB.out)).mono ?_; rintro e w2 ⟨rfl, hb⟩
    replace XA := Lib.hid (XA.out.below hb)
    replace XB := Lib.hid (XB.out.below hb)
    replace HB := Lib.hid (below_step HB.out hb)
    clear hb
    have XB_0 := XB.out.at_ 0 _ rfl
    have XB_1 := XB.out.at_ 1 _ rfl
    go_wp2_with fail
    clear XB_0 XB_1
    refine (CT.out _ (S1.out.below HB.out) (S2.out.below HB.out)).mono ?_; rintro e w2 ⟨rfl, hb⟩
    replace XA := Lib.hid (XA.out.below hb)
    replace XB := Lib.hid (XB.out.below hb)
    replace HB := Lib.hid (below_step HB.out hb)
    clear hb
    have XA_0 := XA.out.at_ 0 _ rfl
    have XA_1 := XA.out.at_ 1 _ rfl
    have XA_2 := XA.out.at_ 2 _ rfl
    have XA_3 := XA.out.at_ 3 _ rfl
    have XA_4 := XA.out.at_ 4 _ rfl
    have XB_0 := XB.out.at_ 0 _ rfl
    have XB_1 := XB.out.at_ 1 _ rfl
    go_wp2_with fail
    clear XA_0 XA_1 XA_2 XA_3 XA_4 XB_0 XB_1
    refine (CK.out _ (S1.out.below HB.out) (S2.out.below HB.out)).mono ?_; rintro e w2 ⟨rfl, hb⟩
    replace XA := Lib.hid (XA.out.below hb)
    replace XB := Lib.hid (XB.out.below hb)
    replace HB := Lib.hid (below_step HB.out hb)
    clear hb
    go_wp2_with fail
    go_ret
    exact ⟨rfl, HB.out⟩

/-- A board whose rows are new, its transactions the old ones. -/
def RCPY (w : World) (C : Nat) (b : Bd) (e : Ending) (w' : World) : Prop :=
  ∃ OA oc QA qc wm, e = .returned (.agg #[.bool b.ord, .string b.key, .slice OA b.want.length oc, .int .i64 b.mat, .slice QA b.wrg.length qc]) ∧
    (OG txR wm w.heap.size C 28 (.slice OA b.want.length oc) b.want ∧ Below w.heap.size w wm ∧ Kept (BX wm C) wm w' ∧ OG strR w' wm.heap.size 0 9 (.slice QA b.wrg.length qc) b.wrg) ∧ Below w.heap.size w w'
set_option maxRecDepth 100000 in
set_option maxHeartbeats 8000000 in
theorem brrCopied (w : World) (b : Bd) (C : Nat) (A1 A2 : Option Addr) (c1 c2 : Nat) (h1 : Rs txR w (.slice A1 b.want.length c1) b.want (Ty w C txR.ts)) (h2 : SL w (.slice A2 b.wrg.length c2) b.wrg) (hC : C ≤ w.heap.size) (n1 : b.want.length * 48 ≤ 140737488355328) (n2 : b.wrg.length * 16 ≤ 140737488355328) :
    Calls Tryd.prog 34 #[.agg #[.bool b.ord, .string b.key, .slice A1 b.want.length c1, .int .i64 b.mat, .slice A2 b.wrg.length c2]] w (RCPY w C b) := by
  obtain ⟨i0, hi0, hz0, hz1, hz2⟩ := info_parts itxn
  have HI := Lib.hid hi0
  have HZ0 := Lib.hid hz0
  have HZ1 := Lib.hid hz1
  have HZ2 := Lib.hid hz2
  obtain ⟨i1, hi1, hy0, hy1, hy2⟩ := info_parts istr
  have JI := Lib.hid hi1
  have JZ0 := Lib.hid hy0
  have JZ1 := Lib.hid hy1
  have JZ2 := Lib.hid hy2
  have H1 : Hid (∀ W, Below w.heap.size w W → Rs txR W (.slice A1 b.want.length c1) b.want (Ty W C txR.ts)) := Lib.hid fun W hW => (h1.below hW).mono fun q hq => hq.below hW
  have H2 : Hid (∀ W, Below w.heap.size w W → Rs strR W (.slice A2 b.wrg.length c2) b.wrg (Ty W 0 strR.ts)) := Lib.hid fun W hW => Rs.of_sl (h2.below hW) _
  obtain ⟨ord, key, want, mat, wrg⟩ := b
  simp only at *
  obtain ⟨N, hN⟩ : ∃ N, N = want.length := ⟨_, rfl⟩
  obtain ⟨G, hG⟩ : ∃ G, G = wrg.length := ⟨_, rfl⟩
  have HN := Lib.hid hN
  have HGL := Lib.hid hG
  rw [← hN] at n1 H1 ⊢
  rw [← hG] at n2 H2 ⊢
  have HCW := Lib.hid hC
  clear h1 h2 hN hG hi0 hz0 hz1 hz2 hi1 hy0 hy1 hy2
  go_enter Tryd.func34, Tryd.ntmps34
  go_upto_region 1 with fail
  have XA := Lib.hid ((box_new (W := w) (g := w.heap.size) 25 #[.bool ord, .string key, .slice A1 N c1, .int .i64 mat, .slice A2 G c2] (by simp)).below (below_alloc _ (.cells #[.bool false, .string ⟨#[]⟩, .slice none 0 0, .int .i64 0, .slice none 0 0] 25)))
  have XR := Lib.hid (box_new (W := (w.alloc (.cells #[.bool ord, .string key, .slice A1 N c1, .int .i64 mat, .slice A2 G c2] 25))) (g := w.heap.size + 1) 25 #[.bool false, .string ⟨#[]⟩, .slice none 0 0, .int .i64 0, .slice none 0 0] (by simp))
  have HB := Lib.hid (below_step (below_alloc w (.cells #[.bool ord, .string key, .slice A1 N c1, .int .i64 mat, .slice A2 G c2] 25)) (below_alloc (w.alloc (.cells #[.bool ord, .string key, .slice A1 N c1, .int .i64 mat, .slice A2 G c2] 25)) (.cells #[.bool false, .string ⟨#[]⟩, .slice none 0 0, .int .i64 0, .slice none 0 0] 25)))
  generalize (w.alloc (.cells #[.bool ord, .string key, .slice A1 N c1, .int .i64 mat, .slice A2 G c2] 25)).alloc (.cells #[.bool false, .string ⟨#[]⟩, .slice none 0 0, .int .i64 0, .slice none 0 0] 25) = w1 at *
  have hba := below_alloc w1 (.cells #[] 28)
  have HO0 := Lib.hid (OG.lit0 (φ := txR) w1 (B := w.heap.size) (C := C) (T := 28) (by decide) HCW.out HB.out.size)
  have XA' := Lib.hid (XA.out.below hba)
  have XR' := Lib.hid (XR.out.below hba)
  have HB1 := Lib.hid (below_step HB.out hba)
  have R1 := Lib.hid (H1.out _ HB1.out)
  have XA2 := XA'.out.at_ 2 _ rfl
  clear hba
  go_wp2_with (at_builtin; refine wpList_append_og (φ := txR) (T := 28) (B := w.heap.size) (C := C) (xs := []) (ys := want) rfl _ _ 22 rfl i0 (.agg #[.slice none 0 0, .slice none 0 0]) 48 Tryd.underlying22 HI.out HZ0.out HZ1.out HZ2.out rfl rfl HO0.out (.slice A1 N c1) rfl R1.out ?c1 ?c2 ?c3 ?_)
  case c1 => simp only [List.length_nil]; rw [← HN.out]; omega
  case c2 => simp only [List.length_nil]; rw [← HN.out]; unfold maxLen; omega
  case c3 => exact HB1.out.size
  intro v' w3 hog hg
  clear XA2 R1 XA XR HB
  have XA := Lib.hid (HO0.out.boxKept hg.out XA'.out (.inl (by decide)))
  have XR := Lib.hid (HO0.out.boxKept hg.out XR'.out (.inl (by decide)))
  have HB := Lib.hid (HO0.out.belowG hg.out HB1.out HB1.out.size (Nat.le_refl _))
  try rw [List.nil_append] at hog
  obtain ⟨OA, oc, hv'⟩ := hog.out.slice
  rw [← HN.out] at hv'
  subst hv'
  clear HO0 XA' XR' HB1 hg
  have HOG := hog
  clear hog
  have XA' := Lib.hid (XA.out.set_ 2 (.slice OA N oc))
  have XR' := Lib.hid (XR.out.setNe (p := ⟨w.heap.size, 2, none⟩) (by show w.heap.size ≠ _; first | omega | (exact boxes_apart XA.out XR.out (by decide))) (.slice OA N oc))
  have HOG' := Lib.hid (HOG.out.setBox XA.out (by decide) (by omega) (by decide) 2 (.slice OA N oc))
  have HB' := Lib.hid (HB.out.setCell (p := ⟨w.heap.size, 2, none⟩) (by show w.heap.size ≤ w.heap.size; omega) (.slice OA N oc))
  have XA_2 := XA.out.at_ 2 _ rfl
  have XA_l := XA.out.lt
  have XA_z2 := XA.out.frozen 2
  go_upto_region 2 with fail
  clear XA_2 XA_l XA_z2
  clear HB XA XR HOG
  generalize w3.setCell ⟨w.heap.size, 2, none⟩ (.slice OA N oc) = w4 at *
  have XA : Hid (Box w4 w.heap.size #[.bool ord, .string key, .slice OA N oc, .int .i64 mat, .slice A2 G c2] 25) := XA'
  have XR := XR'
  have HOG := HOG'
  have HB := HB'
  clear HB' XA' XR' HOG'
  have HL4 := Lib.hid HB.out.size
  have XAm := XA
  have XRm := XR
  have HBm := HB
  have hba := below_alloc w4 (.cells #[] 9)
  have HO0 := Lib.hid (OG.lit0 (φ := strR) w4 (B := w4.heap.size) (C := 0) (T := 9) (by decide) (Nat.zero_le _) (Nat.le_refl _))
  have XA' := Lib.hid (XA.out.below hba)
  have XR' := Lib.hid (XR.out.below hba)
  have HB1 := Lib.hid (below_step HB.out hba)
  have R1 := Lib.hid (H2.out _ HB1.out)
  have XA2 := XA'.out.at_ 4 _ rfl
  have HKP := Lib.hid ((Kept.refl (BX w4 C) w4).below hba)
  have HLA := Lib.hid hba.size
  clear hba
  go_wp2_with (at_builtin; refine wpList_append_og (φ := strR) (T := 9) (B := w4.heap.size) (C := 0) (xs := []) (ys := wrg) rfl _ _ 23 rfl i1 (.string ⟨#[]⟩) 16 Tryd.underlying23 JI.out JZ0.out JZ1.out JZ2.out rfl rfl HO0.out (.slice A2 G c2) rfl R1.out ?d1 ?d2 ?d3 ?_)
  case d1 => simp only [List.length_nil]; rw [← HGL.out]; omega
  case d2 => simp only [List.length_nil]; rw [← HGL.out]; unfold maxLen; omega
  case d3 => exact HLA.out
  intro v' w5 hqg hg
  replace HKP := Lib.hid (HKP.out.grown hg.out fun q hq => .inr (HO0.out.blk q hq))
  clear XA2 R1 XA XR HB
  have XA := Lib.hid (HO0.out.boxKept hg.out XA'.out (.inl (by decide)))
  have XR := Lib.hid (HO0.out.boxKept hg.out XR'.out (.inl (by decide)))
  have HB := Lib.hid (HO0.out.belowG hg.out HB1.out HB1.out.size HL4.out)
  try rw [List.nil_append] at hqg
  obtain ⟨QA, qc, hv'⟩ := hqg.out.slice
  rw [← HGL.out] at hv'
  subst hv'
  clear HO0 XA' XR' HB1 hg
  have HQG := hqg
  clear hqg
  have HKP6 := Lib.hid (HKP.out.set (p := ⟨w.heap.size, 4, none⟩) (.inl ⟨HCW.out, _, XAm.out⟩) (.slice QA G qc))
  clear HKP
  have XA' := Lib.hid (XA.out.set_ 4 (.slice QA G qc))
  have XR' := Lib.hid (XR.out.setNe (p := ⟨w.heap.size, 4, none⟩) (by show w.heap.size ≠ _; first | omega | (exact boxes_apart XA.out XR.out (by decide))) (.slice QA G qc))
  have HQG' := Lib.hid (HQG.out.setBox XA.out (by decide) (by omega) (by decide) 4 (.slice QA G qc))
  have HB' := Lib.hid (HB.out.setCell (p := ⟨w.heap.size, 4, none⟩) (by show w.heap.size ≤ w.heap.size; omega) (.slice QA G qc))
  have XA_4 := XA.out.at_ 4 _ rfl
  have XA_l := XA.out.lt
  have XA_z4 := XA.out.frozen 4
  go_upto_region 3 with fail
  clear XA_4 XA_l XA_z4
  clear HB XA XR HQG
  generalize w5.setCell ⟨w.heap.size, 4, none⟩ (.slice QA G qc) = w6 at *
  have XA : Hid (Box w6 w.heap.size #[.bool ord, .string key, .slice OA N oc, .int .i64 mat, .slice QA G qc] 25) := XA'
  have XR := XR'
  have HQG := HQG'
  have HB := HB'
  clear HB' XA' XR' HQG'
  have XA_0 := XA.out.at_ 0 _ rfl
  have XA_1 := XA.out.at_ 1 _ rfl
  have XA_2 := XA.out.at_ 2 _ rfl
  have XA_3 := XA.out.at_ 3 _ rfl
  have XA_4 := XA.out.at_ 4 _ rfl
  have XR_0 := XR.out.at_ 0 _ rfl
  have XR_1 := XR.out.at_ 1 _ rfl
  have XR_2 := XR.out.at_ 2 _ rfl
  have XR_3 := XR.out.at_ 3 _ rfl
  have XR_4 := XR.out.at_ 4 _ rfl
  have XR_l := XR.out.lt
  have XR_z0 := XR.out.frozen 0
  have XR_z1 := XR.out.frozen 1
  have XR_z2 := XR.out.frozen 2
  have XR_z3 := XR.out.frozen 3
  have XR_z4 := XR.out.frozen 4
  go_wp2_with fail
  refine bodyPost_ret (v := .agg #[.bool ord, .string key, .slice OA N oc, .int .i64 mat, .slice QA G qc]) (by simp [results, Tryd.results34, go_sem, XR_0, XR_1, XR_2, XR_3, XR_4, XR_l]) rfl ?_
  have hk2 := set5_kept (.bool ord) (.string key) (.slice OA N oc) (.int .i64 mat) (.slice QA G qc) HKP6.out (g := w.heap.size + 1) (.inl ⟨Nat.le_succ_of_le HCW.out, _, XRm.out⟩)
  refine ⟨OA, oc, QA, qc, w4, by rw [HN.out, HGL.out], ⟨?_, HBm.out, hk2, ?_⟩, set5_below (.bool ord) (.string key) (.slice OA N oc) (.int .i64 mat) (.slice QA G qc) HB.out (g := w.heap.size + 1) (Nat.le_succ _)⟩
  · rw [HN.out] at HOG; exact HOG.out
  · have := HQG.out.set5 XR.out (by decide) (Nat.zero_le _) (by decide) (.bool ord) (.string key) (.slice OA N oc) (.int .i64 mat) (.slice QA G qc)
    rw [HGL.out] at this ⊢
    exact this

end Go.Proofs.YtldafnjbgjagiaaDoor

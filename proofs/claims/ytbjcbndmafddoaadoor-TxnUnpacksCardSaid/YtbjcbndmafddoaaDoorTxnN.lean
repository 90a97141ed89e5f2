/-
  Contracts of txn.Set and of the reference's Set; the plain law: only the named value changes.
-/
import Derived.Test.YtbjcbndmafddoaaDoorTxE
import Derived.Test.YtbjcbndmafddoaaDoorTxnL
import Derived.Deep.Onto
import Derived.Deep.AppendLies
namespace Go.Proofs.YtbjcbndmafddoaaDoor
section
open Go.RowKit
set_option linter.unusedVariables false
set_option linter.unusedSimpArgs false

/-- A transaction with another value of a name, or the error. -/
def setT (ns : List ByteArray) (zs : List Int) (s : ByteArray) (v : Int) : List ByteArray × List Int × Int :=
  if txV ns zs = false then ([], [], 1) else if Lib.idxOfS ns s < 0 then ([], [], 7) else if wordB v = false then ([], [], 3) else (ns, zs.set (Lib.idxOfS ns s).toNat v, 0)
theorem set_ways (ns : List ByteArray) (zs : List Int) (s : ByteArray) (v : Int) : (txV ns zs = false ∧ setT ns zs s v = ([], [], 1)) ∨ (txV ns zs = true ∧ Lib.idxOfS ns s < 0 ∧ setT ns zs s v = ([], [], 7)) ∨
    (txV ns zs = true ∧ 0 ≤ Lib.idxOfS ns s ∧ wordB v = false ∧ setT ns zs s v = ([], [], 3)) ∨ ∃ k : Nat, txV ns zs = true ∧ Lib.idxOfS ns s = k ∧ k < ns.length ∧ k < zs.length ∧ wordB v = true ∧ setT ns zs s v = (ns, zs.set k v, 0) := by
  unfold setT
  cases h1 : txV ns zs
  · left; simp
  · right
    by_cases h2 : Lib.idxOfS ns s < 0
    · left; simp [h2]
    · right
      cases h3 : wordB v
      · left; simp [h2]; omega
      · right
        have hb := idx_bd ns s
        have hl := (txv_parts h1).1
        refine ⟨(Lib.idxOfS ns s).toNat, rfl, by omega, by omega, by omega, rfl, ?_⟩
        simp [h2]
theorem txv_set {ns : List ByteArray} {zs : List Int} {k : Nat} {v : Int} (h : txV ns zs = true) (hv : wordB v = true) : txV ns (zs.set k v) = true := by
  obtain ⟨a, b, c, d, e⟩ := txv_parts h
  refine decide_eq_true ⟨by simpa using a, b, c, d, fun z hz => ?_⟩
  rcases List.mem_or_eq_of_mem_set hz with hz | rfl
  · exact e z hz
  · exact hv
theorem name_place {ns : List ByteArray} {zs : List Int} {s : ByteArray} {k i : Nat} (h : txV ns zs = true) (hk : Lib.idxOfS ns s = k) (hi : i < ns.length) : ns.getD i ⟨#[]⟩ = s ↔ i = k := by
  obtain ⟨_, _, c, d, _⟩ := txv_parts h
  have h1 : Lib.idxOfS ns (ns.getD i ⟨#[]⟩) = i := (idx_self hi).2 fun hm => dif_dup hi hm ⟨c, d⟩
  constructor
  · intro e; rw [e, hk] at h1; omega
  · rintro rfl; exact (idx_at hk).2.1
theorem set_getD (zs : List Int) (k i : Nat) (v : Int) (hi : i < zs.length) : (zs.set k v).getD i 0 = if i = k then v else zs.getD i 0 := by
  simp only [List.getD_eq_getElem?_getD, List.getElem?_set]
  by_cases e : k = i
  · subst e; simp [hi]
  · rw [if_neg e, if_neg (fun h => e h.symm)]
end
open Go.RowKit
set_option linter.unusedVariables false
set_option linter.unusedSimpArgs false

/-- A fresh operation that hands back a row of the call's own. -/
def fOwn (j : Nat) (D : List Nat) (B : Nat) (T : TypeId) (n : Nat) (xs : List Value) : FOp := ⟨j, D, fun v => ∃ A c, v = .slice A n c, fun v w => w.ownsRow B T 1 v n xs⟩
theorem fOwn_st (j : Nat) (D : List Nat) (B : Nat) (T : TypeId) (n : Nat) (xs : List Value) : ∀ v w w', (fOwn j D B T n xs).Φ v w → Below w.heap.size w w' → (fOwn j D B T n xs).Φ v w' := fun v w w' h hb => own_below h hb
theorem fOwn_kn (j : Nat) (D : List Nat) (B : Nat) (T : TypeId) (n : Nat) (xs : List Value) : (∀ u w, (fOwn j D B T n xs).Φ u w → (fOwn j D B T n xs).S u) ∧ ∃ u, (fOwn j D B T n xs).S u := ⟨fun u w h => by
  rcases h.2 with ⟨rfl, rfl⟩ | ⟨g, cap, cur, rfl, _⟩
  · exact ⟨none, 0, rfl⟩
  · exact ⟨_, cap, rfl⟩, .slice none n 0, none, 0, rfl⟩
/-- A transaction in new memory. -/
def COPY (w : World) (ns : List ByteArray) (zs : List Int) (e : Ending) (w' : World) : Prop :=
  ∃ v1 v2, e = .returned (.agg #[v1, v2]) ∧ (w'.ownsRow w.heap.size 9 1 v1 ns.length (scells ns) ∧ w'.ownsRow w.heap.size 3 1 v2 zs.length (icells zs) ∧ Below w.heap.size w w')

set_option maxRecDepth 100000 in
set_option maxHeartbeats 8000000 in
theorem txnCopied (w : World) (v1 v2 : Value) (ns : List ByteArray) (zs : List Int) (h1 : SL w v1 ns) (h2 : IL w v2 zs) (hn : ns.length * 16 ≤ 140737488355328) (hz : zs.length * 8 ≤ 140737488355328) :
    Calls Tryd.prog 47 #[.agg #[v1, v2]] w (COPY w ns zs) := by
  have HQ1 := Lib.hid h1
  have HQ2 := Lib.hid h2
  have C1 := Lib.hid (fun W h => slCloneS W v1 ns h hn)
  have C2 := Lib.hid (fun W h => slCloneI W v2 zs h hz)
  clear h1 h2 hn hz
  go_enter Tryd.func47, Tryd.ntmps47
  go_wp2_with fail
  have XA := Lib.hid ((box_new (W := w) (g := w.heap.size) 25 #[v1, v2] (by simp)).below (below_alloc _ (.cells #[.slice none 0 0, .slice none 0 0] 25)))
  have XR := Lib.hid (box_new (W := (w.alloc (.cells #[v1, v2] 25))) (g := w.heap.size + 1) 25 #[.slice none 0 0, .slice none 0 0] (by simp))
  have HB := Lib.hid (below_step (below_alloc w (.cells #[v1, v2] 25)) (below_alloc (w.alloc (.cells #[v1, v2] 25)) (.cells #[.slice none 0 0, .slice none 0 0] 25)))
  generalize (w.alloc (.cells #[v1, v2] 25)).alloc (.cells #[.slice none 0 0, .slice none 0 0] 25) = w1 at *
  have R1 := Lib.hid (HQ1.out.below HB.out)
  have R2 := Lib.hid (HQ2.out.below HB.out)
  refine wp_region_gen 7 (Kit.of [fOwn 2 [] w1.heap.size 9 ns.length (scells ns), fOwn 5 [] w1.heap.size 3 zs.length (icells zs)]) (by kernel_rfl) (by kernel_rfl) (fun γ => by kernel_rfl) (by kernel_rfl) (Kit.of_stable ?_) (Kit.of_known ?_) ?_
  · intro z hz; simp only [List.mem_cons, List.not_mem_nil, or_false] at hz; rcases hz with rfl | rfl
    · apply fOwn_st
    · apply fOwn_st
  · intro z hz; simp only [List.mem_cons, List.not_mem_nil, or_false] at hz; rcases hz with rfl | rfl
    · apply fOwn_kn
    · apply fOwn_kn
  intro γ hγ C hC hne
  obtain ⟨P2, c2, k2⟩ : ∃ A c, γ 2 = .slice A ns.length c := hγ 2 rfl
  obtain ⟨P5, c5, k5⟩ : ∃ A c, γ 5 = .slice A zs.length c := hγ 5 rfl
  have l0 := XA.out.latC (C := C) 0 _ rfl
  have l1 := XA.out.latC (C := C) 1 _ rfl
  simp only [List.take_succ_cons, List.take_zero, List.drop_succ_cons, List.drop_zero]
  iterate 2 (refine wpF_quiet rfl ?_; go_big_quiet_step (fail); refine wpQuiet_nil ?_)
  refine wpF_fresh rfl (freshAt_call (args := #[v1]) rfl _ _ _ (run_go Tryd.func64 (by kernel_rfl) (by kernel_rfl)) rfl (by simp [Act.eval]) (fun w' hb hf => (C1.out w' (R1.out.below hb)).mono fun e w2 ⟨v, he, h1, h2⟩ => ⟨v, he, h1.mono hb.size, h2⟩)) ?_
  simp only [Nat.zero_add, Nat.reduceAdd, k2]
  go_simp
  iterate 2 (refine wpF_quiet rfl ?_; go_big_quiet_step (fail); refine wpQuiet_nil ?_)
  refine wpF_fresh rfl (freshAt_call (args := #[v2]) rfl _ _ _ (run_go Tryd.func65 (by kernel_rfl) (by kernel_rfl)) rfl (by simp [Act.eval]) (fun w' hb hf => (C2.out w' (R2.out.below hb)).mono fun e w2 ⟨v, he, h1, h2⟩ => ⟨v, he, h1.mono hb.size, h2⟩)) ?_
  simp only [Nat.zero_add, Nat.reduceAdd, k5]
  go_simp
  iterate 1 (refine wpF_quiet rfl ?_; go_big_quiet_step (fail); refine wpQuiet_nil ?_)
  intro w2 hb hF
  have O1 : w2.ownsRow w1.heap.size 9 1 (γ 2) ns.length (scells ns) := hF 2 (by decide) rfl
  have O2 : w2.ownsRow w1.heap.size 3 1 (γ 5) zs.length (icells zs) := hF 5 (by decide) rfl
  rw [k2] at O1
  rw [k5] at O2
  have HO1 := Lib.hid O1
  have HO2 := Lib.hid O2
  have HBIG := Lib.hid XR.out.lt
  clear l0 l1 k2 k5 hF hγ hC hne O1 O2 R1 R2
  replace XR := Lib.hid (XR.out.below hb)
  replace HB := Lib.hid (below_step HB.out hb)
  clear hb
  have XR_0 := XR.out.at_ 0 _ rfl
  have XR_1 := XR.out.at_ 1 _ rfl
  have XR_l := XR.out.lt
  have XR_z0 := XR.out.frozen 0
  have XR_z1 := XR.out.frozen 1
  go_wp2_with fail
  refine bodyPost_ret (v := .agg #[.slice P2 ns.length c2, .slice P5 zs.length c5]) (by simp [results, Tryd.results47, go_sem, XR_0, XR_1, XR_l]) rfl ?_
  have hbig := HBIG.out
  refine ⟨_, _, rfl, ?_, ?_, (HB.out.setCell (p := ⟨w.heap.size + 1, 0, none⟩) (Nat.le_succ _) _).setCell (p := ⟨w.heap.size + 1, 1, none⟩) (Nat.le_succ _) _⟩
  · exact (own_setNe (g := w.heap.size + 1) (a := ⟨w.heap.size + 1, 1, none⟩) (own_setNe (g := w.heap.size + 1) (a := ⟨w.heap.size + 1, 0, none⟩) HO1.out rfl hbig) rfl hbig).mono (by omega)
  · exact (own_setNe (g := w.heap.size + 1) (a := ⟨w.heap.size + 1, 1, none⟩) (own_setNe (g := w.heap.size + 1) (a := ⟨w.heap.size + 1, 0, none⟩) HO2.out rfl hbig) rfl hbig).mono (by omega)

theorem below_r2 {w w4 : World} (h : Below w.heap.size w w4) (a b : Value) : Below w.heap.size w ((w4.setCell ⟨w.heap.size + 1, 0, none⟩ a).setCell ⟨w.heap.size + 1, 1, none⟩ b) :=
  (h.setCell (p := ⟨w.heap.size + 1, 0, none⟩) (Nat.le_succ _) a).setCell (p := ⟨w.heap.size + 1, 1, none⟩) (Nat.le_succ _) b
theorem own_slice {w : World} {base : Nat} {e : TypeId} {size : Nat} {v : Value} {n : Nat} {xs : List Value} (h : w.ownsRow base e size v n xs) : ∃ A c, v = .slice A n c := by
  rcases h.2 with ⟨rfl, rfl⟩ | ⟨g, cap, cur, rfl, _⟩
  · exact ⟨none, 0, rfl⟩
  · exact ⟨_, cap, rfl⟩
theorem icells_set (zs : List Int) (k : Nat) (v : Int) : icells (zs.set k v) = (icells zs).set k (.int .i64 v) := by simp [icells, List.map_set]

set_option maxRecDepth 100000 in
set_option maxHeartbeats 8000000 in
theorem txnSet (w : World) (v1 v2 : Value) (ns : List ByteArray) (zs : List Int) (s : ByteArray) (v : Int) (h1 : SL w v1 ns) (h2 : IL w v2 zs) (hsz : ∀ s ∈ ns, s.size ≤ 2000000) (hn : ns.length * 16 ≤ 140737488355328) (hz : zs.length * 8 ≤ 140737488355328) (hk : KW w) (hm : MLen w) :
    Calls Tryd.prog 25 #[.agg #[v1, v2], .string s, .int .i64 v] w fun e w' => RET e w w' (setT ns zs s v) := by
  have HK := Lib.hid hk
  have HM := Lib.hid hm
  have HQ1 := Lib.hid h1
  have HQ2 := Lib.hid h2
  have CI := Lib.hid (fun W h => slIndex W v1 ns s h (by omega))
  have CV := Lib.hid (fun W h1 h2 hk hm => txnValid W v1 v2 ns zs h1 h2 hsz (by omega) (by omega) hk hm)
  have CD := Lib.hid (fun W => txnIsWord v W)
  have CC := Lib.hid (fun W h1 h2 => txnCopied W v1 v2 ns zs h1 h2 hn hz)
  have hways := set_ways ns zs s v
  generalize setT ns zs s v = r at *
  clear hk hm h1 h2 hsz
  rcases hways with ⟨hv, hr⟩ | ⟨hv, hi, hr⟩ | ⟨hv, hi, hw, hr⟩ | ⟨k, hv, hi, hk, hkz, hw, hr⟩
  · rw [hv] at CV
    have HR := Lib.hid hr
    generalize Lib.idxOfS ns s = i at *
    clear hv hr CC CD hn hz
    go_enter Tryd.func25, Tryd.ntmps25
    go_wp2_with fail
    have XA := Lib.hid ((box_new (W := w) (g := w.heap.size) 25 #[v1, v2] (by simp)).below (below_alloc _ (.cells #[.slice none 0 0, .slice none 0 0] 25)))
    have XR := Lib.hid (box_new (W := (w.alloc (.cells #[v1, v2] 25))) (g := w.heap.size + 1) 25 #[.slice none 0 0, .slice none 0 0] (by simp))
    have HB := Lib.hid (below_step (below_alloc w (.cells #[v1, v2] 25)) (below_alloc (w.alloc (.cells #[v1, v2] 25)) (.cells #[.slice none 0 0, .slice none 0 0] 25)))
    generalize (w.alloc (.cells #[v1, v2] 25)).alloc (.cells #[.slice none 0 0, .slice none 0 0] 25) = w1 at *
    refine (CI.out _ (HQ1.out.below HB.out)).mono ?_; rintro e w2 ⟨rfl, rfl⟩
    have XA_0 := XA.out.at_ 0 _ rfl
    have XA_1 := XA.out.at_ 1 _ rfl
    go_wp2_with fail
    refine (CV.out _ (HQ1.out.below HB.out) (HQ2.out.below HB.out) (HK.out.below HB.out) (HM.out.below HB.out)).mono ?_; rintro e w3 ⟨rfl, hb⟩
    clear XA_0 XA_1
    replace XA := Lib.hid (XA.out.below hb)
    replace XR := Lib.hid (XR.out.below hb)
    replace HB := Lib.hid (below_step HB.out hb)
    clear hb
    have XR_0 := XR.out.at_ 0 _ rfl
    have XR_1 := XR.out.at_ 1 _ rfl
    have XR_l := XR.out.lt
    have XR_z0 := XR.out.frozen 0
    have XR_z1 := XR.out.frozen 1
    go_wp2_with fail
    refine bodyPost_ret (v := .tuple #[.agg #[.slice none 0 0, .slice none 0 0], .int .i64 1]) (by simp [results, Tryd.results25, go_sem, XR_0, XR_1, XR_l]) rfl ?_
    rw [HR.out]
    exact RET.no (below_r2 HB.out _ _)
  · rw [hv] at CV
    have HR := Lib.hid hr
    generalize Lib.idxOfS ns s = i at *
    clear hv hr CC CD hn hz
    go_enter Tryd.func25, Tryd.ntmps25
    go_wp2_with fail
    have XA := Lib.hid ((box_new (W := w) (g := w.heap.size) 25 #[v1, v2] (by simp)).below (below_alloc _ (.cells #[.slice none 0 0, .slice none 0 0] 25)))
    have XR := Lib.hid (box_new (W := (w.alloc (.cells #[v1, v2] 25))) (g := w.heap.size + 1) 25 #[.slice none 0 0, .slice none 0 0] (by simp))
    have HB := Lib.hid (below_step (below_alloc w (.cells #[v1, v2] 25)) (below_alloc (w.alloc (.cells #[v1, v2] 25)) (.cells #[.slice none 0 0, .slice none 0 0] 25)))
    generalize (w.alloc (.cells #[v1, v2] 25)).alloc (.cells #[.slice none 0 0, .slice none 0 0] 25) = w1 at *
    refine (CI.out _ (HQ1.out.below HB.out)).mono ?_; rintro e w2 ⟨rfl, rfl⟩
    have XA_0 := XA.out.at_ 0 _ rfl
    have XA_1 := XA.out.at_ 1 _ rfl
    go_wp2_with fail
    refine (CV.out _ (HQ1.out.below HB.out) (HQ2.out.below HB.out) (HK.out.below HB.out) (HM.out.below HB.out)).mono ?_; rintro e w3 ⟨rfl, hb⟩
    clear XA_0 XA_1
    replace XA := Lib.hid (XA.out.below hb)
    replace XR := Lib.hid (XR.out.below hb)
    replace HB := Lib.hid (below_step HB.out hb)
    clear hb
    have XR_0 := XR.out.at_ 0 _ rfl
    have XR_1 := XR.out.at_ 1 _ rfl
    have XR_l := XR.out.lt
    have XR_z0 := XR.out.frozen 0
    have XR_z1 := XR.out.frozen 1
    go_wp2_with fail
    refine bodyPost_ret (v := .tuple #[.agg #[.slice none 0 0, .slice none 0 0], .int .i64 7]) (by simp [results, Tryd.results25, go_sem, XR_0, XR_1, XR_l]) rfl ?_
    rw [HR.out]
    exact RET.no (below_r2 HB.out _ _)
  · rw [hv] at CV
    rw [hw] at CD
    have HR := Lib.hid hr
    generalize Lib.idxOfS ns s = i at *
    have f1 : ¬ i < 0 := by omega
    clear hv hr CC hn hz hi hw
    go_enter Tryd.func25, Tryd.ntmps25
    go_wp2_with fail
    have XA := Lib.hid ((box_new (W := w) (g := w.heap.size) 25 #[v1, v2] (by simp)).below (below_alloc _ (.cells #[.slice none 0 0, .slice none 0 0] 25)))
    have XR := Lib.hid (box_new (W := (w.alloc (.cells #[v1, v2] 25))) (g := w.heap.size + 1) 25 #[.slice none 0 0, .slice none 0 0] (by simp))
    have HB := Lib.hid (below_step (below_alloc w (.cells #[v1, v2] 25)) (below_alloc (w.alloc (.cells #[v1, v2] 25)) (.cells #[.slice none 0 0, .slice none 0 0] 25)))
    generalize (w.alloc (.cells #[v1, v2] 25)).alloc (.cells #[.slice none 0 0, .slice none 0 0] 25) = w1 at *
    refine (CI.out _ (HQ1.out.below HB.out)).mono ?_; rintro e w2 ⟨rfl, rfl⟩
    have XA_0 := XA.out.at_ 0 _ rfl
    have XA_1 := XA.out.at_ 1 _ rfl
    go_wp2_with fail
    refine (CV.out _ (HQ1.out.below HB.out) (HQ2.out.below HB.out) (HK.out.below HB.out) (HM.out.below HB.out)).mono ?_; rintro e w3 ⟨rfl, hb⟩
    clear XA_0 XA_1
    replace XA := Lib.hid (XA.out.below hb)
    replace XR := Lib.hid (XR.out.below hb)
    replace HB := Lib.hid (below_step HB.out hb)
    clear hb
    go_wp2_with fail
    refine (CD.out _).mono ?_; rintro e w4 ⟨rfl, rfl⟩
    have XR_0 := XR.out.at_ 0 _ rfl
    have XR_1 := XR.out.at_ 1 _ rfl
    have XR_l := XR.out.lt
    have XR_z0 := XR.out.frozen 0
    have XR_z1 := XR.out.frozen 1
    go_wp2_with fail
    refine bodyPost_ret (v := .tuple #[.agg #[.slice none 0 0, .slice none 0 0], .int .i64 3]) (by simp [results, Tryd.results25, go_sem, XR_0, XR_1, XR_l]) rfl ?_
    rw [HR.out]
    exact RET.no (below_r2 HB.out _ _)
  · rw [hv] at CV
    rw [hw] at CD
    rw [hi] at CI
    unfold COPY at CC
    have HR := Lib.hid hr
    have HIC := Lib.hid (icells_set zs k v)
    obtain ⟨N, hN⟩ : ∃ N, N = ns.length := ⟨_, rfl⟩
    obtain ⟨M, hM⟩ : ∃ M, M = zs.length := ⟨_, rfl⟩
    rw [← hN] at CC
    rw [← hM] at CC hkz
    have HN := Lib.hid hN
    have HMM := Lib.hid hM
    have f1 : ¬ (k : Int) < 0 := by omega
    have f2 : (0 : Int) ≤ k := by omega
    have f3 : (k : Int) < M := by omega
    clear hv hr hn hz hi hw hk hN hM
    go_enter Tryd.func25, Tryd.ntmps25
    go_wp2_with fail
    have XA := Lib.hid ((box_new (W := w) (g := w.heap.size) 25 #[v1, v2] (by simp)).below (below_alloc _ (.cells #[.slice none 0 0, .slice none 0 0] 25)))
    have XR := Lib.hid (box_new (W := (w.alloc (.cells #[v1, v2] 25))) (g := w.heap.size + 1) 25 #[.slice none 0 0, .slice none 0 0] (by simp))
    have HB := Lib.hid (below_step (below_alloc w (.cells #[v1, v2] 25)) (below_alloc (w.alloc (.cells #[v1, v2] 25)) (.cells #[.slice none 0 0, .slice none 0 0] 25)))
    generalize (w.alloc (.cells #[v1, v2] 25)).alloc (.cells #[.slice none 0 0, .slice none 0 0] 25) = w1 at *
    refine (CI.out _ (HQ1.out.below HB.out)).mono ?_; rintro e w2 ⟨rfl, rfl⟩
    have XA_0 := XA.out.at_ 0 _ rfl
    have XA_1 := XA.out.at_ 1 _ rfl
    go_wp2_with fail
    refine (CV.out _ (HQ1.out.below HB.out) (HQ2.out.below HB.out) (HK.out.below HB.out) (HM.out.below HB.out)).mono ?_; rintro e w3 ⟨rfl, hb⟩
    clear XA_0 XA_1
    replace XA := Lib.hid (XA.out.below hb)
    replace XR := Lib.hid (XR.out.below hb)
    replace HB := Lib.hid (below_step HB.out hb)
    clear hb
    go_wp2_with fail
    refine (CD.out _).mono ?_; rintro e w4 ⟨rfl, rfl⟩
    have XA_0 := XA.out.at_ 0 _ rfl
    have XA_1 := XA.out.at_ 1 _ rfl
    go_wp2_with fail
    have HBIG := Lib.hid XR.out.lt
    refine (CC.out _ (HQ1.out.below HB.out) (HQ2.out.below HB.out)).mono ?_; rintro e w5 ⟨p1, p2, rfl, ho1, ho2, hb⟩
    clear XA_0 XA_1
    replace XR := Lib.hid (XR.out.below hb)
    replace HB := Lib.hid (below_step HB.out hb)
    clear hb
    have O1 := Lib.hid ho1
    have O2 := Lib.hid ho2
    obtain ⟨A1, c1, rfl⟩ := own_slice ho1
    obtain ⟨g2, c2, rfl, hg2, hl2⟩ := ho2.form (by omega)
    have q1 : w5.cell? ⟨g2, k, none⟩ = some (.int .i64 (zs.getD k 0)) := by
      rw [ho2.cellAt k (by omega)]
      have hk2 : k < zs.length := by rw [← HMM.out]; exact hkz
      simp [icells, List.getD_eq_getElem?_getD, List.getElem?_eq_getElem hk2]
    have q2 : w5.frozen? ⟨g2, k, none⟩ = false := ho2.frozenAt k
    have hne : ¬ g2 = w5.heap.size := by omega
    have hne2 : ¬ w5.heap.size = g2 := by omega
    have hbig := HBIG.out
    have hne3 : ¬ g2 = w.heap.size + 1 := by omega
    have hne4 : ¬ w.heap.size + 1 = g2 := by omega
    have hlt3 : w.heap.size + 1 < w5.heap.size := by omega
    clear ho1 ho2
    have XR_0 := XR.out.at_ 0 _ rfl
    have XR_1 := XR.out.at_ 1 _ rfl
    have XR_l := XR.out.lt
    have XR_z0 := XR.out.frozen 0
    have XR_z1 := XR.out.frozen 1
    go_wp2_with fail
    refine bodyPost_ret (v := .tuple #[.agg #[.slice A1 N c1, .slice (some ⟨g2, 0, none⟩) M c2], .int .i64 0]) (by simp [results, Tryd.results25, go_sem, XR_0, XR_1, XR_l, hne3, hne4]) rfl ?_
    rw [HR.out]
    obtain ⟨o2, hg⟩ := O2.out.stored k (.int .i64 v)
    have o1 := O1.out.kept hg (rows_apart O1.out O2.out (by decide))
    rw [← HIC.out] at o2
    have hb1 := HB.out.setCell (p := ⟨g2, k, none⟩) (by show w.heap.size ≤ g2; omega) (.int .i64 v)
    have hb2 := below_r2 hb1 (.slice A1 N c1) (.slice (some ⟨g2, 0, none⟩) M c2)
    refine ⟨_, _, rfl, ?_, ?_, hb2.alloc hb2.size _⟩
    · exact SL.of_own ((own_setNe (g := w.heap.size + 1) (a := ⟨w.heap.size + 1, 1, none⟩) (own_setNe (g := w.heap.size + 1) (a := ⟨w.heap.size + 1, 0, none⟩) o1 rfl hbig) rfl hbig).alloc _)
    · exact IL.of_own ((own_setNe (g := w.heap.size + 1) (a := ⟨w.heap.size + 1, 1, none⟩) (own_setNe (g := w.heap.size + 1) (a := ⟨w.heap.size + 1, 0, none⟩) o2 rfl hbig) rfl hbig).alloc _)

end Go.Proofs.YtbjcbndmafddoaaDoor

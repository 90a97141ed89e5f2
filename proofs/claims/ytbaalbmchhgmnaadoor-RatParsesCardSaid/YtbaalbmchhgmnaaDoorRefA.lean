/-
  Contracts of the reference's rational numbers: Make, Valid, cross, sum.
-/
import Derived.Test.YtbaalbmchhgmnaaDoorBigE
import Derived.Test.YtbaalbmchhgmnaaDoorRatB
import Derived.Test.YtbaalbmchhgmnaaDoorGen
namespace Go.Proofs.YtbaalbmchhgmnaaDoor
open Go.RowKit
set_option linter.unusedVariables false
set_option linter.unusedSimpArgs false

/-- A slice of as many digits as a number has. -/
def SL (n : Nat) (v : Value) : Prop := ∃ A c, v = .slice A (dg n).length c
theorem SL.of {w : World} {v : Value} {n : Nat} (h : BN w v n) : SL n v := by obtain ⟨A, c, rfl, _⟩ := h; exact ⟨A, c, rfl⟩
theorem SL.ne (n : Nat) : ∃ v, SL n v := ⟨.slice none _ 0, none, 0, rfl⟩
/-- A block without integers is none of a number's. -/
def NoInt (cs : Array Value) : Prop := ∀ (i : Nat) (x : Int), cs[i]? ≠ some (.int .i64 x)
theorem noInt2 (b : Bool) (A : Option Addr) (n c : Nat) : NoInt #[.bool b, .slice A n c] := fun i x => by
  match i with
  | 0 => simp
  | 1 => simp
  | i + 2 => simp
theorem IL.set_box {w : World} {v : Value} {zs : List Int} {g : Nat} {cs : Array Value} {t : TypeId} (h : IL w v zs) (hb : Box w g cs t) (hn : NoInt cs) (i : Nat) (u : Value) : IL (w.setCell ⟨g, i, none⟩ u) v zs := by
  obtain ⟨A, c, rfl, hc, hs⟩ := h
  refine ⟨A, c, rfl, hc, fun hl => ?_⟩
  obtain ⟨a, ha, hlt, hcl⟩ := hs hl
  refine ⟨a, ha, by simpa [World.setCell] using hlt, fun j hj => ?_⟩
  have h1 := hcl j hj
  have hne : a.block ≠ g := fun hg => by
    unfold World.cell? at h1
    rw [block_of_add, hg, show w.heap[g]? = _ from hb] at h1
    simp only at h1
    split at h1
    · cases h1
    · exact hn _ _ h1
  rw [World.cell?_setCell_other w ⟨g, i, none⟩ _ u (fun e => hne (by rw [← block_of_add a j, ← e]))]
  exact h1
theorem BN.set_box {w : World} {v : Value} {n g : Nat} {cs : Array Value} {t : TypeId} (h : BN w v n) (hb : Box w g cs t) (hn : NoInt cs) (i : Nat) (u : Value) : BN (w.setCell ⟨g, i, none⟩ u) v n := IL.set_box h hb hn i u
/-- A number with a sign, as a result. -/
def SGN (w : World) (s : Bool) (n : Nat) (e : Ending) (w' : World) : Prop := ∃ v, e = .returned (.agg #[.bool s, v]) ∧ (BN w' v n ∧ Below w.heap.size w w')
def fBN (j : Nat) (D : List Nat) (n : Nat) : FOp := ⟨j, D, SL n, fun v w => BN w v n⟩
theorem fBN_st (j : Nat) (D : List Nat) (n : Nat) : ∀ v w w', (fBN j D n).Φ v w → Below w.heap.size w w' → (fBN j D n).Φ v w' := fun v w w' h hb => BN.below h hb
theorem fBN_kn (j : Nat) (D : List Nat) (n : Nat) : (∀ u w, (fBN j D n).Φ u w → (fBN j D n).S u) ∧ ∃ u, (fBN j D n).S u := ⟨fun u w h => SL.of h, SL.ne n⟩

def fSG (j : Nat) (D : List Nat) (s : Bool) (n : Nat) : FOp := ⟨j, D, fun v => ∃ A c, v = .agg #[.bool s, .slice A (dg n).length c], fun v w => ∃ v', v = .agg #[.bool s, v'] ∧ BN w v' n⟩
theorem fSG_st (j : Nat) (D : List Nat) (s : Bool) (n : Nat) : ∀ v w w', (fSG j D s n).Φ v w → Below w.heap.size w w' → (fSG j D s n).Φ v w' := fun v w w' ⟨v', e, h⟩ hb => ⟨v', e, BN.below h hb⟩
theorem fSG_kn (j : Nat) (D : List Nat) (s : Bool) (n : Nat) : (∀ u w, (fSG j D s n).Φ u w → (fSG j D s n).S u) ∧ ∃ u, (fSG j D s n).S u :=
  ⟨fun u w ⟨v', e, h⟩ => by obtain ⟨A, c, e'⟩ := SL.of h; exact ⟨A, c, by rw [e, e']⟩, ⟨_, none, 0, rfl⟩⟩
def fVal (j : Nat) (D : List Nat) (v : Value) : FOp := ⟨j, D, fun u => u = v, fun u w => u = v⟩
theorem fVal_st (j : Nat) (D : List Nat) (v : Value) : ∀ u w w', (fVal j D v).Φ u w → Below w.heap.size w w' → (fVal j D v).Φ u w' := fun u w w' h _ => h
theorem fVal_kn (j : Nat) (D : List Nat) (v : Value) : (∀ u w, (fVal j D v).Φ u w → (fVal j D v).S u) ∧ ∃ u, (fVal j D v).S u := ⟨fun u w h => h, v, rfl⟩
def fBox (j : Nat) (B : Nat) (cs : Array Value) (T : TypeId) : FOp := ⟨j, [], fun v => ∃ g, v = .pointer (some ⟨g, 0, none⟩), fun v w => ∃ g, v = .pointer (some ⟨g, 0, none⟩) ∧ Box w g cs T ∧ B ≤ g⟩
theorem fBox_st (j : Nat) (B : Nat) (cs : Array Value) (T : TypeId) : ∀ u w w', (fBox j B cs T).Φ u w → Below w.heap.size w w' → (fBox j B cs T).Φ u w' := fun u w w' ⟨g, e, h, hB⟩ hb => ⟨g, e, h.below hb, hB⟩
theorem fBox_kn (j : Nat) (B : Nat) (cs : Array Value) (T : TypeId) : (∀ u w, (fBox j B cs T).Φ u w → (fBox j B cs T).S u) ∧ ∃ u, (fBox j B cs T).S u := ⟨fun u w ⟨g, e, _⟩ => ⟨g, e⟩, _, 0, rfl⟩

set_option maxRecDepth 100000 in
set_option maxHeartbeats 4000000 in
theorem refCross (an ad bn bd : Int) (w : World) (h1 : I64 an) (h2 : I64 bd) :
    Calls Tryd.prog 42 #[.agg #[.int .i64 an, .int .i64 ad], .agg #[.int .i64 bn, .int .i64 bd]] w (SGN w (decide (an < 0)) (an.natAbs * bd.natAbs)) := by
  have S1 := Lib.hid (fun w => bigSize w an h1.1 h1.2)
  have S2 := Lib.hid (fun w => bigSize w bd h2.1 h2.2)
  have lx : an.natAbs < PW 60 := by unfold I64 at h1; show an.natAbs < 10000 ^ 60; omega
  have ly : bd.natAbs < PW 60 := by unfold I64 at h2; show bd.natAbs < 10000 ^ 60; omega
  have T : Hid (∀ w v1 v2, BN w v1 an.natAbs → BN w v2 bd.natAbs → Calls Tryd.prog 43 #[v1, v2] w (BL w (an.natAbs * bd.natAbs))) := Lib.hid fun w v1 v2 h1 h2 => bigTimes w v1 v2 _ _ h1 h2 lx ly
  obtain ⟨sa, hsa⟩ : ∃ s : Bool, s = decide (an < 0) := ⟨_, rfl⟩
  have f1 : decide (an < 0) = sa := hsa.symm
  rw [← hsa]
  obtain ⟨x, hx⟩ : ∃ x, x = an.natAbs := ⟨_, rfl⟩
  obtain ⟨y, hy⟩ : ∃ y, y = bd.natAbs := ⟨_, rfl⟩
  rw [← hx] at S1 T ⊢
  rw [← hy] at S2 T ⊢
  clear h1 h2 lx ly hsa hx hy
  go_enter Tryd.func42, Tryd.ntmps42
  go_wp2_with fail
  have XA := Lib.hid (((Box.new w 23 #[.int .i64 an, .int .i64 ad]).below (below_alloc _ (.cells #[.int .i64 bn, .int .i64 bd] 23))).below (below_alloc _ (.cells #[.bool false, .slice none 0 0] 53)))
  have XB := Lib.hid ((box1 w (.cells #[.int .i64 an, .int .i64 ad] 23) 23 #[.int .i64 bn, .int .i64 bd]).below (below_alloc _ (.cells #[.bool false, .slice none 0 0] 53)))
  have XR := Lib.hid (box2 w (.cells #[.int .i64 an, .int .i64 ad] 23) (.cells #[.int .i64 bn, .int .i64 bd] 23) 53 #[.bool false, .slice none 0 0])
  have HB := Lib.hid (below_step (below_step (below_alloc w (.cells #[.int .i64 an, .int .i64 ad] 23)) (below_alloc _ (.cells #[.int .i64 bn, .int .i64 bd] 23))) (below_alloc _ (.cells #[.bool false, .slice none 0 0] 53)))
  generalize ((w.alloc (.cells #[.int .i64 an, .int .i64 ad] 23)).alloc (.cells #[.int .i64 bn, .int .i64 bd] 23)).alloc (.cells #[.bool false, .slice none 0 0] 53) = w1 at *
  refine wp_region_gen 11 (Kit.of [fBN 5 [] x, fBN 8 [] y, fBN 9 [5, 8] (x * y)]) (by kernel_rfl) (by kernel_rfl) (fun γ => by kernel_rfl) (by kernel_rfl) (Kit.of_stable ?_) (Kit.of_known ?_) ?_
  · intro z hz; simp only [List.mem_cons, List.not_mem_nil, or_false] at hz; rcases hz with rfl | rfl | rfl
    · apply fBN_st
    · apply fBN_st
    · apply fBN_st
  · intro z hz; simp only [List.mem_cons, List.not_mem_nil, or_false] at hz; rcases hz with rfl | rfl | rfl
    · apply fBN_kn
    · apply fBN_kn
    · apply fBN_kn
  intro γ hγ C hC hne
  obtain ⟨A5, c5, e5⟩ : SL x (γ 5) := hγ 5 rfl
  obtain ⟨A8, c8, e8⟩ : SL y (γ 8) := hγ 8 rfl
  obtain ⟨A9, c9, e9⟩ : SL (x * y) (γ 9) := hγ 9 rfl
  have l0 := XA.out.latC (C := C) 0 _ rfl
  have l1 := XB.out.latC (C := C) 1 _ rfl
  simp only [List.take_succ_cons, List.take_zero, List.drop_succ_cons, List.drop_zero]
  iterate 5 (refine wpF_quiet rfl ?_; go_big_quiet_step (fail); refine wpQuiet_nil ?_)
  refine wpF_fresh rfl (freshAt_call (args := #[.int .i64 an]) rfl _ _ _ (run_go Tryd.func38 (by kernel_rfl) (by kernel_rfl)) rfl (by simp [Act.eval]) (fun w' hb hf => (S1.out w').mono fun e w2 ⟨v, he, h1, h2⟩ => ⟨v, he, h1, h2⟩)) ?_
  simp only [Nat.zero_add, Nat.reduceAdd, e5]
  go_simp
  iterate 2 (refine wpF_quiet rfl ?_; go_big_quiet_step (fail); refine wpQuiet_nil ?_)
  refine wpF_fresh rfl (freshAt_call (args := #[.int .i64 bd]) rfl _ _ _ (run_go Tryd.func38 (by kernel_rfl) (by kernel_rfl)) rfl (by simp [Act.eval]) (fun w' hb hf => (S2.out w').mono fun e w2 ⟨v, he, h1, h2⟩ => ⟨v, he, h1, h2⟩)) ?_
  simp only [Nat.zero_add, Nat.reduceAdd, e8]
  go_simp
  refine wpF_fresh rfl (freshAt_call (args := #[.slice A5 (dg x).length c5, .slice A8 (dg y).length c8]) rfl _ _ _ (run_go Tryd.func43 (by kernel_rfl) (by kernel_rfl)) rfl (by simp [Act.eval]) (fun w' hb hf => (T.out w' _ _ (by have h5 : BN w' (γ 5) x := hf 5 (show 5 ∈ [5, 8] by decide); rwa [e5] at h5) (by have h8 : BN w' (γ 8) y := hf 8 (show 8 ∈ [5, 8] by decide); rwa [e8] at h8)).mono fun e w2 ⟨v, he, h1, h2⟩ => ⟨v, he, h1, h2⟩)) ?_
  simp only [Nat.zero_add, Nat.reduceAdd, e9]
  go_simp
  iterate 1 (refine wpF_quiet rfl ?_; go_big_quiet_step (fail); refine wpQuiet_nil ?_)
  intro w2 hb2 hF
  have F9 : BN w2 (γ 9) (x * y) := hF 9 (by decide) rfl
  rw [e9] at F9
  have HF := Lib.hid F9
  have YR := XR.out.below hb2
  have HB2 := Lib.hid (below_step HB.out hb2)
  have y0 := YR.at_ 0 _ rfl
  have y1 := YR.at_ 1 _ rfl
  have z0 := YR.frozen 0
  have z1 := YR.frozen 1
  have HYR := Lib.hid YR
  clear l0 l1 hF F9 hb2 e5 e8 e9 hγ hC hne YR
  go_wp2_with fail
  refine bodyPost_ret (v := .agg #[.bool sa, .slice A9 (dg (x * y)).length c9]) (by simp [results, Tryd.results42, go_sem, y0, y1]) rfl ⟨_, rfl, ?_, ?_⟩
  · exact (HF.out.set_box HYR.out (noInt2 _ _ _ _) 0 (.bool sa)).set_box (HYR.out.set_ 0 (.bool sa)) (noInt2 _ _ _ _) 1 _
  · exact (HB2.out.setCell (by simp; omega) _).setCell (by simp; omega) _

end Go.Proofs.YtbaalbmchhgmnaaDoor

/-
  Rows of integers of the call's own; contracts of wave.Get and wave.Changes.
-/
import Derived.Test.YthpioaboekpjoaaDoorWavB
import Derived.Test.YthpioaboekpjoaaDoorGenM
namespace Go.Proofs.YthpioaboekpjoaaDoor
open Go.RowKit
set_option linter.unusedVariables false
set_option linter.unusedSimpArgs false

/-- An integer alone. -/
def intR : Rd Int where
  k := 1
  ts := []
  pos := by decide
  R := fun w us z F => us = [.int .i64 z]
  len := fun h => by rw [h]; rfl
  one := fun h u hu => by rw [h] at hu; simp at hu; subst hu; rfl
  mono := fun h _ => h
  same := fun h _ _ => h
theorem Rs.il {w : World} {v : Value} {l : List Int} {F : Nat → Prop} (h : Rs intR w v l F) : IL w v l := by
  obtain ⟨A, c, rfl, hc, h⟩ := h
  refine ⟨A, c, rfl, hc, fun hl => ?_⟩
  obtain ⟨b, o, rfl, hb, h⟩ := h hl
  refine ⟨⟨b, o, none⟩, rfl, hb, fun j hj => ?_⟩
  obtain ⟨us, h1, h2⟩ := h j _ (List.getElem?_eq_getElem hj)
  have h3 := h1 0 (by decide)
  have h2' : us = [.int .i64 l[j]] := h2
  rw [h2', Nat.add_zero] at h3
  have e : intR.k = 1 := rfl
  rw [e, Nat.mul_one] at h3
  rw [add_plain, h3, List.getD_eq_getElem?_getD, List.getElem?_eq_getElem hj]; rfl
theorem OG.il {w : World} {B C : Nat} {T : TypeId} {v : Value} {l : List Int} (h : OG intR w B C T v l) : IL w v l := h.any.il
theorem OG.inT {w : World} {B C : Nat} {v : Value} {l : List Int} (h : OG intR w B C 3 v l) (C' : Nat) : In (Ty w C' ilR.ts) v l.length := fun hl b hb => by
  obtain ⟨_, uss, _, ho, _⟩ := h
  exact Ty.own ho (by decide) b hb
theorem OG.rowR {w : World} {B C : Nat} {v : Value} {l : List Int} (h : OG intR w B C 3 v l) (C' : Nat) : ilR.R w [v] l (Ty w C' ilR.ts) := ⟨v, rfl, h.il, h.inT C'⟩
theorem iint3 : (Tryd.prog.info? 3).map (fun i => (i.zero, i.size, i.bytes)) = some (some (.int .i64 0), 1, 8) := by kernel_rfl

def ret2b (r : Int × Bool) : Ending := .returned (.tuple #[.int .i64 r.1, .bool r.2])
/-! Get. -/
set_option maxRecDepth 100000 in
set_option maxHeartbeats 8000000 in
theorem wavGet (w : World) (v1 v2 : Value) (ns : List ByteArray) (rs : List (List Int)) (s : ByteArray) (t : Int) (h1 : SL w v1 ns) (h2 : Rs ilR w v2 rs anyB) (hz : WZ ns rs) (ht : I64 t) (hk : KW w) (hm : MLen w) :
    Calls Tryd.prog 19 #[.agg #[v1, v2], .string s, .int .i64 t] w fun e w' => e = ret2b (wgT ns rs s t) ∧ Below w.heap.size w w' := by
  have CI := Lib.hid (fun W (hW : Below w.heap.size w W) => slIndex W v1 ns s (h1.below hW) hz.1)
  have CV := Lib.hid (fun W (hW : Below w.heap.size w W) => wavValid W v1 v2 ns rs (h1.below hW) (h2.below hW) hz (hk.below hW) (hm.below hW))
  have HI := idx_bd ns s
  have HG : Hid (wgT ns rs s t = if wvV ns rs = false ∨ Lib.idxOfS ns s < 0 ∨ t < 0 ∨ (rs.length : Int) ≤ t then (0, false) else ((rs.getD t.toNat []).getD (Lib.idxOfS ns s).toNat 0, true)) := Lib.hid rfl
  have HW : Hid (wvV ns rs = true → ∀ k, k < rs.length → (rs.getD k []).length = ns.length) := Lib.hid fun h k hk => ((of_decide_eq_true h : WvV ns rs).2.2.2 _ (getD_mem [] hk)).1
  have HX := Lib.hid (fun W (hW : Below w.heap.size w W) => (h2.below hW).ils)
  obtain ⟨A2, c2, rfl, hc2⟩ := h2.slice
  obtain ⟨A1, c1, rfl, hc1, -⟩ := h1
  have n2 := hz.2.1
  obtain ⟨N, hN⟩ : ∃ N, N = ns.length := ⟨_, rfl⟩
  obtain ⟨M, hM⟩ : ∃ M, M = rs.length := ⟨_, rfl⟩
  have HMM := Lib.hid hM
  rw [← hN] at HI HW CI CV ⊢
  rw [← hM] at HG CV HX n2 ⊢
  generalize wgT ns rs s t = r at *
  generalize Lib.idxOfS ns s = i at *
  generalize wvV ns rs = vb at *
  obtain ⟨t0, t1⟩ := ht
  clear hk hm hz hc1 hc2 hN hM h2
  have hway : (vb = false) ∨ (vb = true ∧ i < 0) ∨ (vb = true ∧ ¬ i < 0 ∧ t < 0) ∨ (vb = true ∧ ¬ i < 0 ∧ ¬ t < 0 ∧ (M : Int) ≤ t) ∨ (vb = true ∧ ¬ i < 0 ∧ ¬ t < 0 ∧ ¬ (M : Int) ≤ t) := by
    cases vb
    · exact .inl rfl
    · right
      by_cases a : i < 0
      · exact .inl ⟨rfl, a⟩
      · right
        by_cases b : t < 0
        · exact .inl ⟨rfl, a, b⟩
        · right
          by_cases c : (M : Int) ≤ t
          · exact .inl ⟨rfl, a, b, c⟩
          · exact .inr ⟨rfl, a, b, c⟩
  go_enter Tryd.func19, Tryd.ntmps19
  go_upto_region 1 with fail
  have XA := Lib.hid (box_new (W := w) (g := w.heap.size) 26 #[.slice A1 N c1, .slice A2 M c2] (by simp))
  have HB := Lib.hid (below_alloc w (.cells #[.slice A1 N c1, .slice A2 M c2] 26))
  generalize w.alloc (.cells #[.slice A1 N c1, .slice A2 M c2] 26) = w1 at *
  have XA_0 := XA.out.at_ 0 _ rfl
  have XA_1 := XA.out.at_ 1 _ rfl
  go_wp2_with fail
  refine (CI.out _ HB.out).mono ?_; rintro e w2 ⟨rfl, rfl⟩
  clear CI
  clear XA_0 XA_1
  have XA_0 := XA.out.at_ 0 _ rfl
  have XA_1 := XA.out.at_ 1 _ rfl
  go_wp2_with fail
  refine (CV.out _ HB.out).mono ?_; rintro e w3 ⟨rfl, hb⟩
  clear XA_0 XA_1
  replace XA := Lib.hid (XA.out.below hb)
  replace HB := Lib.hid (below_step HB.out hb)
  clear hb
  clear CV
  have XA_1 := XA.out.at_ 1 _ rfl
  rcases hway with rfl | ⟨rfl, a⟩ | ⟨rfl, a, b⟩ | ⟨rfl, a, b, c⟩ | ⟨rfl, a, b, c⟩
  · have HR : Hid (r = (0, false)) := Lib.hid (by rw [HG.out, if_pos (.inl rfl)])
    clear HG HW HX
    go_wp2_with fail
    go_ret2
    exact ⟨by rw [HR.out]; rfl, HB.out⟩
  · have HR : Hid (r = (0, false)) := Lib.hid (by rw [HG.out, if_pos (.inr (.inl a))])
    clear HG HW HX
    go_wp2_with fail
    go_ret2
    exact ⟨by rw [HR.out]; rfl, HB.out⟩
  · have HR : Hid (r = (0, false)) := Lib.hid (by rw [HG.out, if_pos (.inr (.inr (.inl b)))])
    clear HG HW HX
    go_wp2_with fail
    go_ret2
    exact ⟨by rw [HR.out]; rfl, HB.out⟩
  · have HR : Hid (r = (0, false)) := Lib.hid (by rw [HG.out, if_pos (.inr (.inr (.inr c)))])
    clear HG HW HX
    go_wp2_with fail
    go_ret2
    exact ⟨by rw [HR.out]; rfl, HB.out⟩
  · obtain ⟨k, rfl⟩ : ∃ k : Nat, t = k := ⟨t.toNat, by omega⟩
    obtain ⟨j, rfl⟩ : ∃ j : Nat, i = j := ⟨i.toNat, by omega⟩
    have hkm : k < rs.length := by rw [← HMM.out]; omega
    have hlk := HW.out rfl k hkm
    have HR : Hid (r = ((rs.getD k []).getD j 0, true)) := Lib.hid (by
      rw [HG.out, if_neg (by simp only [not_or]; exact ⟨by decide, by omega, by omega, by omega⟩)]
      simp only [Int.toNat_natCast])
    obtain ⟨A', c', e', -, hx⟩ := HX.out _ HB.out
    simp only [Value.slice.injEq] at e'
    obtain ⟨rfl, -, rfl⟩ := e'
    obtain ⟨b, o, u, rfl, hbl, q0, hu, -⟩ := hx k (by omega)
    obtain ⟨E, e1, rfl, hE, hc⟩ := hu
    obtain ⟨a2, rfl, ha2, hcell⟩ := hc (by omega)
    have q1 := hcell j (by omega)
    have f1 : (0 : Int) ≤ (k : Int) := by omega
    have f2 : (k : Int) < (M : Int) := by omega
    have f3 : (0 : Int) ≤ (j : Int) := by omega
    have f4 : (j : Int) < (((rs.getD k []).length : Nat) : Int) := by omega
    have f5 : k < M := by omega
    have f6 : j < (rs.getD k []).length := by omega
    generalize (rs.getD k []).length = L at *
    generalize (rs.getD k []).getD j 0 = z at *
    clear HG HW HX hx hc hcell hbl ha2 hE hkm
    go_wp2_with fail
    go_ret2
    exact ⟨by rw [HR.out]; rfl, HB.out⟩

/-! Changes. -/
def chK (rs : List (List Int)) (j k : Nat) : List Int := ((List.range k).filter (chg rs j)).map Int.ofNat
theorem chK_step (rs : List (List Int)) (j k : Nat) : chK rs j (k + 1) = if chg rs j k then chK rs j k ++ [(k : Int)] else chK rs j k := by
  unfold chK
  rw [List.range_succ, List.filter_append, List.map_append, List.filter_cons]
  cases chg rs j k <;> simp
theorem chK_len (rs : List (List Int)) (j k : Nat) : (chK rs j k).length ≤ k := by
  unfold chK
  rw [List.length_map]
  exact Nat.le_trans (List.length_filter_le _ _) (by simp)
theorem whT_eq {ns : List ByteArray} {rs : List (List Int)} {s : ByteArray} {j : Nat} (h : wvV ns rs = true) (hi : Lib.idxOfS ns s = j) : whT ns rs s = chK rs j rs.length := by
  unfold whT
  rw [if_neg (by rw [h, hi]; simp only [not_or]; exact ⟨by decide, by omega⟩), hi]; rfl

set_option maxRecDepth 100000 in
set_option maxHeartbeats 8000000 in
theorem wavChanges (w : World) (v1 v2 : Value) (ns : List ByteArray) (rs : List (List Int)) (s : ByteArray) (h1 : SL w v1 ns) (h2 : Rs ilR w v2 rs anyB) (hz : WZ ns rs) (hk : KW w) (hm : MLen w) :
    Calls Tryd.prog 25 #[.agg #[v1, v2], .string s] w fun e w' => ∃ v, e = .returned v ∧ IL w' v (whT ns rs s) ∧ Below w.heap.size w w' := by
  have CI := Lib.hid (fun W (hW : Below w.heap.size w W) => slIndex W v1 ns s (h1.below hW) hz.1)
  have CV := Lib.hid (fun W (hW : Below w.heap.size w W) => wavValid W v1 v2 ns rs (h1.below hW) (h2.below hW) hz (hk.below hW) (hm.below hW))
  have HI := idx_bd ns s
  have HW : Hid (wvV ns rs = true → rs.length ≤ 4096 ∧ ∀ k, k < rs.length → (rs.getD k []).length = ns.length) := Lib.hid fun h => ⟨(of_decide_eq_true h : WvV ns rs).2.1, fun k hk => ((of_decide_eq_true h : WvV ns rs).2.2.2 _ (getD_mem [] hk)).1⟩
  have HX := Lib.hid (fun W (hW : Below w.heap.size w W) => (h2.below hW).ils)
  have H0 : Hid ((wvV ns rs = false ∨ Lib.idxOfS ns s < 0) → whT ns rs s = []) := Lib.hid fun h => by unfold whT; rw [if_pos h]
  have HT : Hid (∀ j : Nat, wvV ns rs = true → Lib.idxOfS ns s = j → whT ns rs s = chK rs j rs.length) := Lib.hid fun j a b => whT_eq a b
  obtain ⟨i0, hi, hz0, hz1, hz2⟩ := info_parts iint3
  have JI := Lib.hid hi
  have JZ0 := Lib.hid hz0
  have JZ1 := Lib.hid hz1
  have JZ2 := Lib.hid hz2
  clear hi hz0 hz1 hz2
  obtain ⟨A2, c2, rfl, hc2⟩ := h2.slice
  obtain ⟨A1, c1, rfl, hc1, -⟩ := h1
  have n2 := hz.2.1
  obtain ⟨N, hN⟩ : ∃ N, N = ns.length := ⟨_, rfl⟩
  obtain ⟨M, hM⟩ : ∃ M, M = rs.length := ⟨_, rfl⟩
  have HMM := Lib.hid hM
  rw [← hN] at HI HW CI CV ⊢
  rw [← hM] at HW CV HX HT n2 ⊢
  generalize whT ns rs s = r at *
  generalize Lib.idxOfS ns s = i at *
  generalize wvV ns rs = vb at *
  clear hk hm hz hc1 hc2 hN hM h2
  have hway : (vb = false) ∨ (vb = true ∧ i < 0) ∨ (vb = true ∧ ¬ i < 0) := by
    cases vb
    · exact .inl rfl
    · right
      by_cases a : i < 0
      · exact .inl ⟨rfl, a⟩
      · exact .inr ⟨rfl, a⟩
  go_enter Tryd.func25, Tryd.ntmps25
  go_upto_region 1 with fail
  have XA := Lib.hid (box_new (W := w) (g := w.heap.size) 26 #[.slice A1 N c1, .slice A2 M c2] (by simp))
  have HB := Lib.hid (below_alloc w (.cells #[.slice A1 N c1, .slice A2 M c2] 26))
  generalize w.alloc (.cells #[.slice A1 N c1, .slice A2 M c2] 26) = w1 at *
  have XA_0 := XA.out.at_ 0 _ rfl
  have XA_1 := XA.out.at_ 1 _ rfl
  go_wp2_with fail
  refine (CI.out _ HB.out).mono ?_; rintro e w2 ⟨rfl, rfl⟩
  clear CI
  clear XA_0 XA_1
  have XA_0 := XA.out.at_ 0 _ rfl
  have XA_1 := XA.out.at_ 1 _ rfl
  go_wp2_with fail
  refine (CV.out _ HB.out).mono ?_; rintro e w3 ⟨rfl, hb⟩
  clear XA_0 XA_1
  replace XA := Lib.hid (XA.out.below hb)
  replace HB := Lib.hid (below_step HB.out hb)
  clear hb
  clear CV
  have XA_1 := XA.out.at_ 1 _ rfl
  rcases hway with rfl | ⟨rfl, a⟩ | ⟨rfl, a⟩
  · have HR := Lib.hid (H0.out (.inl rfl))
    clear H0 HT HW HX
    go_wp2_with fail
    go_ret
    exact ⟨_, rfl, by rw [HR.out]; exact IL.nil _, HB.out⟩
  · have HR := Lib.hid (H0.out (.inr a))
    clear H0 HT HW HX
    go_wp2_with fail
    go_ret
    exact ⟨_, rfl, by rw [HR.out]; exact IL.nil _, HB.out⟩
  · obtain ⟨j, rfl⟩ : ∃ j : Nat, i = j := ⟨i.toNat, by omega⟩
    have HR := Lib.hid (HT.out j rfl rfl)
    obtain ⟨hM4, hrow⟩ := HW.out rfl
    have HROW := Lib.hid hrow
    have CS := Lib.hid (chK_step rs j)
    have CL := Lib.hid (chK_len rs j)
    have C0 : Hid (chK rs j 0 = []) := Lib.hid rfl
    have CG : Hid (∀ k, chg rs j k = (decide (k = 0) || decide ((rs.getD k []).getD j 0 ≠ (rs.getD (k - 1) []).getD j 0))) := Lib.hid fun k => rfl
    generalize chK rs j = ch at *
    generalize chg rs j = cg at *
    obtain ⟨hi1, hi2⟩ := HI
    have hj2 : j < N := by omega
    clear hi1 hi2 H0 HT HW hrow
    go_wp2_with fail
    clear XA_1
    go_loopw [6, 23] (fun ov i wr => ∃ k : Nat, k ≤ M ∧ i = .int .i64 k ∧ OG intR wr w.heap.size 0 3 ov (ch k) ∧ Box wr w.heap.size #[.slice A1 N c1, .slice A2 M c2] 26 ∧ Below w.heap.size w wr) (fun _ i _ => M - (intOf i).toNat)
    case atStart => exact ⟨0, Nat.zero_le _, rfl, by rw [C0.out]; exact OG.nil intR _ _ _ _ (by decide) (Nat.zero_le _), XA.out, HB.out⟩
    case round =>
      clear HB XA
      obtain ⟨k, hk, rfl, hog, hxa, hb⟩ := hrel
      have XA := Lib.hid hxa
      have HB := Lib.hid hb
      have HOG := Lib.hid hog
      obtain ⟨OA, oc, rfl⟩ := hog.slice
      clear hb hxa hog
      by_cases hlt : k < M
      · have hlt2 : (k : Int) < M := by omega
        have hk0 : (0 : Int) ≤ (k : Int) := by omega
        have hkn : k < rs.length := by rw [← HMM.out]; exact hlt
        obtain ⟨A', c', e', -, hx⟩ := HX.out _ HB.out
        simp only [Value.slice.injEq] at e'
        obtain ⟨rfl, -, rfl⟩ := e'
        obtain ⟨b, o, u, rfl, hbl, q0, hu, -⟩ := hx k hlt
        have hlk := HROW.out k hlt
        have CSk := Lib.hid (CS.out k)
        have CGk := Lib.hid (CG.out k)
        have CLk := Lib.hid (CL.out k)
        obtain ⟨E, e1, rfl, hE, hc⟩ := id hu
        rw [hlk] at hE hc q0
        obtain ⟨a2, rfl, ha2, hcell⟩ := hc (by omega)
        have q1 := hcell j hj2
        obtain ⟨L, hL⟩ : ∃ L, L = (ch k).length := ⟨_, rfl⟩
        have HLL := Lib.hid hL
        rw [← hL] at HOG CLk ⊢
        have y1 : ∀ x : Lat wr, x.w.cell? (a2.add j) = some (.int .i64 ((rs.getD k []).getD j 0)) := fun x => by rw [x.h.cell (by rw [block_of_add]; exact ha2)]; exact q1
        have f3 : (0 : Int) ≤ (j : Int) := by omega
        have f4 : (j : Int) < (N : Int) := by omega
        obtain ⟨wo, rfl⟩ : ∃ wo : World, wo = wr := ⟨_, rfl⟩
        have key : (k = 0) ∨ ∃ q : Nat, k = q + 1 := by
          cases k with
          | zero => exact .inl rfl
          | succ q => exact .inr ⟨q, rfl⟩
        have XAL := XA.out.lat 1 _ rfl
        have HBO := Lib.hid (Below.refl wo.heap.size wo)
        have key2 : (k = 0 ∧ cg k = true) ∨ ∃ q : Nat, k = q + 1 ∧ q < M ∧ cg k = decide ((rs.getD k []).getD j 0 ≠ (rs.getD q []).getD j 0) := by
          rcases key with h0 | ⟨q, hq⟩
          · exact .inl ⟨h0, by rw [CGk.out, decide_eq_true h0, Bool.true_or]⟩
          · refine .inr ⟨q, hq, by omega, ?_⟩
            rw [CGk.out, decide_eq_false (by omega), Bool.false_or, hq, Nat.add_sub_cancel]
        have HQ : Hid (∀ q, q < M → ∃ (a3 : Addr) (e3 : Nat), (∀ x : Lat wo, x.w.cell? ⟨b, o + q, none⟩ = some (.slice (some a3) N e3)) ∧ ∀ x : Lat wo, x.w.cell? (a3.add j) = some (.int .i64 ((rs.getD q []).getD j 0))) := Lib.hid fun q hq => by
          obtain ⟨b', o', u', e', hbl', q0', hu', -⟩ := hx q hq
          simp only [Option.some.injEq, Addr.mk.injEq, and_true] at e'
          obtain ⟨rfl, rfl⟩ := e'
          obtain ⟨E', e3, rfl, hE', hc'⟩ := hu'
          rw [HROW.out q hq] at hE' hc' q0'
          obtain ⟨a3, rfl, ha3, hcell'⟩ := hc' (by omega)
          exact ⟨a3, e3, fun x => (x.h.cell (p := ⟨b, o + q, none⟩) hbl').trans q0', fun x => by rw [x.h.cell (by rw [block_of_add]; exact ha3)]; exact hcell' j hj2⟩
        have hway : ∃ cb : Bool, cg k = cb ∧ (k = 0 ∧ cb = true ∨ ∃ q : Nat, k = q + 1 ∧ q < M ∧ cb = decide ((rs.getD k []).getD j 0 ≠ (rs.getD q []).getD j 0)) := ⟨_, rfl, key2⟩
        obtain ⟨cb, hcb, hw2⟩ := hway
        rw [hcb] at CSk
        have q0L : wo.cell? ⟨b, o + k, none⟩ = some (.slice (some a2) N e1) := q0
        clear key key2 hcb CGk hx hu hc hcell q1 hE hlk hL q0 hkn
        go_upto_region 8 with fail
        clear q0L
        go_cut [23, 45] from 23 to 50 (fun s23 s45 wx => s23 = .int .i64 k ∧ s45 = .bool cb ∧ Below wo.heap.size wo wx)
        case first =>
          rcases hw2 with ⟨h0, rfl⟩ | ⟨q, hq, hqM, hcq⟩
          · have f5 : ((k : Int) == 0) = true := by rw [h0]; rfl
            have f6 : (k == 0) = true := by rw [h0]; rfl
            clear h0 HQ
            refine wp_region_lat (by kernel_rfl) (by kernel_rfl) ?_
            repeat (go_big_quiet_step (fail))
            refine wpQuiet_nil ?_; intro w4 hb
            clear y1 XAL
            go_wp2_with fail
            go_meet
            exact ⟨rfl, rfl, hb⟩
          · obtain ⟨a3, e3, y2, y3⟩ := HQ.out q hqM
            have f5 : ((k : Int) == 0) = false := by
              have : ¬ (k : Int) = 0 := by omega
              simpa using this
            have f6 : (k == 0) = false := by
              have : ¬ k = 0 := by omega
              simpa using this
            have u1 : IntKind.i64.wrap ((k : Int) - 1) = (q : Int) := by
              rw [IntWalk.i64_in _ (by omega)]; omega
            have u2 : (k : Int) - 1 = (q : Int) := by omega
            have g1 : (0 : Int) ≤ (q : Int) := by omega
            have g2 : (q : Int) < (M : Int) := by omega
            generalize (rs.getD k []).getD j 0 = x1 at *
            generalize (rs.getD q []).getD j 0 = x2 at *
            clear HQ hq
            by_cases he : x1 = x2
            · have e1 : (x1 != x2) = false := by rw [he]; simp
              have hcf : cb = false := by rw [hcq]; simp [he]
              subst hcf
              clear he hcq
              refine wp_region_lat (by kernel_rfl) (by kernel_rfl) ?_
              repeat (go_big_quiet_step (fail))
              refine wpQuiet_nil ?_; intro w4 hb
              clear y1 y2 y3 XAL
              go_wp2_with fail
              go_meet
              exact ⟨rfl, rfl, hb⟩
            · have e1 : (x1 != x2) = true := by simpa using he
              have hcf : cb = true := by rw [hcq]; simp [he]
              subst hcf
              clear he hcq
              refine wp_region_lat (by kernel_rfl) (by kernel_rfl) ?_
              repeat (go_big_quiet_step (fail))
              refine wpQuiet_nil ?_; intro w4 hb
              clear y1 y2 y3 XAL
              go_wp2_with fail
              go_meet
              exact ⟨rfl, rfl, hb⟩
        case rest =>
          obtain ⟨rfl, rfl, hb⟩ := hcut
          clear hw2 HQ y1 XAL HBO
          replace XA := Lib.hid (XA.out.below hb)
          replace HOG := Lib.hid (HOG.out.below hb)
          replace HB := Lib.hid (below_step HB.out hb)
          clear hb
          cases cb
          · go_wp2_with fail
            go_roundw
            case rel => exact ⟨k + 1, by omega, by go_num, by rw [CSk.out]; exact HOG.out, XA.out, HB.out⟩
            case measure => simp [intOf]; omega
          · have hbl := below_alloc wc (.cells #[.int .i64 (k : Int)] 3)
            have HR4 : Hid (Rs intR (wc.alloc (.cells #[.int .i64 (k : Int)] 3)) (.slice (some ⟨wc.heap.size, 0, none⟩) 1 1) [(k : Int)] (Ty (wc.alloc (.cells #[.int .i64 (k : Int)] 3)) 0 intR.ts)) :=
              Lib.hid (Rs.one (φ := intR) (us := [.int .i64 (k : Int)]) (x := (k : Int)) rfl 3)
            have HOGa := Lib.hid (HOG.out.below hbl)
            have XAa := Lib.hid (XA.out.below hbl)
            have HBa := Lib.hid (below_step HB.out hbl)
            clear hbl
            go_wp2_with (at_builtin; refine wpList_append_og (φ := intR) (T := 3) (B := w.heap.size) (C := 0) (xs := ch k) (ys := [(k : Int)]) rfl _ _ 44 rfl i0 (.int .i64 0) 8 Tryd.underlying44 JI.out JZ0.out JZ1.out JZ2.out rfl rfl HOGa.out (.slice (some ⟨wc.heap.size, 0, none⟩) 1 1) rfl HR4.out ?c1 ?c2 ?c3 ?_)
            case c1 => (try simp only [List.length_cons, List.length_nil]); rw [← HLL.out]; have := CLk.out; omega
            case c2 => (try simp only [List.length_cons, List.length_nil]); rw [← HLL.out]; have := CLk.out; unfold maxLen; omega
            case c3 => have := HBa.out.size; first | exact this | simpa using this
            intro v' w7 hog7 hg7
            clear HB HOG XA
            have XA := Lib.hid (HOGa.out.boxKept hg7.out XAa.out (.inl (by decide)))
            have HB := Lib.hid (HOGa.out.belowG hg7.out HBa.out HBa.out.size (Nat.le_refl _))
            have CS2 : Hid (ch (k + 1) = ch k ++ [(k : Int)]) := Lib.hid (by rw [CSk.out]; rfl)
            rw [← CS2.out] at hog7
            clear HOGa XAa HBa hg7 HR4 CSk CS2
            go_wp2_with fail
            go_roundw
            case rel => exact ⟨k + 1, by omega, by go_num, hog7.out, XA.out, HB.out⟩
            case measure => simp [intOf]; omega
      · have hlt2 : ¬ (k : Int) < M := by omega
        have hkM : k = M := by omega
        have HR2 : Hid (IL wr (.slice OA (ch k).length oc) r) := Lib.hid (by rw [HR.out]; have := HOG.out.il; rw [hkM] at this ⊢; rw [HMM.out] at this ⊢; exact this)
        clear hkM HOG
        generalize (ch k).length = L at *
        go_wp2_with fail
        go_ret
        exact ⟨_, rfl, HR2.out, HB.out⟩

end Go.Proofs.YthpioaboekpjoaaDoor

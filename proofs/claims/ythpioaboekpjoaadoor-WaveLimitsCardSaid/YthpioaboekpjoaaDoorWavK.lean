/-
  Contracts of the reference's Get and Changes.
-/
import Derived.Test.YthpioaboekpjoaaDoorWavJ
namespace Go.Proofs.YthpioaboekpjoaaDoor
open Go.RowKit
set_option linter.unusedVariables false
set_option linter.unusedSimpArgs false

set_option maxRecDepth 100000 in
set_option maxHeartbeats 8000000 in
theorem refGetW (w : World) (v1 v2 : Value) (ns : List ByteArray) (rs : List (List Int)) (s : ByteArray) (t : Int) (h1 : SL w v1 ns) (h2 : Rs ilR w v2 rs anyB) (hz : WZ ns rs) (ht : I64 t) :
    Calls Tryd.prog 20 #[.agg #[v1, v2], .string s, .int .i64 t] w fun e w' => e = ret2b (wgT ns rs s t) ∧ Below w.heap.size w w' := by
  have CI := Lib.hid (fun W (hW : Below w.heap.size w W) => refPlace W v1 ns s (h1.below hW) hz.1)
  have CV := Lib.hid (fun W (hW : Below w.heap.size w W) => refValidW W v1 v2 ns rs (h1.below hW) (h2.below hW) hz)
  have HI := idx_bd ns s
  have HG : Hid (wgT ns rs s t = if wvV ns rs = false ∨ Lib.idxOfS ns s < 0 ∨ t < 0 ∨ (rs.length : Int) ≤ t then (0, false) else ((rs.getD t.toNat []).getD (Lib.idxOfS ns s).toNat 0, true)) := Lib.hid rfl
  have HW : Hid (wvV ns rs = true → ∀ k, k < rs.length → (rs.getD k []).length = ns.length) := Lib.hid fun h k hk => ((of_decide_eq_true h : WvV ns rs).2.2.2 _ (getD_mem [] hk)).1
  have HX := Lib.hid (fun W (hW : Below w.heap.size w W) => (h2.below hW).ils)
  obtain ⟨A2, c2, rfl, hc2⟩ := h2.slice
  obtain ⟨A1, c1, rfl, hc1, -⟩ := h1
  have n2 := hz.2.1
  obtain ⟨N, hN⟩ : ∃ N, N = ns.length := ⟨_, rfl⟩
  obtain ⟨M, hM⟩ : ∃ M, M = rs.length := ⟨_, rfl⟩
  have HMM := Lib.hid hM
  rw [← hN] at HI HW CI CV ⊢
  rw [← hM] at HG CV HX n2 ⊢
  generalize wgT ns rs s t = r at *
  generalize Lib.idxOfS ns s = i at *
  generalize wvV ns rs = vb at *
  obtain ⟨t0, t1⟩ := ht
  clear hz hc1 hc2 hN hM h2
  have hway : (vb = false) ∨ (vb = true ∧ i < 0) ∨ (vb = true ∧ ¬ i < 0 ∧ t < 0) ∨ (vb = true ∧ ¬ i < 0 ∧ ¬ t < 0 ∧ (M : Int) ≤ t) ∨ (vb = true ∧ ¬ i < 0 ∧ ¬ t < 0 ∧ ¬ (M : Int) ≤ t) := by
    cases vb
    · exact .inl rfl
    · right
      by_cases a : i < 0
      · exact .inl ⟨rfl, a⟩
      · right
        by_cases b : t < 0
        · exact .inl ⟨rfl, a, b⟩
        · right
          by_cases c : (M : Int) ≤ t
          · exact .inl ⟨rfl, a, b, c⟩
          · exact .inr ⟨rfl, a, b, c⟩
  go_enter Tryd.func20, Tryd.ntmps20
  go_upto_region 1 with fail
  have XA := Lib.hid (box_new (W := w) (g := w.heap.size) 26 #[.slice A1 N c1, .slice A2 M c2] (by simp))
  have HB := Lib.hid (below_alloc w (.cells #[.slice A1 N c1, .slice A2 M c2] 26))
  generalize w.alloc (.cells #[.slice A1 N c1, .slice A2 M c2] 26) = w1 at *
  have XA_0 := XA.out.at_ 0 _ rfl
  have XA_1 := XA.out.at_ 1 _ rfl
  go_wp2_with fail
  refine (CI.out _ HB.out).mono ?_; rintro e w2 ⟨rfl, rfl⟩
  clear CI
  clear XA_0 XA_1
  have XA_0 := XA.out.at_ 0 _ rfl
  have XA_1 := XA.out.at_ 1 _ rfl
  go_wp2_with fail
  refine (CV.out _ HB.out).mono ?_; rintro e w3 ⟨rfl, hb⟩
  clear XA_0 XA_1
  replace XA := Lib.hid (XA.out.below hb)
  replace HB := Lib.hid (below_step HB.out hb)
  clear hb
  clear CV
  have XA_1 := XA.out.at_ 1 _ rfl
  rcases hway with rfl | ⟨rfl, a⟩ | ⟨rfl, a, b⟩ | ⟨rfl, a, b, c⟩ | ⟨rfl, a, b, c⟩
  · have HR : Hid (r = (0, false)) := Lib.hid (by rw [HG.out, if_pos (.inl rfl)])
    clear HG HW HX
    go_wp2_with fail
    go_ret2
    exact ⟨by rw [HR.out]; rfl, HB.out⟩
  · have HR : Hid (r = (0, false)) := Lib.hid (by rw [HG.out, if_pos (.inr (.inl a))])
    clear HG HW HX
    go_wp2_with fail
    go_ret2
    exact ⟨by rw [HR.out]; rfl, HB.out⟩
  · have HR : Hid (r = (0, false)) := Lib.hid (by rw [HG.out, if_pos (.inr (.inr (.inl b)))])
    clear HG HW HX
    go_wp2_with fail
    go_ret2
    exact ⟨by rw [HR.out]; rfl, HB.out⟩
  · have HR : Hid (r = (0, false)) := Lib.hid (by rw [HG.out, if_pos (.inr (.inr (.inr c)))])
    clear HG HW HX
    go_wp2_with fail
    go_ret2
    exact ⟨by rw [HR.out]; rfl, HB.out⟩
  · obtain ⟨k, rfl⟩ : ∃ k : Nat, t = k := ⟨t.toNat, by omega⟩
    obtain ⟨j, rfl⟩ : ∃ j : Nat, i = j := ⟨i.toNat, by omega⟩
    have hkm : k < rs.length := by rw [← HMM.out]; omega
    have hlk := HW.out rfl k hkm
    have HR : Hid (r = ((rs.getD k []).getD j 0, true)) := Lib.hid (by
      rw [HG.out, if_neg (by simp only [not_or]; exact ⟨by decide, by omega, by omega, by omega⟩)]
      simp only [Int.toNat_natCast])
    obtain ⟨A', c', e', -, hx⟩ := HX.out _ HB.out
    simp only [Value.slice.injEq] at e'
    obtain ⟨rfl, -, rfl⟩ := e'
    obtain ⟨b, o, u, rfl, hbl, q0, hu, -⟩ := hx k (by omega)
    obtain ⟨E, e1, rfl, hE, hc⟩ := hu
    obtain ⟨a2, rfl, ha2, hcell⟩ := hc (by omega)
    have q1 := hcell j (by omega)
    have f1 : (0 : Int) ≤ (k : Int) := by omega
    have f2 : (k : Int) < (M : Int) := by omega
    have f3 : (0 : Int) ≤ (j : Int) := by omega
    have f4 : (j : Int) < (((rs.getD k []).length : Nat) : Int) := by omega
    have f5 : k < M := by omega
    have f6 : j < (rs.getD k []).length := by omega
    generalize (rs.getD k []).length = L at *
    generalize (rs.getD k []).getD j 0 = z at *
    clear HG HW HX hx hc hcell hbl ha2 hE hkm
    go_wp2_with fail
    go_ret2
    exact ⟨by rw [HR.out]; rfl, HB.out⟩

/-! The reference's Changes. -/
def rchB (ns : List ByteArray) (rs : List (List Int)) (s : ByteArray) (k : Nat) : Bool := (wgT ns rs s k).2 && (!(wgT ns rs s ((k : Int) - 1)).2 || decide ((wgT ns rs s k).1 ≠ (wgT ns rs s ((k : Int) - 1)).1))
def rcK (ns : List ByteArray) (rs : List (List Int)) (s : ByteArray) (k : Nat) : List Int := ((List.range k).filter (rchB ns rs s)).map Int.ofNat
theorem rcK_step (ns : List ByteArray) (rs : List (List Int)) (s : ByteArray) (k : Nat) : rcK ns rs s (k + 1) = if rchB ns rs s k then rcK ns rs s k ++ [(k : Int)] else rcK ns rs s k := by
  unfold rcK
  rw [List.range_succ, List.filter_append, List.map_append, List.filter_cons]
  cases rchB ns rs s k <;> simp
theorem rcK_len (ns : List ByteArray) (rs : List (List Int)) (s : ByteArray) (k : Nat) : (rcK ns rs s k).length ≤ k := by
  unfold rcK
  rw [List.length_map]
  exact Nat.le_trans (List.length_filter_le _ _) (by simp)
theorem rcK_all (ns : List ByteArray) (rs : List (List Int)) (s : ByteArray) : rcK ns rs s rs.length = whT ns rs s := by
  unfold rcK whT
  by_cases h : wvV ns rs = false ∨ Lib.idxOfS ns s < 0
  · rw [if_pos h]
    have : ∀ k : Nat, rchB ns rs s k = false := fun k => by
      unfold rchB wgT
      rw [if_pos (h.elim .inl (fun h => .inr (.inl h)))]; rfl
    rw [List.filter_eq_nil_iff.2 (fun k _ => by rw [this k]; decide)]; rfl
  · rw [if_neg h]
    congr 1
    apply List.filter_congr
    intro k hk
    have hk2 : k < rs.length := List.mem_range.1 hk
    have hv := fun h2 => h (.inl h2)
    have hi := fun h2 => h (.inr h2)
    have e1 : wgT ns rs s k = ((rs.getD k []).getD (Lib.idxOfS ns s).toNat 0, true) := by
      unfold wgT
      rw [if_neg (by simp only [not_or]; exact ⟨hv, hi, by omega, by omega⟩), Int.toNat_natCast]
    unfold rchB chg
    rw [e1]
    by_cases h0 : k = 0
    · subst h0
      have e2 : wgT ns rs s (((0 : Nat) : Int) - 1) = (0, false) := by
        unfold wgT
        rw [if_pos (.inr (.inr (.inl (by decide))))]
      rw [e2]; rfl
    · have e2 : wgT ns rs s ((k : Int) - 1) = ((rs.getD (k - 1) []).getD (Lib.idxOfS ns s).toNat 0, true) := by
        unfold wgT
        rw [if_neg (by simp only [not_or]; exact ⟨hv, hi, by omega, by omega⟩), show ((k : Int) - 1).toNat = k - 1 by omega]
      rw [e2, decide_eq_false h0]; rfl

set_option maxRecDepth 100000 in
set_option maxHeartbeats 8000000 in
theorem refChangesW (w : World) (v1 v2 : Value) (ns : List ByteArray) (rs : List (List Int)) (s : ByteArray) (h1 : SL w v1 ns) (h2 : Rs ilR w v2 rs anyB) (hz : WZ ns rs) (hM4 : rs.length ≤ 4096) :
    Calls Tryd.prog 26 #[.agg #[v1, v2], .string s] w fun e w' => ∃ v, e = .returned v ∧ IL w' v (whT ns rs s) ∧ Below w.heap.size w w' := by
  have CG : Hid (∀ t W, I64 t → Below w.heap.size w W → Calls Tryd.prog 20 #[.agg #[v1, v2], .string s, .int .i64 t] W fun e w' => e = ret2b (wgT ns rs s t) ∧ Below W.heap.size W w') := Lib.hid fun t W ht hW => refGetW W v1 v2 ns rs s t (h1.below hW) (h2.below hW) hz ht
  have CS := Lib.hid (rcK_step ns rs s)
  have CL := Lib.hid (rcK_len ns rs s)
  have C0 : Hid (rcK ns rs s 0 = []) := Lib.hid rfl
  have CA := Lib.hid (rcK_all ns rs s)
  have CB : Hid (∀ k, rchB ns rs s k = ((wgT ns rs s k).2 && (!(wgT ns rs s ((k : Int) - 1)).2 || decide ((wgT ns rs s k).1 ≠ (wgT ns rs s ((k : Int) - 1)).1)))) := Lib.hid fun k => rfl
  obtain ⟨A2, c2, rfl, hc2⟩ := h2.slice
  obtain ⟨A1, c1, rfl, hc1, -⟩ := h1
  obtain ⟨N, hN⟩ : ∃ N, N = ns.length := ⟨_, rfl⟩
  obtain ⟨M, hM⟩ : ∃ M, M = rs.length := ⟨_, rfl⟩
  rw [← hN] at CG ⊢
  rw [← hM] at CG CA hM4 ⊢
  generalize rcK ns rs s = ch at *
  generalize rchB ns rs s = cg at *
  generalize whT ns rs s = r at *
  generalize wgT ns rs s = gg at *
  obtain ⟨i0, hi, hz0, hz1, hz2⟩ := info_parts iint3
  have JI := Lib.hid hi
  have JZ0 := Lib.hid hz0
  have JZ1 := Lib.hid hz1
  have JZ2 := Lib.hid hz2
  clear hi hz0 hz1 hz2 hz hc1 hc2 hN hM h2
  go_enter Tryd.func26, Tryd.ntmps26
  go_upto_region 1 with fail
  have XA := Lib.hid (box_new (W := w) (g := w.heap.size) 26 #[.slice A1 N c1, .slice A2 M c2] (by simp))
  have HB := Lib.hid (below_alloc w (.cells #[.slice A1 N c1, .slice A2 M c2] 26))
  generalize w.alloc (.cells #[.slice A1 N c1, .slice A2 M c2] 26) = w1 at *
  go_wp2_with fail
  go_loopw [5, 6] (fun ov i wr => ∃ k : Nat, k ≤ M ∧ i = .int .i64 k ∧ OG intR wr w.heap.size 0 3 ov (ch k) ∧ Box wr w.heap.size #[.slice A1 N c1, .slice A2 M c2] 26 ∧ Below w.heap.size w wr) (fun _ i _ => M - (intOf i).toNat)
  case atStart => exact ⟨0, Nat.zero_le _, rfl, by rw [C0.out]; exact OG.nil intR _ _ _ _ (by decide) (Nat.zero_le _), XA.out, HB.out⟩
  case round =>
    clear HB XA
    obtain ⟨k, hk, rfl, hog, hxa, hb⟩ := hrel
    have XA := Lib.hid hxa
    have HB := Lib.hid hb
    have HOG := Lib.hid hog
    obtain ⟨OA, oc, rfl⟩ := hog.slice
    clear hb hxa hog
    by_cases hlt : k < M
    · have hlt2 : (k : Int) < M := by omega
      have hk0 : (0 : Int) ≤ (k : Int) := by omega
      have CSk := Lib.hid (CS.out k)
      have CBk := Lib.hid (CB.out k)
      have CLk := Lib.hid (CL.out k)
      have CG1 := Lib.hid (fun W h => CG.out (k : Int) W ⟨by omega, by omega⟩ h)
      have CG2 := Lib.hid (fun W h => CG.out ((k : Int) - 1) W ⟨by omega, by omega⟩ h)
      have u1 : IntKind.i64.wrap ((k : Int) - 1) = (k : Int) - 1 := IntWalk.i64_in _ (by omega)
      generalize gg (k : Int) = g1 at *
      generalize gg ((k : Int) - 1) = g2 at *
      obtain ⟨x1, b1⟩ := g1
      obtain ⟨x2, b2⟩ := g2
      simp only [ret2b] at CG1 CG2
      simp only at CBk
      obtain ⟨L, hL⟩ : ∃ L, L = (ch k).length := ⟨_, rfl⟩
      have HLL := Lib.hid hL
      rw [← hL] at HOG CLk ⊢
      clear hL
      have XA_0 := XA.out.at_ 0 _ rfl
      have XA_1 := XA.out.at_ 1 _ rfl
      go_wp2_with fail
      refine (CG1.out _ HB.out).mono ?_; rintro e w2 ⟨rfl, hb⟩
      clear XA_0 XA_1
      replace XA := Lib.hid (XA.out.below hb)
      replace HOG := Lib.hid (HOG.out.below hb)
      replace HB := Lib.hid (below_step HB.out hb)
      clear hb
      clear CG1
      have XA_0 := XA.out.at_ 0 _ rfl
      have XA_1 := XA.out.at_ 1 _ rfl
      go_wp2_with fail
      refine (CG2.out _ HB.out).mono ?_; rintro e w3 ⟨rfl, hb⟩
      clear XA_0 XA_1
      replace XA := Lib.hid (XA.out.below hb)
      replace HOG := Lib.hid (HOG.out.below hb)
      replace HB := Lib.hid (below_step HB.out hb)
      clear hb
      clear CG2 u1
      have hway : (cg k = false ∧ (b1 = false ∨ (b1 = true ∧ b2 = true ∧ (x1 != x2) = false))) ∨ (cg k = true ∧ ((b1 = true ∧ b2 = false) ∨ (b1 = true ∧ b2 = true ∧ (x1 != x2) = true))) := by
        rw [CBk.out]
        cases b1
        · exact .inl ⟨rfl, .inl rfl⟩
        · cases b2
          · exact .inr ⟨rfl, .inl ⟨rfl, rfl⟩⟩
          · by_cases e : x1 = x2
            · exact .inl ⟨by simp [e], .inr ⟨rfl, rfl, by simp [e]⟩⟩
            · exact .inr ⟨by simp [e], .inr ⟨rfl, rfl, by simpa using e⟩⟩
      clear CBk
      rcases hway with ⟨hcg, hw⟩ | ⟨hcg, hw⟩
      · have HC2 : Hid (ch (k + 1) = ch k) := Lib.hid (by rw [CSk.out, hcg]; rfl)
        clear hcg CSk
        rcases hw with rfl | ⟨rfl, rfl, f1⟩
        all_goals
          go_wp2_with fail
          go_roundw
          case rel => exact ⟨k + 1, by omega, by go_num, by rw [HC2.out]; exact HOG.out, XA.out, HB.out⟩
          case measure => simp [intOf]; omega
      · have HC2 : Hid (ch (k + 1) = ch k ++ [(k : Int)]) := Lib.hid (by rw [CSk.out, hcg]; rfl)
        clear hcg CSk
        rcases hw with ⟨rfl, rfl⟩ | ⟨rfl, rfl, f1⟩
        all_goals
          have hbl := below_alloc w3 (.cells #[.int .i64 (k : Int)] 3)
          have HR4 : Hid (Rs intR (w3.alloc (.cells #[.int .i64 (k : Int)] 3)) (.slice (some ⟨w3.heap.size, 0, none⟩) 1 1) [(k : Int)] (Ty (w3.alloc (.cells #[.int .i64 (k : Int)] 3)) 0 intR.ts)) :=
            Lib.hid (Rs.one (φ := intR) (us := [.int .i64 (k : Int)]) (x := (k : Int)) rfl 3)
          have HOGa := Lib.hid (HOG.out.below hbl)
          have XAa := Lib.hid (XA.out.below hbl)
          have HBa := Lib.hid (below_step HB.out hbl)
          clear hbl
          go_wp2_with (at_builtin; refine wpList_append_og (φ := intR) (T := 3) (B := w.heap.size) (C := 0) (xs := ch k) (ys := [(k : Int)]) rfl _ _ 44 rfl i0 (.int .i64 0) 8 Tryd.underlying44 JI.out JZ0.out JZ1.out JZ2.out rfl rfl HOGa.out (.slice (some ⟨w3.heap.size, 0, none⟩) 1 1) rfl HR4.out ?c1 ?c2 ?c3 ?_)
          case c1 => (try simp only [List.length_cons, List.length_nil]); rw [← HLL.out]; have := CLk.out; omega
          case c2 => (try simp only [List.length_cons, List.length_nil]); rw [← HLL.out]; have := CLk.out; unfold maxLen; omega
          case c3 => have := HBa.out.size; first | exact this | simpa using this
          intro v' w7 hog7 hg7
          clear HB HOG XA
          have XA := Lib.hid (HOGa.out.boxKept hg7.out XAa.out (.inl (by decide)))
          have HB := Lib.hid (HOGa.out.belowG hg7.out HBa.out HBa.out.size (Nat.le_refl _))
          rw [← HC2.out] at hog7
          clear HOGa XAa HBa hg7 HR4
          go_wp2_with fail
          go_roundw
          case rel => exact ⟨k + 1, by omega, by go_num, hog7.out, XA.out, HB.out⟩
          case measure => simp [intOf]; omega
    · have hlt2 : ¬ (k : Int) < M := by omega
      have hkM : k = M := by omega
      have HR2 : Hid (IL wr (.slice OA (ch k).length oc) r) := Lib.hid (by have := HOG.out.il; rw [hkM, CA.out] at this ⊢; exact this)
      clear hkM HOG
      generalize (ch k).length = L at *
      have XA_1 := XA.out.at_ 1 _ rfl
      go_wp2_with fail
      go_ret
      exact ⟨_, rfl, HR2.out, HB.out⟩

end Go.Proofs.YthpioaboekpjoaaDoor

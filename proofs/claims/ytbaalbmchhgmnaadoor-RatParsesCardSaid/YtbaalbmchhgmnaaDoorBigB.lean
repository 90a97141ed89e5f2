/-
  Contracts of the reference's natural numbers: plus, minus.
-/
import Derived.Test.YtbaalbmchhgmnaaDoorBigA
namespace Go.Proofs.YtbaalbmchhgmnaaDoor
open Go.RowKit
set_option linter.unusedVariables false
set_option linter.unusedSimpArgs false

theorem plus_step (V p c x1 x2 D1 D2 : Int) : V + p * (c + (x1 + 10000 * D1) + (x2 + 10000 * D2)) = (V + p * ((x1 + x2 + c) % 10000)) + (p * 10000) * ((x1 + x2 + c) / 10000 + D1 + D2) := by
  have h := Int.emod_add_mul_ediv (x1 + x2 + c) 10000
  generalize (x1 + x2 + c) % 10000 = r at *
  generalize (x1 + x2 + c) / 10000 = q at *
  have hc : c = r + 10000 * q - x1 - x2 := by omega
  subst hc
  grind
/-- What plus adds. -/
structure Addend (zs : List Int) : Prop where
  nn : NN zs
  le : ∀ d ∈ zs, d ≤ 1000000000000
  len : zs.length ≤ 200
theorem Addend.getD {zs : List Int} (h : Addend zs) (k : Nat) : 0 ≤ zs.getD k 0 ∧ zs.getD k 0 ≤ 1000000000000 := by
  refine ⟨h.nn.getD k, ?_⟩
  rw [List.getD_eq_getElem?_getD]
  by_cases hk : k < zs.length
  · rw [List.getElem?_eq_getElem hk]; exact h.le _ (List.getElem_mem hk)
  · rw [List.getElem?_eq_none (by omega)]; show (0 : Int) ≤ _; omega
theorem Addend.dg {n : Nat} (h : n < PW 200) : Addend (dg n) := ⟨(Dg_dg n).nn, fun d hd => by have := Dg_dg n d hd; omega, (dg_len n 200).2 h⟩
theorem Addend.nil : Addend [] := ⟨(fun d hd => by cases hd), (fun d hd => by cases hd), by simp⟩

set_option maxRecDepth 100000 in
set_option maxHeartbeats 8000000 in
theorem bigPlus (w : World) (v1 v2 : Value) (z1 z2 : List Int) (h1 : IL w v1 z1) (h2 : IL w v2 z2) (a1 : Addend z1) (a2 : Addend z2) (hS : vl z1 + vl z2 < PW 300) :
    Calls Tryd.prog 62 #[v1, v2] w (BL w (vl z1 + vl z2).toNat) := by
  obtain ⟨i0, hi, hz0, hz1, hz2⟩ := info_parts iint
  have HI := Lib.hid hi
  have HZ0 := Lib.hid hz0
  have HZ1 := Lib.hid hz1
  have HZ2 := Lib.hid hz2
  have H1 := Lib.hid h1
  have H2 := Lib.hid h2
  have HA1 := Lib.hid a1
  have HA2 := Lib.hid a2
  have HSS := Lib.hid hS
  have l1 := a1.len
  have l2 := a2.len
  obtain ⟨A1, c1, rfl, hc1, _⟩ := h1
  obtain ⟨A2, c2, rfl, hc2, _⟩ := h2
  obtain ⟨N1, hN1⟩ : ∃ N, N = z1.length := ⟨_, rfl⟩
  obtain ⟨N2, hN2⟩ : ∃ N, N = z2.length := ⟨_, rfl⟩
  rw [← hN1] at H1 l1 ⊢
  rw [← hN2] at H2 l2 ⊢
  have AT1 : Hid (∀ (w1 : World) (i : Nat), Below w.heap.size w w1 → i ≤ 1000 → Calls Tryd.prog 77 #[.slice A1 N1 c1, .int .i64 i] w1 fun e w' => e = .returned (.int .i64 (z1.getD i 0)) ∧ w1 = w') := Lib.hid fun w1 i hb hi => bigAt w1 _ z1 i (H1.out.below hb) (by omega) (by rw [← hN1]; omega)
  have AT2 : Hid (∀ (w1 : World) (i : Nat), Below w.heap.size w w1 → i ≤ 1000 → Calls Tryd.prog 77 #[.slice A2 N2 c2, .int .i64 i] w1 fun e w' => e = .returned (.int .i64 (z2.getD i 0)) ∧ w1 = w') := Lib.hid fun w1 i hb hi => bigAt w1 _ z2 i (H2.out.below hb) (by omega) (by rw [← hN2]; omega)
  have HN1 := Lib.hid hN1
  have HN2 := Lib.hid hN2
  clear hi hz0 hz1 hz2 hN1 hN2 hc1 hc2 a1 a2 hS
  go_enter Tryd.func62, Tryd.ntmps62
  go_wp2_with fail
  go_loopw [7, 6, 5] (fun ci cc o wr => ∃ (i : Nat) (c : Int) (zs : List Int) (v0 : Value), ci = .int .i64 i ∧ cc = .int .i64 c ∧ v0 = o ∧ 0 ≤ c ∧ c ≤ 1000000000000 ∧ i ≤ 300 ∧ zs.length = i ∧ Dg zs ∧ vl zs + (PW i : Int) * (c + vl (z1.drop i) + vl (z2.drop i)) = vl z1 + vl z2 ∧ wr.ownsRow w.heap.size 3 1 v0 i (icells zs) ∧ Below w.heap.size w wr) (fun ci cc _ _ => (max N1 N2 - (intOf ci).toNat) * 2000000000000 + (intOf cc).toNat)
  case atStart => exact ⟨0, 0, [], _, rfl, rfl, rfl, by omega, by omega, by omega, rfl, Dg.nil, by simp [vl, PW_zero], World.ownsRow_nil _ _ _ _, Below.refl _ _⟩
  case round =>
    obtain ⟨i, c, zs, v0, rfl, rfl, rfl, k0, k1, hi3, hlen, hD, hv, hown, hb⟩ := hrel
    have HOWN := Lib.hid hown
    have HBL := Lib.hid hb
    have HV := Lib.hid hv
    have HDG := Lib.hid hD
    have HLEN := Lib.hid hlen
    clear hown hb hv hD hlen
    by_cases hgo : i < N1 ∨ i < N2 ∨ 0 < c
    · have e1 := vl_drop_any z1 i
      have e2 := vl_drop_any z2 i
      have g1 := HA1.out.getD i
      have g2 := HA2.out.getD i
      have hz1 : N1 ≤ i → z1.getD i 0 = 0 := fun h => by rw [List.getD_eq_getElem?_getD, List.getElem?_eq_none (by have := HN1.out; omega)]; rfl
      have hz2 : N2 ≤ i → z2.getD i 0 = 0 := fun h => by rw [List.getD_eq_getElem?_getD, List.getElem?_eq_none (by have := HN2.out; omega)]; rfl
      have d1 := vl_nonneg (HA1.out.nn.drop i)
      have d2 := vl_nonneg (HA2.out.nn.drop i)
      have hi300 : i < 300 := by
        rcases hgo with h | h | h
        · omega
        · omega
        · apply PW_lt.1
          have hP := PW_pos i
          have hvn := vl_nonneg HDG.out.nn
          have h3 : (PW i : Int) * 1 ≤ (PW i : Int) * (c + vl (z1.drop i) + vl (z2.drop i)) := Int.mul_le_mul_of_nonneg_left (by omega) (by omega)
          have := HV.out
          have := HSS.out
          omega
      have C1 := AT1.out wr i HBL.out (by omega)
      have C2 := AT2.out wr i HBL.out (by omega)
      have hv := HV.out
      rw [e1, e2, plus_step] at hv
      generalize z1.getD i 0 = x1 at *
      generalize z2.getD i 0 = x2 at *
      obtain ⟨p1, p2⟩ := g1
      obtain ⟨q1, q2⟩ := g2
      have HC1 := Lib.hid C1
      have HC2 := Lib.hid C2
      have HBIG : Hid ((i + 1) * 8 ≤ 140737488355328) := Lib.hid (by omega)
      have HVN : Hid (vl (zs ++ [(x1 + x2 + c) % 10000]) + (PW (i + 1) : Int) * ((x1 + x2 + c) / 10000 + vl (z1.drop (i + 1)) + vl (z2.drop (i + 1))) = vl z1 + vl z2) := Lib.hid (by
        rw [vl_append, vl_one, HLEN.out, PW_succ, Int.natCast_mul]; exact hv)
      have HMU : Hid ((max N1 N2 - (i + 1)) * 2000000000000 + ((x1 + x2 + c) / 10000).toNat < (max N1 N2 - i) * 2000000000000 + c.toNat) := Lib.hid (by
        by_cases hm : i < max N1 N2
        · omega
        · have := hz1 (by omega)
          have := hz2 (by omega)
          omega)
      have HDN : Hid (Dg (zs ++ [(x1 + x2 + c) % 10000])) := Lib.hid (HDG.out.append (Dg.one (by omega)))
      have HLN : Hid ((zs ++ [(x1 + x2 + c) % 10000]).length = i + 1) := Lib.hid (by rw [List.length_append, HLEN.out]; rfl)
      have key : decide (i < N1) = true ∨ (decide (i < N1) = false ∧ decide (i < N2) = true) ∨ (decide (i < N1) = false ∧ decide (i < N2) = false ∧ decide (0 < c) = true) := by
        simp only [decide_eq_true_eq, decide_eq_false_iff_not]; omega
      clear C1 C2 hv e1 e2 d1 d2 hz1 hz2 hgo HV
      rcases key with f1 | ⟨f1, f2⟩ | ⟨f1, f2, f3⟩
      all_goals
        go_wp2_with fail
        refine (HC1.out).mono ?_; rintro e w1 ⟨rfl, rfl⟩
        go_wp2_with fail
        refine (HC2.out).mono ?_; rintro e w1 ⟨rfl, rfl⟩
        go_wp2_with (at_builtin; refine wpList_append_own _ rfl _ _ 49 rfl (w.heap.size) 3 i0 (.int .i64 0) 1 8 Tryd.underlying49 HI.out HZ0.out HZ1.out HZ2.out rfl (by decide) v0 i (icells zs) rfl (HOWN.out.alloc _) ⟨wr.heap.size, 0, none⟩ 1 1 [.int .i64 ((x1 + x2 + c) % 10000)] rfl rfl ?c1 ?c2 ?c3 ?c4 ?c5 ?_)
        try (case c1 => exact cell_one_new _ _ _)
        case c2 => first | rfl | (intro u hu; simp at hu; subst hu; rfl)
        case c3 => unfold maxLen; omega
        case c4 => exact HBIG.out
        case c5 => exact Nat.le_trans HBL.out.size (by first | omega | simp)
        intro v5 w5 hown5 hgrow _
        have HOWN5 : Hid (w5.ownsRow (w.heap.size) 3 1 v5 (i + 1) (icells (zs ++ [(x1 + x2 + c) % 10000]))) := by
          unfold icells at hown5 ⊢; rw [List.map_append]; exact hown5
        have HBL5 := Lib.hid (below_grown HBL.out HBL.out.size HOWN.out hgrow)
        clear hown5 hgrow
        go_wp2_with fail
        go_roundw
        case rel => exact ⟨i + 1, (x1 + x2 + c) / 10000, zs ++ [(x1 + x2 + c) % 10000], v5, by go_num, rfl, rfl, by omega, by omega, by omega, HLN.out, HDN.out, HVN.out, HOWN5.out, HBL5.out⟩
        case measure => simp [intOf]; exact HMU.out
    · have n1 : N1 ≤ i := by omega
      have n2 : N2 ≤ i := by omega
      have n3 : c = 0 := by omega
      subst n3
      have HE : Hid ((vl zs) = vl z1 + vl z2) := Lib.hid (by
        have := HV.out
        rw [vl_drop_end (l := z1) (by have := HN1.out; omega), vl_drop_end (l := z2) (by have := HN2.out; omega)] at this
        simpa using this)
      have HIL := Lib.hid (IL.of_own HOWN.out)
      have f1 : decide (i < N1) = false := by simp; omega
      have f2 : decide (i < N2) = false := by simp; omega
      clear hgo n1 n2
      go_wp2_with fail
      refine (bigTrim _ _ zs HIL.out HDG.out (by rw [HLEN.out]; omega)).mono ?_; rintro e w1 ⟨v5, rfl, hbn, rfl⟩
      have HBN := Lib.hid hbn
      clear hbn
      go_wp2_with fail
      go_ret
      exact ⟨v5, rfl, by rw [← HE.out]; exact HBN.out, HBL.out⟩

theorem minus_step (V p A B c x y n q : Int) (hn : x - y - c = n - 10000 * q) : V + p * ((A * 10000 + x) - (B * 10000 + y) - c) = (V + p * n) + (p * 10000) * (A - B - q) := by
  have hc : c = x - y - n + 10000 * q := by omega
  subst hc
  grind

set_option maxRecDepth 100000 in
set_option maxHeartbeats 8000000 in
theorem bigMinus (w : World) (v1 v2 : Value) (a b : Nat) (h1 : BN w v1 a) (h2 : BN w v2 b) (hab : b ≤ a) (ha : a < PW 200) :
    Calls Tryd.prog 64 #[v1, v2] w (BL w (a - b)) := by
  obtain ⟨i0, hi, hz0, hz1, hz2⟩ := info_parts iint
  have HI := Lib.hid hi
  have HZ0 := Lib.hid hz0
  have HZ1 := Lib.hid hz1
  have HZ2 := Lib.hid hz2
  have H1 := Lib.hid h1
  have H2 := Lib.hid h2
  have l1 := (dg_len a 200).2 ha
  have l2 := (dg_len b 200).2 (by omega)
  have AT2 : Hid (∀ (w1 : World) (i : Nat), Below w.heap.size w w1 → i ≤ 1000 → Calls Tryd.prog 77 #[v2, .int .i64 i] w1 fun e w' => e = .returned (.int .i64 ((dg b).getD i 0)) ∧ w1 = w') := Lib.hid fun w1 i hb hi => bigAt w1 _ (dg b) i (H2.out.below hb) (by omega) (by omega)
  obtain ⟨A1, c1, rfl, hc1, hs1⟩ := h1
  have e1 := dg_len a
  obtain ⟨N1, hN1⟩ : ∃ N, N = (dg a).length := ⟨_, rfl⟩
  rw [← hN1] at H1 hs1 l1 ⊢
  have haN : a < PW N1 := (e1 N1).1 (by omega)
  have HAN := Lib.hid haN
  have HS1 := Lib.hid hs1
  have HAB := Lib.hid hab
  clear hi hz0 hz1 hz2 hN1 hc1 hs1 e1 ha haN h2
  go_enter Tryd.func64, Tryd.ntmps64
  go_wp2_with fail
  go_loopw [7, 6, 5] (fun ci cc o wr => ∃ (i : Nat) (c : Int) (zs : List Int) (v0 : Value), i ≤ N1 ∧ ci = .int .i64 i ∧ cc = .int .i64 c ∧ v0 = o ∧ 0 ≤ c ∧ c ≤ 1 ∧ zs.length = i ∧ Dg zs ∧ vl zs + (PW i : Int) * (((a / PW i : Nat) : Int) - ((b / PW i : Nat) : Int) - c) = (a : Int) - b ∧ wr.ownsRow w.heap.size 3 1 v0 i (icells zs) ∧ Below w.heap.size w wr) (fun ci _ _ _ => N1 - (intOf ci).toNat)
  case atStart => exact ⟨0, 0, [], _, Nat.zero_le _, rfl, rfl, rfl, by omega, by omega, rfl, Dg.nil, by simp [vl, PW_zero], World.ownsRow_nil _ _ _ _, Below.refl _ _⟩
  case round =>
    obtain ⟨i, c, zs, v0, hi3, rfl, rfl, rfl, k0, k1, hlen, hD, hv, hown, hb⟩ := hrel
    have HOWN := Lib.hid hown
    have HBL := Lib.hid hb
    have HV := Lib.hid hv
    have HDG := Lib.hid hD
    have HLEN := Lib.hid hlen
    clear hown hb hv hD hlen
    by_cases hgo : i < N1
    · have hgo2 : (i : Int) < N1 := by omega
      obtain ⟨ad, rfl, had, hcl⟩ := HS1.out (by omega)
      have g0 := hcl i hgo
      rw [dg_getD] at g0
      have g1 : ∀ w1, Below w.heap.size w w1 → w1.cell? (ad.add i) = some (.int .i64 ((a / PW i % 10000 : Nat) : Int)) := fun w1 hb => by rw [hb.cell (by rw [block_of_add]; exact had)]; exact g0
      have gw := g1 wr HBL.out
      have C2 : ∀ n, Calls Tryd.prog 77 #[v2, .int .i64 i] (wr.drewN n) fun e w' => e = .returned (.int .i64 ((dg b).getD i 0)) ∧ wr.drewN n = w' := fun n => AT2.out _ i (below_drewN HBL.out n) (by omega)
      rw [dg_getD] at C2
      have s1 := top_step a i
      have s2 := top_step b i
      have hv := HV.out
      rw [s1, s2, Int.natCast_add, Int.natCast_add, Int.natCast_mul, Int.natCast_mul] at hv
      have hx : a / PW i % 10000 < 10000 := by omega
      have hy : b / PW i % 10000 < 10000 := by omega
      generalize a / PW i % 10000 = x at *
      generalize b / PW i % 10000 = y at *
      have HC2 := Lib.hid C2
      have HBIG : Hid ((i + 1) * 8 ≤ 140737488355328) := Lib.hid (by omega)
      have w1 : IntKind.i64.wrap ((x : Int) - y) = x - y := IntWalk.i64_in _ (by omega)
      have w2 : IntKind.i64.wrap ((x : Int) - y - c) = x - y - c := IntWalk.i64_in _ (by omega)
      have i0' : (0 : Int) ≤ i := by omega
      by_cases hneg : (x : Int) - y - c < 0
      · have hm := minus_step (vl zs) (PW i) ((a / PW (i + 1) : Nat) : Int) ((b / PW (i + 1) : Nat) : Int) c x y (x - y - c + 10000) 1 (by omega)
        have HVN : Hid (vl (zs ++ [(x : Int) - y - c + 10000]) + (PW (i + 1) : Int) * (((a / PW (i + 1) : Nat) : Int) - ((b / PW (i + 1) : Nat) : Int) - 1) = (a : Int) - b) := Lib.hid (by
          rw [vl_append, vl_one, HLEN.out, PW_succ i, Int.natCast_mul, ← PW_succ i]
          have e : ((10000 : Nat) : Int) = 10000 := rfl
          rw [e] at hv ⊢
          rw [← hv, hm])
        have HDN : Hid (Dg (zs ++ [(x : Int) - y - c + 10000])) := Lib.hid (HDG.out.append (Dg.one (by omega)))
        have HLN : Hid ((zs ++ [(x : Int) - y - c + 10000]).length = i + 1) := Lib.hid (by rw [List.length_append, HLEN.out]; rfl)
        clear hm hv s1 s2 C2 g1 hcl g0
        go_wp2_with fail
        go_quiet ((first | exact quiet_left (HC2.out _) | exact quiet_add_left (HC2.out _)))
        have HOWN' : Hid ((wr.drewN nq).ownsRow w.heap.size 3 1 v0 i (icells zs)) := HOWN
        have HBL' := Lib.hid (below_drewN HBL.out nq)
        go_wp2_with (at_builtin; refine wpList_append_own _ rfl _ _ 49 rfl (w.heap.size) 3 i0 (.int .i64 0) 1 8 Tryd.underlying49 HI.out HZ0.out HZ1.out HZ2.out rfl (by decide) v0 i (icells zs) rfl (HOWN'.out.alloc _) ⟨wr.heap.size, 0, none⟩ 1 1 [.int .i64 ((x : Int) - y - c + 10000)] rfl rfl ?c1 ?c2 ?c3 ?c4 ?c5 ?_)
        try (case c1 => exact cell_one_new _ _ _)
        case c2 => first | rfl | (intro u hu; simp at hu; subst hu; rfl)
        case c3 => unfold maxLen; omega
        case c4 => exact HBIG.out
        case c5 => exact Nat.le_trans HBL'.out.size (by first | omega | simp)
        intro v5 w5 hown5 hgrow _
        have HOWN5 : Hid (w5.ownsRow (w.heap.size) 3 1 v5 (i + 1) (icells (zs ++ [(x : Int) - y - c + 10000]))) := by
          unfold icells at hown5 ⊢; rw [List.map_append]; exact hown5
        have HBL5 := Lib.hid (below_grown HBL'.out HBL'.out.size HOWN'.out hgrow)
        clear hown5 hgrow
        go_wp2_with fail
        go_roundw
        case rel => exact ⟨i + 1, 1, zs ++ [(x : Int) - y - c + 10000], v5, by omega, by go_num, rfl, rfl, by omega, by omega, HLN.out, HDN.out, HVN.out, HOWN5.out, HBL5.out⟩
        case measure => simp [intOf]; omega
      · have hm := minus_step (vl zs) (PW i) ((a / PW (i + 1) : Nat) : Int) ((b / PW (i + 1) : Nat) : Int) c x y (x - y - c) 0 (by omega)
        have HVN : Hid (vl (zs ++ [(x : Int) - y - c]) + (PW (i + 1) : Int) * (((a / PW (i + 1) : Nat) : Int) - ((b / PW (i + 1) : Nat) : Int) - 0) = (a : Int) - b) := Lib.hid (by
          rw [vl_append, vl_one, HLEN.out, PW_succ i, Int.natCast_mul, ← PW_succ i]
          have e : ((10000 : Nat) : Int) = 10000 := rfl
          rw [e] at hv ⊢
          rw [← hv, hm])
        have HDN : Hid (Dg (zs ++ [(x : Int) - y - c])) := Lib.hid (HDG.out.append (Dg.one (by omega)))
        have HLN : Hid ((zs ++ [(x : Int) - y - c]).length = i + 1) := Lib.hid (by rw [List.length_append, HLEN.out]; rfl)
        clear hm hv s1 s2 C2 g1 hcl g0
        go_wp2_with fail
        go_quiet ((first | exact quiet_left (HC2.out _) | exact quiet_add_left (HC2.out _)))
        have HOWN' : Hid ((wr.drewN nq).ownsRow w.heap.size 3 1 v0 i (icells zs)) := HOWN
        have HBL' := Lib.hid (below_drewN HBL.out nq)
        go_wp2_with (at_builtin; refine wpList_append_own _ rfl _ _ 49 rfl (w.heap.size) 3 i0 (.int .i64 0) 1 8 Tryd.underlying49 HI.out HZ0.out HZ1.out HZ2.out rfl (by decide) v0 i (icells zs) rfl (HOWN'.out.alloc _) ⟨wr.heap.size, 0, none⟩ 1 1 [.int .i64 ((x : Int) - y - c)] rfl rfl ?c1 ?c2 ?c3 ?c4 ?c5 ?_)
        try (case c1 => exact cell_one_new _ _ _)
        case c2 => first | rfl | (intro u hu; simp at hu; subst hu; rfl)
        case c3 => unfold maxLen; omega
        case c4 => exact HBIG.out
        case c5 => exact Nat.le_trans HBL'.out.size (by first | omega | simp)
        intro v5 w5 hown5 hgrow _
        have HOWN5 : Hid (w5.ownsRow (w.heap.size) 3 1 v5 (i + 1) (icells (zs ++ [(x : Int) - y - c]))) := by
          unfold icells at hown5 ⊢; rw [List.map_append]; exact hown5
        have HBL5 := Lib.hid (below_grown HBL'.out HBL'.out.size HOWN'.out hgrow)
        clear hown5 hgrow
        go_wp2_with fail
        go_roundw
        case rel => exact ⟨i + 1, 0, zs ++ [(x : Int) - y - c], v5, by omega, by go_num, rfl, rfl, by omega, by omega, HLN.out, HDN.out, HVN.out, HOWN5.out, HBL5.out⟩
        case measure => simp [intOf]; omega
    · have hkn : i = N1 := by omega
      have hgo2 : ¬ (i : Int) < N1 := by omega
      subst hkn
      have HE : Hid ((vl zs).toNat = a - b) := Lib.hid (by
        have h1 := HV.out
        have h2 := HAN.out
        have h3 := HAB.out
        rw [Nat.div_eq_of_lt h2, Nat.div_eq_of_lt (by omega)] at h1
        have h4 := vl_lt HDG.out
        rw [HLEN.out] at h4
        have h5 : c = 0 ∨ c = 1 := by omega
        rcases h5 with rfl | rfl
        · simp at h1; omega
        · simp at h1; omega)
      have HIL := Lib.hid (IL.of_own HOWN.out)
      clear hgo
      go_wp2_with fail
      refine (bigTrim _ _ zs HIL.out HDG.out (by rw [HLEN.out]; omega)).mono ?_; rintro e w1 ⟨v5, rfl, hbn, rfl⟩
      have HBN := Lib.hid hbn
      clear hbn
      go_wp2_with fail
      go_ret
      exact ⟨v5, rfl, by rw [← HE.out]; exact HBN.out, HBL.out⟩

end Go.Proofs.YtbaalbmchhgmnaaDoor

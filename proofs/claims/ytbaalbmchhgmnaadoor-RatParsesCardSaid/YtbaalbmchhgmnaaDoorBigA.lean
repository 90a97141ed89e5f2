/-
  Contracts of the reference's natural numbers: trim, size, order, at.
-/
import Derived.Test.YtbaalbmchhgmnaaDoorBigSpec
import Derived.Test.YtbaalbmchhgmnaaDoorRows0
import Derived.Test.YtbaalbmchhgmnaaDoorNumA
import Derived.LoopTactic
import Derived.Deep.QuietTactic
import Derived.BigQuiet
import Derived.IntWalk
namespace Go.Proofs.YtbaalbmchhgmnaaDoor
open Go.RowKit
set_option linter.unusedVariables false
set_option linter.unusedSimpArgs false

theorem iint : (Tryd.prog.info? 3).map (fun i => (i.zero, i.size, i.bytes)) = some (some (.int .i64 0), 1, 8) := by kernel_rfl
/-- A slice that is the digits of a number. -/
def BN (w : World) (v : Value) (n : Nat) : Prop := IL w v (dg n)
theorem BN.below {w w' : World} {v : Value} {n : Nat} (h : BN w v n) (hb : Below w.heap.size w w') : BN w' v n := IL.below h hb
/-- The post of a function that returns digits. -/
def BL (w : World) (n : Nat) (e : Ending) (w' : World) : Prop := ∃ v, e = .returned v ∧ (BN w' v n ∧ Below w.heap.size w w')

set_option maxRecDepth 100000 in
set_option maxHeartbeats 4000000 in
theorem bigTrimS (w : World) (A : Option Addr) (c : Nat) (zs : List Int) (h : IL w (.slice A zs.length c) zs) (hd : Dg zs) (hl : zs.length ≤ 4611686018427387904) :
    Calls Tryd.prog 65 #[.slice A zs.length c] w fun e w' => ∃ m : Nat, e = .returned (.slice A m c) ∧ (m ≤ zs.length ∧ zs.take m = dg (vl zs).toNat ∧ w = w') := by
  obtain ⟨A', c', hv', hc, hs⟩ := h
  injection hv' with h1 _ h3
  subst h1 h3
  obtain ⟨N, hN⟩ : ∃ N, N = zs.length := ⟨_, rfl⟩
  have HN := Lib.hid hN
  rw [← hN] at hl ⊢
  have HS := Lib.hid hs
  have HC := Lib.hid hc
  have HD := Lib.hid hd
  clear hN hs hc hd
  go_enter Tryd.func65, Tryd.ntmps65
  go_wp2_with fail
  go_loop [0] (fun s => ∃ m : Nat, m ≤ N ∧ s = .slice A m c ∧ vl (zs.take m) = vl zs) (fun s => match s with | .slice _ m _ => m | _ => 0)
  case atStart => exact ⟨N, Nat.le_refl _, rfl, by rw [HN.out, List.take_length]⟩
  case round =>
    obtain ⟨m, hm, rfl, hv⟩ := hrel
    have HV := Lib.hid hv
    clear hv
    rcases m with _ | j
    · have HE : Hid (zs.take 0 = dg (vl zs).toNat) := Lib.hid (trim_done (Nat.zero_le _) HD.out (.inl rfl) HV.out)
      go_wp2_with fail
      go_ret
      exact ⟨0, rfl, Nat.zero_le _, HE.out, rfl⟩
    · obtain ⟨a, rfl, ha, hcl⟩ := HS.out (by rw [← HN.out]; omega)
      have g0 := hcl j (by rw [← HN.out]; omega)
      have hz := vl_take_zero (l := zs) (m := j) (by rw [← HN.out]; omega)
      have hdone := trim_done (l := zs) (m := j + 1) (by rw [← HN.out]; omega) HD.out
      rw [Nat.add_sub_cancel] at hdone
      have HCL := Lib.hid hcl
      have hjc : j + 1 ≤ c := by have := HC.out; have := HN.out; omega
      have j0 : (0 : Int) ≤ (j : Int) := by omega
      have j1 : (j : Int) < (j : Int) + 1 := by omega
      clear hcl
      by_cases h0 : zs.getD j 0 = 0
      · have HR := Lib.hid ((hz h0).symm.trans HV.out)
        rw [h0] at g0
        clear hz hdone h0
        go_wp2_with fail
        go_round
        case rel => exact ⟨j, by omega, rfl, HR.out⟩
        case measure => simp
      · have HE := Lib.hid (hdone (.inr h0) HV.out)
        have f0 : (zs.getD j 0 == 0) = false := by simpa using h0
        generalize zs.getD j 0 = z at *
        clear hz hdone h0
        go_wp2_with fail
        go_ret
        exact ⟨j + 1, rfl, by omega, HE.out, rfl⟩

theorem IL.take {w : World} {A : Option Addr} {n c : Nat} {zs : List Int} (h : IL w (.slice A n c) zs) {m : Nat} (hm : m ≤ zs.length) : IL w (.slice A m c) (zs.take m) := by
  obtain ⟨A', c', hv', hc, hs⟩ := h
  injection hv' with h1 h2 h3
  subst h1 h3
  have hlen : (zs.take m).length = m := by rw [List.length_take]; omega
  refine ⟨A, c, by rw [hlen], by rw [hlen]; omega, fun hp => ?_⟩
  rw [hlen] at hp
  obtain ⟨a, ha, hlt, hcl⟩ := hs (by omega)
  refine ⟨a, ha, hlt, fun i hi => ?_⟩
  rw [hlen] at hi
  rw [hcl i (by omega), List.getD_eq_getElem?_getD, List.getD_eq_getElem?_getD, List.getElem?_take_of_lt hi]
theorem bigTrim (w : World) (v : Value) (zs : List Int) (h : IL w v zs) (hd : Dg zs) (hl : zs.length ≤ 4611686018427387904) :
    Calls Tryd.prog 65 #[v] w fun e w' => ∃ v', e = .returned v' ∧ (BN w v' (vl zs).toNat ∧ w = w') := by
  obtain ⟨A, c, rfl, hc, hs⟩ := h
  have h : IL w (.slice A zs.length c) zs := ⟨A, c, rfl, hc, hs⟩
  refine (bigTrimS w A c zs h hd hl).mono ?_
  rintro e w' ⟨m, rfl, hm, he, rfl⟩
  exact ⟨_, rfl, by unfold BN; rw [← he]; exact h.take hm, rfl⟩

set_option maxHeartbeats 1000000 in
theorem bigAt (w : World) (v : Value) (zs : List Int) (i : Nat) (h : IL w v zs) (hi : i ≤ 4611686018427387904) (hl : zs.length ≤ 4611686018427387904) :
    Calls Tryd.prog 77 #[v, .int .i64 i] w fun e w' => e = .returned (.int .i64 (zs.getD i 0)) ∧ w = w' := by
  obtain ⟨A, c, rfl, hc, hs⟩ := h
  obtain ⟨N, hN⟩ : ∃ N, N = zs.length := ⟨_, rfl⟩
  rw [← hN] at hl hs hc ⊢
  by_cases hlt : i < N
  · obtain ⟨a, rfl, _, hcl⟩ := hs (by omega)
    have g0 := hcl i hlt
    generalize zs.getD i 0 = z at *
    have h1 : (i : Int) < N := by omega
    have h2 : (0 : Int) ≤ i := by omega
    clear hs hcl hN
    go_enter Tryd.func77, Tryd.ntmps77
    go_wp2_with fail
    go_ret
    exact ⟨rfl, rfl⟩
  · have hz : zs.getD i 0 = 0 := by rw [List.getD_eq_getElem?_getD, List.getElem?_eq_none (by omega)]; rfl
    rw [hz]
    have h1 : (N : Int) ≤ i := by omega
    clear hs hN hz
    go_enter Tryd.func77, Tryd.ntmps77
    go_wp2_with fail
    go_ret
    exact ⟨rfl, rfl⟩

/-- The sign of a difference. -/
def cmpN (a b : Nat) : Int := if a < b then -1 else if b < a then 1 else 0
theorem cmp_lt {a b : Nat} (h : a < b) : cmpN a b = -1 := by unfold cmpN; rw [if_pos h]
theorem cmp_gt {a b : Nat} (h : b < a) : cmpN a b = 1 := by unfold cmpN; rw [if_neg (by omega), if_pos h]
theorem cmp_eq {a b : Nat} (h : a = b) : cmpN a b = 0 := by unfold cmpN; rw [if_neg (by omega), if_neg (by omega)]
theorem top_step (a i : Nat) : a / PW i = a / PW (i + 1) * 10000 + a / PW i % 10000 := by
  rw [PW_succ, ← Nat.div_div_eq_div_mul]; omega
theorem top_lt {a b i : Nat} (h : a / PW i < b / PW i) : a < b := Classical.byContradiction fun hc => by
  have := Nat.div_le_div_right (c := PW i) (show b ≤ a by omega)
  omega

set_option maxRecDepth 100000 in
set_option maxHeartbeats 4000000 in
theorem bigOrder (w : World) (v1 v2 : Value) (a b : Nat) (h1 : BN w v1 a) (h2 : BN w v2 b) (ha : a < PW 400) (hb : b < PW 400) :
    Calls Tryd.prog 63 #[v1, v2] w fun e w' => e = .returned (.int .i64 (cmpN a b)) ∧ ∃ n, w' = w.drewN n := by
  obtain ⟨A1, c1, rfl, hc1, h1⟩ := h1
  obtain ⟨A2, c2, rfl, hc2, h2⟩ := h2
  have l1 := (dg_len a 400).2 ha
  have l2 := (dg_len b 400).2 hb
  obtain ⟨N1, hN1⟩ : ∃ N, N = (dg a).length := ⟨_, rfl⟩
  obtain ⟨N2, hN2⟩ : ∃ N, N = (dg b).length := ⟨_, rfl⟩
  rw [← hN1] at h1 hc1 l1 ⊢
  rw [← hN2] at h2 hc2 l2 ⊢
  have e1 := dg_len a N1
  have e2 := dg_len b N2
  by_cases hlt : N1 < N2
  · have hE : cmpN a b = -1 := cmp_lt (by
      have k1 := e1.1 (by omega)
      have k2 := (dg_lt_len (n := b) (i := N1)).1 (by omega)
      omega)
    have HE := Lib.hid hE
    have f1 : ((N1 : Int) != (N2 : Int)) = true := by simp; omega
    have f2 : (N1 : Int) < N2 := by omega
    clear hE e1 e2 hN1 hN2 h1 h2 ha hb
    go_enter Tryd.func63, Tryd.ntmps63
    go_wp2_with fail
    go_ret
    exact ⟨ret1 HE.out.symm, 0, rfl⟩
  by_cases hgt : N2 < N1
  · have hE : cmpN a b = 1 := cmp_gt (by
      have k1 := e2.1 (by omega)
      have k2 := (dg_lt_len (n := a) (i := N2)).1 (by omega)
      omega)
    have HE := Lib.hid hE
    have f1 : ((N1 : Int) != (N2 : Int)) = true := by simp; omega
    have f2 : ¬ (N1 : Int) < N2 := by omega
    clear hE e1 e2 hN1 hN2 h1 h2 ha hb
    go_enter Tryd.func63, Tryd.ntmps63
    go_wp2_with fail
    go_ret
    exact ⟨ret1 HE.out.symm, 0, rfl⟩
  have hNN : N1 = N2 := by omega
  subst hNN
  have H1 := Lib.hid h1
  have H2 := Lib.hid h2
  have HA := Lib.hid (Nat.div_eq_of_lt (e1.1 (by omega)))
  have HB := Lib.hid (Nat.div_eq_of_lt (e2.1 (by omega)))
  have f1 : ((N1 : Int) != (N1 : Int)) = false := by simp
  clear h1 h2 e1 e2 ha hb hN1 hN2
  go_enter Tryd.func63, Tryd.ntmps63
  go_wp2_with fail
  go_loopw [5] (fun c wr => ∃ (j : Nat), j ≤ N1 ∧ c = .int .i64 ((j : Int) - 1) ∧ a / PW j = b / PW j ∧ ∃ n, wr = w.drewN n) (fun c _ => (intOf c + 1).toNat)
  case atStart => exact ⟨N1, Nat.le_refl _, rfl, by rw [HA.out, HB.out], 0, rfl⟩
  case round =>
    obtain ⟨j, hj, rfl, hq, n, rfl⟩ := hrel
    have HQ := Lib.hid hq
    clear hq
    rcases j with _ | i
    · have HE : Hid (cmpN a b = 0) := Lib.hid (cmp_eq (by have := HQ.out; simpa [PW_zero] using this))
      go_wp2_with fail
      go_ret
      exact ⟨ret1 HE.out.symm, n, rfl⟩
    · obtain ⟨a1, rfl, _, r1⟩ := H1.out (by omega)
      obtain ⟨a2, rfl, _, r2⟩ := H2.out (by omega)
      have g1 := r1 i (by omega)
      have g2 := r2 i (by omega)
      rw [dg_getD] at g1 g2
      have s1 := top_step a i
      have s2 := top_step b i
      have hq := HQ.out
      have e0 : ((i + 1 : Nat) : Int) - 1 = (i : Int) := by omega
      have i0 : (0 : Int) ≤ (i : Int) := by omega
      have i1 : (i : Int) < (N1 : Int) := by omega
      have i2 : i < N1 := by omega
      rw [e0]
      have hlt : a / PW i % 10000 < b / PW i % 10000 → cmpN a b = -1 := fun h => cmp_lt (top_lt (i := i) (by omega))
      have hgt : b / PW i % 10000 < a / PW i % 10000 → cmpN a b = 1 := fun h => cmp_gt (top_lt (i := i) (by omega))
      have heq : a / PW i % 10000 = b / PW i % 10000 → a / PW i = b / PW i := fun h => by omega
      generalize a / PW i % 10000 = x at *
      generalize b / PW i % 10000 = y at *
      clear r1 r2 s1 s2 hq e0
      rcases Nat.lt_trichotomy x y with h | h | h
      · have HE := Lib.hid (hlt h)
        have k1 : (x : Int) < y := by omega
        clear hlt hgt heq
        go_wp2_with fail
        go_quiet (fail)
        go_wp2_with fail
        go_ret
        first | exact ⟨ret1 HE.out.symm, drew_ex ⟨n, rfl⟩ _⟩ | exact ⟨ret1 HE.out.symm, _, rfl⟩
      · have HE := Lib.hid (heq h)
        subst h
        clear hlt hgt heq
        go_wp2_with fail
        go_quiet (fail)
        go_wp2_with fail
        go_quiet (fail)
        go_wp2_with fail
        go_roundw
        case rel => first | exact ⟨i, by omega, rfl, HE.out, drew_ex (drew_ex ⟨n, rfl⟩ _) _⟩ | exact ⟨i, by omega, rfl, HE.out, _, rfl⟩
        case measure => first | (simp [intOf]; done) | (simp [intOf]; omega)
      · have HE := Lib.hid (hgt h)
        have k1 : ¬ (x : Int) < y := by omega
        have k2 : (y : Int) < x := by omega
        clear hlt hgt heq
        go_wp2_with fail
        go_quiet (fail)
        go_wp2_with fail
        go_quiet (fail)
        go_wp2_with fail
        go_ret
        first | exact ⟨ret1 HE.out.symm, drew_ex (drew_ex ⟨n, rfl⟩ _) _⟩ | exact ⟨ret1 HE.out.symm, _, rfl⟩

/-! The digits of an integer. -/
set_option maxRecDepth 100000 in
set_option maxHeartbeats 4000000 in
theorem bigSize (w : World) (x : Int) (x0 : -9223372036854775808 ≤ x) (x1 : x ≤ 9223372036854775807) :
    Calls Tryd.prog 38 #[.int .i64 x] w (BL w x.natAbs) := by
  obtain ⟨i0, hi, hz0, hz1, hz2⟩ := info_parts iint
  have HI := Lib.hid hi
  have HZ0 := Lib.hid hz0
  have HZ1 := Lib.hid hz1
  have HZ2 := Lib.hid hz2
  clear hi hz0 hz1 hz2
  go_enter Tryd.func38, Tryd.ntmps38
  go_wp2_with fail
  go_loopw [0, 3] (fun c o wr => ∃ (y : Int) (zs : List Int) (k : Nat) (v0 : Value), c = .int .i64 y ∧ v0 = o ∧ -9223372036854775808 ≤ y ∧ y ≤ 9223372036854775807 ∧ zs ++ dg y.natAbs = dg x.natAbs ∧ k ≤ 64 ∧ wr.ownsRow w.heap.size 3 1 v0 k (icells zs) ∧ Below w.heap.size w wr) (fun c _ _ => (intOf c).natAbs)
  case atStart => exact ⟨x, [], 0, _, rfl, rfl, x0, x1, rfl, by omega, World.ownsRow_nil _ _ _ _, Below.refl _ _⟩
  case round =>
    obtain ⟨y, zs, k, v0, rfl, rfl, y0, y1, hg, hk, hown, hb⟩ := hrel
    have HOWN := Lib.hid hown
    have HBL := Lib.hid hb
    have HG := Lib.hid hg
    have hlen : zs.length = k := by have := hown.1; simpa [icells] using this
    have hx16 : (dg x.natAbs).length ≤ 16 := (dg_len _ _).2 (by show x.natAbs < 10000 ^ 16; omega)
    clear hown hb hg
    by_cases h0 : y = 0
    · subst h0
      have HE : Hid (zs = dg x.natAbs) := Lib.hid (by have := HG.out; rw [show (0 : Int).natAbs = 0 by rfl, dg_zero, List.append_nil] at this; exact this)
      have HIL := Lib.hid (IL.of_own HOWN.out)
      go_wp2_with fail
      go_ret
      refine ⟨v0, rfl, ?_, HBL.out⟩
      unfold BN; rw [← HE.out]; exact HIL.out
    · have f0 : (y == 0) = false := by simpa using h0
      have hpos : y.natAbs ≠ 0 := by omega
      have hk16 : k < 16 := by
        have := congrArg List.length HG.out
        rw [List.length_append, hlen, dg_pos hpos, List.length_cons] at this
        omega
      have hG2 : (zs ++ [((y.natAbs % 10000 : Nat) : Int)]) ++ dg (y.natAbs / 10000) = dg x.natAbs := by
        have := HG.out
        rw [dg_pos hpos] at this
        rw [← this]; simp
      have HBIG : Hid ((k + 1) * 8 ≤ 140737488355328) := Lib.hid (by omega)
      have hq : (y.tdiv 10000).natAbs = y.natAbs / 10000 := by rw [Int.natAbs_tdiv]; rfl
      have hm : (y.tmod 10000).natAbs = y.natAbs % 10000 := by rw [Int.natAbs_tmod]; rfl
      rw [← hq, ← hm] at hG2
      have ht1 : -10000 < y.tmod 10000 := by omega
      have ht2 : y.tmod 10000 < 10000 := by omega
      have hq1 : -9223372036854775808 ≤ y.tdiv 10000 ∧ y.tdiv 10000 ≤ 9223372036854775807 := by omega
      have hql : (y.tdiv 10000).natAbs < y.natAbs := by omega
      have HQL := Lib.hid hql
      have HG2 := Lib.hid hG2
      obtain ⟨q, hqe⟩ : ∃ q, y.tdiv 10000 = q := ⟨_, rfl⟩
      obtain ⟨t, hte⟩ : ∃ t, y.tmod 10000 = t := ⟨_, rfl⟩
      rw [hqe] at HQL HG2 hq1
      rw [hte] at HG2 ht1 ht2
      have hqw : IntKind.i64.wrap q = q := IntWalk.i64_in _ hq1
      obtain ⟨q0, q1⟩ := hq1
      clear hG2 hq hm hql hpos h0
      by_cases hneg : t < 0
      · have HA : Hid (((t.natAbs : Nat) : Int) = 0 - t) := Lib.hid (by omega)
        rw [HA.out] at HG2
        go_wp2_with (at_builtin; refine wpList_append_own _ rfl _ _ 49 rfl (w.heap.size) 3 i0 (.int .i64 0) 1 8 Tryd.underlying49 HI.out HZ0.out HZ1.out HZ2.out rfl (by decide) v0 k (icells zs) rfl (HOWN.out.alloc _) ⟨wr.heap.size, 0, none⟩ 1 1 [.int .i64 (-t)] rfl rfl ?c1 ?c2 ?c3 ?c4 ?c5 ?_)
        try (case c1 => exact cell_one_new _ _ _)
        case c2 => first | rfl | (intro u hu; simp at hu; subst hu; rfl)
        case c3 => unfold maxLen; omega
        case c4 => exact HBIG.out
        case c5 => exact Nat.le_trans HBL.out.size (by first | omega | simp)
        intro v5 w5 hown5 hgrow _
        have HOWN5 : Hid (w5.ownsRow (w.heap.size) 3 1 v5 (k + 1) (icells (zs ++ [-t]))) := by
          unfold icells at hown5 ⊢; rw [List.map_append]; exact hown5
        have HBL5 := Lib.hid (below_grown HBL.out HBL.out.size HOWN.out hgrow)
        clear hown5 hgrow
        go_wp2_with fail
        go_roundw
        case rel => exact ⟨q, zs ++ [-t], k + 1, v5, rfl, rfl, q0, q1, by have := HG2.out; rwa [show 0 - t = -t by omega] at this, by omega, HOWN5.out, HBL5.out⟩
        case measure => simp [intOf]; exact HQL.out
      · have HA : Hid (((t.natAbs : Nat) : Int) = t) := Lib.hid (by omega)
        rw [HA.out] at HG2
        go_wp2_with (at_builtin; refine wpList_append_own _ rfl _ _ 49 rfl (w.heap.size) 3 i0 (.int .i64 0) 1 8 Tryd.underlying49 HI.out HZ0.out HZ1.out HZ2.out rfl (by decide) v0 k (icells zs) rfl (HOWN.out.alloc _) ⟨wr.heap.size, 0, none⟩ 1 1 [.int .i64 (t)] rfl rfl ?c1 ?c2 ?c3 ?c4 ?c5 ?_)
        try (case c1 => exact cell_one_new _ _ _)
        case c2 => first | rfl | (intro u hu; simp at hu; subst hu; rfl)
        case c3 => unfold maxLen; omega
        case c4 => exact HBIG.out
        case c5 => exact Nat.le_trans HBL.out.size (by first | omega | simp)
        intro v5 w5 hown5 hgrow _
        have HOWN5 : Hid (w5.ownsRow (w.heap.size) 3 1 v5 (k + 1) (icells (zs ++ [t]))) := by
          unfold icells at hown5 ⊢; rw [List.map_append]; exact hown5
        have HBL5 := Lib.hid (below_grown HBL.out HBL.out.size HOWN.out hgrow)
        clear hown5 hgrow
        go_wp2_with fail
        go_roundw
        case rel => exact ⟨q, zs ++ [t], k + 1, v5, rfl, rfl, q0, q1, HG2.out, by omega, HOWN5.out, HBL5.out⟩
        case measure => simp [intOf]; exact HQL.out

end Go.Proofs.YtbaalbmchhgmnaaDoor

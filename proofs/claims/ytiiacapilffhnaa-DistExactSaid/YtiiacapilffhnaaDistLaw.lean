/-
  Plain laws of distributions: single values, a common factor, the values in order. No program in sight.
-/
import Derived.Test.YtiiacapilffhnaaDistJ
namespace Go.Proofs.Ytiiacapilffhnaa
open Go.RowKit
set_option linter.unusedVariables false
set_option linter.unusedSimpArgs false

/-! A row of ranges of the call's own. -/
def dcells (l : List Rg) : List Value := (l.map rcells).flatten
theorem dcells_append (l m : List Rg) : dcells (l ++ m) = dcells l ++ dcells m := by simp [dcells]
theorem dcells_len : ∀ (l : List Rg), (dcells l).length = l.length * 4
  | [] => rfl
  | r :: l => by
    have := dcells_len l
    simp only [dcells, List.map_cons, List.flatten_cons, List.length_append, List.length_cons] at this ⊢
    rw [this]; simp [rcells]; omega
theorem dcells_get : ∀ (l : List Rg) (k j : Nat) (u : Value), k < l.length → (rcells (l.getD k rg0))[j]? = some u → (dcells l)[k * 4 + j]? = some u
  | [], k, j, u, h, _ => absurd h (by simp)
  | r :: l, 0, j, u, _, hj => by
    have hl : j < (rcells r).length := (List.getElem?_eq_some_iff.1 hj).1
    simp only [dcells, List.map_cons, List.flatten_cons]
    rw [show 0 * 4 + j = j by omega, List.getElem?_append_left hl]
    exact hj
  | r :: l, k + 1, j, u, h, hj => by
    have ih := dcells_get l k j u (by simpa using h) (by simpa using hj)
    simp only [dcells, List.map_cons, List.flatten_cons] at ih ⊢
    rw [List.getElem?_append_right (by simp [rcells]; omega), show (k + 1) * 4 + j - (rcells r).length = k * 4 + j by simp [rcells]; omega]
    exact ih
theorem DL.of_own {w : World} {base : Nat} {t : TypeId} {v : Value} {n : Nat} {l : List Rg} (h : w.ownsRow base t 4 v n (dcells l)) : DL w v l := by
  have hl : l.length = n := by have := h.1; rw [dcells_len] at this; omega
  have h0 := h
  obtain ⟨_, h2⟩ := h
  rcases h2 with ⟨rfl, h2⟩ | ⟨g, cap, cur, rfl, hg, hh, hnc, hcm, _⟩
  · have : l = [] := List.eq_nil_of_length_eq_zero (by omega)
    subst this
    exact ⟨none, 0, rfl, Nat.le_refl _, by omega, fun h => absurd h (by simp)⟩
  · unfold maxLen at hcm
    refine ⟨some ⟨g, 0, none⟩, cap, by rw [hl], by omega, hcm, fun hp => ⟨⟨g, 0, none⟩, rfl, ?_, fun k hk => ?_⟩⟩
    · rcases Nat.lt_or_ge g w.heap.size with hlt | hge
      · exact hlt
      · rw [Array.getElem?_eq_none hge] at hh; cases hh
    · have hc := World.ownsRow.cells h0 (g := g) rfl
      have e0 := hc _ _ (dcells_get l k 0 _ hk rfl)
      have e1 := hc _ _ (dcells_get l k 1 _ hk rfl)
      have e2 := hc _ _ (dcells_get l k 2 _ hk rfl)
      have e3 := hc _ _ (dcells_get l k 3 _ hk rfl)
      have hadd : ∀ n, (⟨g, 0, none⟩ : Addr).add n = ⟨g, n, none⟩ := fun n => by unfold Addr.add; split <;> simp_all
      rw [hadd] at e0 e1 e2 e3 ⊢
      exact ⟨e0, e1, e2, e3⟩

/-! For single values it does not matter whether a range is Each. -/
def flip (r : Rg) : Rg := if r.lo = r.hi then ⟨r.lo, r.hi, r.wt, !r.ea⟩ else r
theorem flip_lo (r : Rg) : (flip r).lo = r.lo := by unfold flip; split <;> rfl
theorem flip_hi (r : Rg) : (flip r).hi = r.hi := by unfold flip; split <;> rfl
theorem flip_wt (r : Rg) : (flip r).wt = r.wt := by unfold flip; split <;> rfl
theorem flip_fit {r : Rg} (h : r.fit) : (flip r).fit := by unfold Rg.fit at *; rw [flip_lo, flip_hi, flip_wt]; exact h
theorem flip_vld (l : List Rg) (wd : Int) : vld (l.map flip) wd = vld l wd := by
  unfold vld
  rw [List.length_map, List.all_map]
  have : ((fun r => rgOk r wd) ∘ flip) = fun r => rgOk r wd := by
    funext r; simp only [Function.comp, rgOk, flip_lo, flip_hi, flip_wt]
  rw [this]
theorem lcm_one {s : Int} (h : 1 ≤ s) : ((Int.lcm s 1 : Nat) : Int) = s := by
  rw [Int.lcm_one_right]; omega
theorem flip_scl : ∀ (l : List Rg) (s : Int), (∀ r ∈ l, r.lo ≤ r.hi) → 1 ≤ s → s ≤ 9223372036854775807 → sclRun (l.map flip) s = sclRun l s
  | [], s, _, _, _ => rfl
  | r :: l, s, hr, h1, h2 => by
    have hlo := hr r (by simp)
    have ih := fun s a b => flip_scl l s (fun x hx => hr x (by simp [hx])) a b
    rw [List.map_cons, sclRun, sclRun, flip_lo, flip_hi]
    by_cases he : r.lo = r.hi
    · have e1 : r.hi - r.lo + 1 = 1 := by omega
      have e2 : (flip r).ea = !r.ea := by unfold flip; rw [if_pos he]
      rw [e1, lcm_one h1, cE_yes (by omega) h2, e2, ih s h1 h2]
      cases r.ea <;> simp
    · have e2 : (flip r).ea = r.ea := by unfold flip; rw [if_neg he]
      rw [e2]
      by_cases hE : r.ea = true
      · rw [if_pos hE, if_pos hE]; exact ih s h1 h2
      · rw [if_neg hE, if_neg hE]
        by_cases hc : cE (Int.lcm s (r.hi - r.lo + 1)) = 0
        · rw [if_pos hc, if_pos hc]
          have hp : 0 < Int.lcm s (r.hi - r.lo + 1) := Nat.pos_of_ne_zero fun h0 => by
            rcases Int.lcm_eq_zero_iff.1 h0 with h | h <;> omega
          have hz := cE_zero hc
          exact ih _ (by omega) hz.2
        · rw [if_neg hc, if_neg hc]
theorem flip_fnd (l : List Rg) (v : Int) : fnd (l.map flip) v = (fnd l v).map flip := by
  unfold fnd
  rw [List.find?_map]
  have : (inR v ∘ flip) = inR v := by funext r; simp only [Function.comp, inR, flip_lo, flip_hi]
  rw [this]
theorem flip_wgt1 (r : Rg) (n : Int) : wgt1 (flip r) n = wgt1 r n := by
  unfold wgt1
  rw [flip_lo, flip_hi, flip_wt]
  by_cases he : r.lo = r.hi
  · have e1 : r.hi - r.lo + 1 = 1 := by omega
    rw [e1, Int.ediv_one]; simp
  · have e2 : (flip r).ea = r.ea := by unfold flip; rw [if_neg he]
    rw [e2]
theorem flip_wgt (l : List Rg) (n v : Int) : wgt (l.map flip) n v = wgt l n v := by
  unfold wgt
  rw [flip_fnd]
  cases fnd l v with
  | none => rfl
  | some r => simp only [Option.map_some, flip_wgt1]
theorem flip_tot (l : List Rg) (n : Int) : ∀ (k v : Nat) (s : Int), totRun (l.map flip) n k v s = totRun l n k v s
  | 0, v, s => rfl
  | k + 1, v, s => by rw [totRun, totRun, flip_wgt, flip_tot l n k]
theorem flip_sclv {l : List Rg} {wd : Int} (h : vld l wd = 0) : scl (l.map flip) = scl l :=
  flip_scl l 1 (fun r hr => ((vld_RV h).mem hr).2.1) (by omega) (by omega)
theorem flip_prob (l : List Rg) (wd x : Int) : prob (l.map flip) wd x = prob l wd x := by
  unfold prob
  rw [flip_vld]
  by_cases hv : vld l wd = 0
  · have hs := flip_sclv hv
    have ht : tot (l.map flip) wd = tot l wd := by unfold tot; rw [flip_vld, hs, flip_tot]
    rw [ht, hs, flip_wgt]
  · rw [if_pos hv, if_pos hv]
theorem flip_wgtE (l : List Rg) (x : Int) : wgtE (l.map flip) x = wgtE l x := by
  unfold wgtE sclE
  rw [flip_vld]
  by_cases hv : vld l 8 = 0
  · rw [flip_sclv hv, flip_wgt]
  · simp only [hv, if_false]

/-! A common factor. -/
theorem le_mul1 {a m : Int} (ha : 0 ≤ a) (hm : 1 ≤ m) : a ≤ a * m := by
  have := Int.mul_le_mul_of_nonneg_left hm ha
  simpa using this
def byF (m : Int) (r : Rg) : Rg := ⟨r.lo, r.hi, r.wt * m, r.ea⟩
theorem byF_vld {l : List Rg} {wd m : Int} (hm : 1 ≤ m) (hw : ∀ r ∈ l, 0 ≤ r.wt) (h : vld (l.map (byF m)) wd = 0) : vld l wd = 0 := by
  obtain ⟨h1, h2, h3, h4, h5⟩ := vld_zero h
  rw [List.length_map] at h3 h4
  refine vld_good (by omega) (by omega) (by omega) fun k hk => ?_
  have hmem : l.getD k rg0 ∈ l := by rw [List.getD_eq_getElem?_getD, List.getElem?_eq_getElem hk]; exact List.getElem_mem hk
  have := rgOk_iff.1 (h5 (byF m (l.getD k rg0)) (List.mem_map.2 ⟨_, hmem, rfl⟩))
  rw [rgOk_iff]
  obtain ⟨a, b, c, d, e⟩ := this
  have hnn := hw _ hmem
  refine ⟨a, b, c, hnn, Int.le_trans ?_ e⟩
  simp only [byF]
  exact le_mul1 hnn hm
theorem byF_scl (m : Int) : ∀ (l : List Rg) (s : Int), sclRun (l.map (byF m)) s = sclRun l s
  | [], s => rfl
  | r :: l, s => by
    rw [List.map_cons, sclRun, sclRun, byF_scl m l]
    simp only [byF, byF_scl m l]
theorem byF_fnd (m : Int) (l : List Rg) (v : Int) : fnd (l.map (byF m)) v = (fnd l v).map (byF m) := by
  unfold fnd
  rw [List.find?_map]
  have : (inR v ∘ byF m) = inR v := by funext r; rfl
  rw [this]
theorem byF_wgt1 (m : Int) (r : Rg) (n : Int) : wgt1 (byF m r) n = m * wgt1 r n := by
  unfold wgt1 byF
  simp only
  split <;> (rw [Int.mul_comm r.wt m, Int.mul_assoc])
theorem byF_wgt {m : Int} {l : List Rg} {n : Int} (hm : 1 ≤ m) (hv : RV l) (h1 : 1 ≤ n) (v : Int) (hok : (wgt (l.map (byF m)) n v).2 = 0) : (wgt l n v).2 = 0 ∧ (wgt (l.map (byF m)) n v).1 = m * (wgt l n v).1 := by
  unfold wgt at *
  rw [byF_fnd] at *
  cases hf : fnd l v with
  | none => simp
  | some r =>
    rw [hf] at hok
    simp only [Option.map_some, byF_wgt1] at hok ⊢
    have hn := wgt1_nonneg (hv.mem (fnd_mem hf).1) h1
    obtain ⟨_, hle⟩ := cE_zero hok
    have hle2 : wgt1 r n ≤ m * wgt1 r n := by rw [Int.mul_comm]; exact le_mul1 hn hm
    rw [cE_yes (n := wgt1 r n) (by omega) (by omega), cV_yes (n := m * wgt1 r n) (by omega) hle, cV_yes (n := wgt1 r n) (by omega) (by omega)]
    exact ⟨rfl, rfl⟩
theorem tot_step {l : List Rg} {n : Int} {k v : Nat} {s : Int} (h1 : (wgt l n v).2 = 0) (h2 : cE (s + (wgt l n v).1) = 0) : totRun l n (k + 1) v s = totRun l n k (v + 1) (s + (wgt l n v).1) := by rw [totRun, if_pos h1, if_pos h2]
theorem prob_ok {l : List Rg} {wd : Int} (x : Int) (h : vld l wd = 0) : prob l wd x = if x < 0 ∨ (two wd : Int) ≤ x then (0, 0, 1) else if (tot l wd).2 ≠ 0 then (0, 0, (tot l wd).2) else mk (wgt l (scl l).1 x).1 (tot l wd).1 := by unfold prob; rw [if_neg (by rw [h]; decide)]
theorem byF_tot {m : Int} {l : List Rg} {n : Int} (hm : 1 ≤ m) (hv : RV l) (h1 : 1 ≤ n) : ∀ (k v : Nat) (s : Int), 0 ≤ s → s ≤ 9223372036854775807 → (totRun (l.map (byF m)) n k v (m * s)).2 = 0 →
    (totRun l n k v s).2 = 0 ∧ (totRun (l.map (byF m)) n k v (m * s)).1 = m * (totRun l n k v s).1 ∧ ∀ j : Nat, v ≤ j → j < v + k → (wgt (l.map (byF m)) n j).2 = 0
  | 0, v, s, h0, h2, h => ⟨rfl, rfl, fun j h3 h4 => absurd h4 (by omega)⟩
  | k + 1, v, s, h0, h2, h => by
    rw [totRun] at h
    by_cases hw : (wgt (l.map (byF m)) n v).2 = 0
    · rw [if_pos hw] at h
      obtain ⟨e1, e2⟩ := byF_wgt hm hv h1 v hw
      by_cases hc : cE (m * s + (wgt (l.map (byF m)) n v).1) = 0
      · rw [if_pos hc] at h
        have hnn : 0 ≤ (wgt l n v).1 := by
          rcases wgt_ways hv h1 v with h | h
          · exact h.2.1
          · rw [h] at e1; simp at e1
        have e3 : m * s + (wgt (l.map (byF m)) n v).1 = m * (s + (wgt l n v).1) := by rw [e2, Int.mul_add]
        rw [e3] at h hc
        have hz := cE_zero hc
        have hle : s + (wgt l n v).1 ≤ m * (s + (wgt l n v).1) := by rw [Int.mul_comm]; exact le_mul1 (by omega) hm
        obtain ⟨i1, i2, i3⟩ := byF_tot hm hv h1 k (v + 1) (s + (wgt l n v).1) (by omega) (by omega) h
        have hc2 : cE (s + (wgt l n v).1) = 0 := cE_yes (by omega) (by omega)
        rw [tot_step hw (by rw [e3]; exact hc), tot_step e1 hc2, e3]
        refine ⟨i1, i2, fun j h3 h4 => ?_⟩
        by_cases hj : j = v
        · rw [hj]; exact hw
        · exact i3 j (by omega) (by omega)
      · rw [if_neg hc] at h; simp at h
    · rw [if_neg hw] at h; simp at h
theorem gcd_scale (m a b : Nat) : Nat.gcd (m * a) (m * b) = m * Nat.gcd a b := Nat.gcd_mul_left m a b
theorem mk_scale {m a b : Int} (hm : 1 ≤ m) (ha : 0 ≤ a) (hb : 0 ≤ b) : mk (m * a) (m * b) = mk a b := by
  unfold mk
  by_cases h0 : b = 0
  · subst h0; simp
  · have hmb : m * b ≠ 0 := Int.mul_ne_zero (by omega) h0
    have hma : 0 ≤ m * a := Int.mul_nonneg (by omega) ha
    have hmb2 : 0 ≤ m * b := Int.mul_nonneg (by omega) hb
    rw [if_neg h0, if_neg hmb]
    have e : sgn (m * a) (m * b) = sgn a b := by
      unfold sgn
      rw [show decide (m * a < 0) = false by simp; omega, show decide (m * b < 0) = false by simp; omega, show decide (a < 0) = false by simp; omega, show decide (b < 0) = false by simp; omega]
    have hmp : 0 < m.natAbs := by omega
    rw [e, Int.natAbs_mul, Int.natAbs_mul, gcd_scale, Nat.mul_div_mul_left _ _ hmp, Nat.mul_div_mul_left _ _ hmp]
theorem byF_prob {m : Int} {l : List Rg} {wd x : Int} (hm : 1 ≤ m) (hw : ∀ r ∈ l, 0 ≤ r.wt) (h : vld (l.map (byF m)) wd = 0) (hn : (prob (l.map (byF m)) wd x).2.2 ≠ 3) : prob (l.map (byF m)) wd x = prob l wd x := by
  have hv := byF_vld hm hw h
  have hrv := vld_RV hv
  have hs : scl (l.map (byF m)) = scl l := byF_scl m l 1
  rw [prob_ok x h] at hn ⊢
  rw [prob_ok x hv]
  by_cases hx : x < 0 ∨ (two wd : Int) ≤ x
  · rw [if_pos hx, if_pos hx]
  rw [if_neg hx] at hn ⊢
  rw [if_neg hx]
  rcases tot_ways (l.map (byF m)) wd with ⟨t1, t2⟩ | ⟨t1, _, t3, t4, t5, t6, t7, t8, t9⟩
  · exfalso
    rw [if_pos t1] at hn
    apply hn
    simp only
    have ht := t1
    unfold tot at t1 ⊢
    rw [if_neg (by rw [h]; decide)] at t1 ⊢
    rcases scl_bd h with hh | ⟨h1, h2, h3⟩
    · rw [if_pos (by rw [hh]; decide), hh]
    · rw [if_neg (by rw [h1]; decide)] at t1 ⊢
      rcases totRun_bd (vld_RV h) h2 (two wd) 0 0 (by omega) (by omega) with hh | hh
      · exact absurd hh.1 t1
      · rw [hh]
  · rw [hs] at t3 t4 t5
    have ht : tot (l.map (byF m)) wd = totRun (l.map (byF m)) (scl l).1 (two wd) 0 (m * 0) := by rw [tot_ok h (by rw [hs]; exact t3), hs, Int.mul_zero]
    have ht2 : tot l wd = totRun l (scl l).1 (two wd) 0 0 := tot_ok hv t3
    have t1' := t1
    rw [ht] at t1'
    obtain ⟨i1, i2, i3⟩ := byF_tot hm hrv t4 (two wd) 0 0 (by omega) (by omega) t1'
    rw [← ht2] at i1 i2
    rw [← ht] at i2
    rw [if_neg (by rw [t1]; simp), if_neg (by rw [i1]; simp), hs, i2]
    obtain ⟨k, rfl⟩ := Int.eq_ofNat_of_zero_le (show 0 ≤ x by omega)
    obtain ⟨e1, e2⟩ := byF_wgt hm hrv t4 k (i3 k (by omega) (by omega))
    rw [e2]
    have hnn : 0 ≤ (wgt l (scl l).1 k).1 := by
      rcases wgt_ways hrv t4 k with h | h
      · exact h.2.1
      · rw [h] at e1; simp at e1
    have htn : 0 ≤ (tot l wd).1 := by
      rcases tot_ways l wd with ⟨a, _⟩ | ⟨_, _, _, _, _, a, _⟩
      · exact absurd i1 a
      · exact a
    exact mk_scale hm hnn htn

/-! The values in order. -/
theorem nthRun_spec (l : List Rg) (n : Int) : ∀ (k v : Nat) (x t : Int), 0 ≤ x → (∀ j, v ≤ j → j < v + k → 0 ≤ (wgt l n j).1) → pre l n v + x < pre l n (v + k) →
    ∃ u : Nat, nthRun l n k v x = ((u : Int), 0) ∧ v ≤ u ∧ u < v + k ∧ pre l n u ≤ pre l n v + x ∧ pre l n v + x < pre l n (u + 1)
  | 0, v, x, t, h0, _, h => by rw [Nat.add_zero] at h; omega
  | k + 1, v, x, t, h0, hw, h => by
    rw [nthRun]
    have hs := pre_succ l n v
    by_cases hx : x < (wgt l n v).1
    · rw [if_pos hx]
      exact ⟨v, rfl, Nat.le_refl _, by omega, by omega, by omega⟩
    · rw [if_neg hx]
      obtain ⟨u, e1, e2, e3, e4, e5⟩ := nthRun_spec l n k (v + 1) (x - (wgt l n v).1) t (by omega) (fun j h1 h2 => hw j (by omega) (by omega)) (by rw [hs, show v + 1 + k = v + (k + 1) by omega]; omega)
      exact ⟨u, e1, by omega, by omega, by omega, by omega⟩
theorem pre_mono (l : List Rg) (n : Int) (B : Nat) (hw : ∀ j, j < B → 0 ≤ (wgt l n j).1) : ∀ (d a : Nat), a + d ≤ B → pre l n a ≤ pre l n (a + d)
  | 0, a, _ => Int.le_refl _
  | d + 1, a, h => by
    have := pre_mono l n B hw d a (by omega)
    have hs := pre_succ l n (a + d)
    have := hw (a + d) (by omega)
    rw [← Nat.add_assoc]
    omega
/-- The value with a number, where the total fits. -/
theorem nth_spec {l : List Rg} {wd : Int} (h : (tot l wd).2 = 0) : ∃ (n : Int) (B : Nat), B = two wd ∧ 1 ≤ n ∧ vld l wd = 0 ∧ (tot l wd).1 = pre l n B ∧ 0 ≤ (tot l wd).1 ∧ (∀ j, j < B → 0 ≤ (wgt l n j).1) ∧ (∀ j : Nat, j < B → wgtE l j = ((wgt l n j).1, 0)) ∧
    (∀ x : Int, 0 ≤ x → x < (tot l wd).1 → ∃ u : Nat, nth l wd x = ((u : Int), 0) ∧ u < B ∧ pre l n u ≤ x ∧ x < pre l n (u + 1)) ∧ nth l wd (tot l wd).1 = (0, 12) := by
  rcases tot_ways l wd with ⟨a, _⟩ | ⟨_, hv, hs, n0, n1, t0, t1, hp, hj⟩
  · exact absurd h a
  have hw : ∀ j, j < two wd → 0 ≤ (wgt l (scl l).1 j).1 := fun j hjj => by
    rcases wgt_ways (vld_RV hv) n0 j with h | h
    · exact h.2.1
    · have := hj j hjj; rw [h] at this; simp at this
  refine ⟨(scl l).1, two wd, rfl, n0, hv, hp, t0, hw, fun j hjj => ?_, fun x x0 x1 => ?_, ?_⟩
  · unfold wgtE sclE
    rw [if_pos (vld_8 hv), if_pos hs]
    exact Prod.ext rfl (hj j hjj)
  · unfold nth
    rw [if_neg (by rw [h]; decide), if_neg (by omega)]
    obtain ⟨u, e1, _, e3, e4, e5⟩ := nthRun_spec l (scl l).1 (two wd) 0 x 0 x0 (fun j _ h2 => hw j (by omega)) (by rw [pre_zero, Nat.zero_add, ← hp]; omega)
    rw [pre_zero] at e4 e5
    exact ⟨u, e1, by omega, by omega, by omega⟩
  · unfold nth
    rw [if_neg (by rw [h]; decide), if_pos (.inr (Int.le_refl _))]

end Go.Proofs.Ytiiacapilffhnaa

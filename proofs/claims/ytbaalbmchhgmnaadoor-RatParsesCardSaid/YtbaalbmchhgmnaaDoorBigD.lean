/-
  Contracts of the reference's natural numbers: divide.
-/
import Derived.Test.YtbaalbmchhgmnaaDoorBigC
namespace Go.Proofs.YtbaalbmchhgmnaaDoor
open Go.RowKit
set_option linter.unusedVariables false
set_option linter.unusedSimpArgs false

/-! Appending a slice that came in. -/
theorem run_append_nil {P : Program} (w : World) (base : Nat) (t ty e : TypeId) (i : TypeInfo) (size : Nat) (ht : P.underlying t = some (.slice e)) (hi : P.info? e = some i) (v : Value) (n : Nat) (xs : List Value)
    (hown : w.ownsRow base e size v n xs) (c : Nat) : (Builtin.append_ #[t, t] ty #[v, .slice none 0 c]).run P w = .ok v w := by
  rcases hown.2 with ⟨rfl, rfl⟩ | ⟨g, cap, cur, rfl, _, _, hnc, _⟩
  · simp [Builtin.append_, run_underlying ht, sizeOf, typeInfo, hi, Builtin.lenOf, Builtin.firstCells]
  · simp [Builtin.append_, run_underlying ht, sizeOf, typeInfo, hi, Builtin.lenOf, Builtin.firstCells, hnc, storeCells]
theorem wpList_append_il {P : Program} {w : World} {ops : Array Oper} {rest : List Oper} {o : Oper} {a : Act} {Q : Exit → Act → World → Prop} (hgd : o.guard = none) (s x : Operand) (t : TypeId)
    (ho : o.op = .call { callee := .builtin .append, args := #[s, x], argTypes := #[t, t] })
    (base : Nat) (e : TypeId) (i : TypeInfo) (bytes : Nat) (ht : P.underlying t = some (.slice e)) (hi : P.info? e = some i) (hz : i.zero = some (.int .i64 0))
    (hsize : i.size = 1) (hby : i.bytes = bytes) (v : Value) (n : Nat) (xs : List Value) (hs : a.eval s = v) (hown : w.ownsRow base e 1 v n xs)
    (A : Option Addr) (m c : Nat) (zs : List Int) (hx : a.eval x = .slice A m c) (hr : IL w (.slice A m c) zs) (h63 : n + m ≤ maxLen) (hbytes : (n + m) * bytes ≤ 140737488355328) (hbase : base ≤ w.heap.size)
    (h : ∀ v' w', w'.ownsRow base e 1 v' (n + m) (xs ++ icells zs) → w.grownBy w' v.ownBlock → wpList P ops Q rest (a.put o.dst v') w') : wpList P ops Q (o :: rest) a w := by
  obtain ⟨A', c', hv', hc, hsl⟩ := hr
  injection hv' with h1 h2 h3
  subst h1 h2 h3
  rcases A with _ | ad
  · have hz0 : zs = [] := by
      rcases Nat.eq_zero_or_pos zs.length with h0 | h0
      · exact List.eq_nil_of_length_eq_zero h0
      · obtain ⟨a', ha, _⟩ := hsl h0; cases ha
    subst hz0
    refine wpList_plain hgd fun K hK => ?_
    have hrun := run_append_nil (P := P) w base t o.type e i 1 ht hi v n xs hown c
    unfold Oper.wp
    simp only [List.length_nil] at hx
    simp [execOp, ho, resolve, invoke, builtin, hs, hx, hrun, Result.andThen]
    refine hK _ _ (h v w ?_ (World.grownBy.refl w _))
    simpa [icells] using hown
  · refine wpList_append_own w hgd s x t ho base e i (.int .i64 0) 1 bytes ht hi hz hsize hby rfl (by decide) v n xs hs hown ad zs.length c (icells zs) hx (by simp [icells]) (fun j u hu => ?_) (fun u hu => ?_) h63 hbytes hbase (fun v' w' h1 h2 _ => h v' w' h1 h2)
    · have hj : j < zs.length := by
        have := (List.getElem?_eq_some_iff.1 hu).1
        simpa [icells] using this
      obtain ⟨a', ha, _, hcl⟩ := hsl (by omega)
      injection ha with ha
      subst ha
      rw [hcl j hj, ← hu]
      simp [icells, List.getD_eq_getElem?_getD, List.getElem?_eq_getElem hj]
    · simp only [icells, List.mem_map] at hu
      obtain ⟨z, _, rfl⟩ := hu
      rfl
theorem own_one (w : World) (base : Nat) (e : TypeId) (u : Value) (hb : base ≤ w.heap.size) : (w.alloc (.cells #[u] e)).ownsRow base e 1 (.slice (some ⟨w.heap.size, 0, none⟩) 1 1) 1 [u] :=
  ⟨rfl, .inr ⟨w.heap.size, 1, #[u], rfl, hb, heap_alloc_new w _, Nat.le_refl _, by decide, rfl, rfl⟩⟩
/-- A slice of a row from a block on; it is as it was behind a store below. -/
theorem IL.set_low {w : World} {base : Nat} {t : TypeId} {v : Value} {n : Nat} {zs : List Int} (h : w.ownsRow base t 1 v n (icells zs)) {p : Addr} (hp : p.block < base) (u : Value) {w1 : World} (hb : Below w.heap.size w w1) : IL (w1.setCell p u) v zs := by
  have h1 := IL.of_own (own_below h hb)
  obtain ⟨_, h2⟩ := h
  rcases h2 with ⟨rfl, h2⟩ | ⟨g, cap, cur, rfl, hg, hh, hnc, _⟩
  · obtain ⟨A, c, hv, hc, hs⟩ := h1
    refine ⟨A, c, hv, hc, fun hp => ?_⟩
    obtain ⟨a, ha, _⟩ := hs hp
    subst ha
    cases hv
  · obtain ⟨A, c, hv, hc, hs⟩ := h1
    refine ⟨A, c, hv, hc, fun hp' => ?_⟩
    obtain ⟨a, ha, hlt, hcl⟩ := hs hp'
    subst ha
    injection hv with hv
    injection hv with hv
    subst hv
    refine ⟨_, rfl, by simpa [World.setCell] using hlt, fun j hj => ?_⟩
    rw [World.cell?_setCell_other w1 p _ u (fun e => by rw [e, block_of_add] at hp; simp at hp; omega)]
    exact hcl j hj

/-! The digits of a quotient. -/
theorem vl_digits {n N : Nat} {zs : List Int} (hl : zs.length = N) (hn : n < PW N) (h : ∀ m, m < N → zs.getD m 0 = ((n / PW m % 10000 : Nat) : Int)) : vl zs = n := by
  have key : ∀ d m, m + d = N → vl (zs.drop m) = ((n / PW m : Nat) : Int) := by
    intro d
    induction d with
    | zero => intro m hm; rw [vl_drop_end (by omega), show m = N by omega, Nat.div_eq_of_lt hn]; rfl
    | succ d ih =>
      intro m hm
      rw [vl_drop (by omega), ih (m + 1) (by omega), h m (by omega)]
      have := top_step n m
      omega
  have := key N 0 (by omega)
  rw [List.drop_zero, PW_zero, Nat.div_one] at this
  exact this
theorem div_step {a b i : Nat} (hb : 0 < b) : a / PW i / b % 10000 = (a / PW (i + 1) % b * 10000 + a / PW i % 10000) / b ∧ a / PW i % b = (a / PW (i + 1) % b * 10000 + a / PW i % 10000) % b := by
  have h1 := top_step a i
  have h2 := Nat.mod_add_div (a / PW (i + 1)) b
  have h3 : a / PW (i + 1) % b < b := Nat.mod_lt _ hb
  have h4 : a / PW i % 10000 < 10000 := Nat.mod_lt _ (by decide)
  generalize a / PW i % 10000 = d at *
  generalize a / PW (i + 1) % b = r at *
  generalize a / PW (i + 1) / b = q at *
  have e : a / PW i = (r * 10000 + d) + b * (q * 10000) := by
    rw [h1, ← h2]
    have : b * (q * 10000) = b * q * 10000 := by rw [Nat.mul_assoc]
    omega
  rw [e]
  constructor
  · rw [Nat.add_mul_div_left _ _ hb]
    have hlt : (r * 10000 + d) / b < 10000 := by
      rw [Nat.div_lt_iff_lt_mul hb]
      have : (r + 1) * 10000 ≤ b * 10000 := Nat.mul_le_mul_right _ h3
      omega
    generalize (r * 10000 + d) / b = z at *
    omega
  · rw [Nat.add_mul_mod_self_left]
theorem div_small {b r d : Nat} (hb : 0 < b) (hr : r < b) (hd : d < 10000) : (r * 10000 + d) / b ≤ 9999 := by
  have : (r * 10000 + d) / b < 10000 := by
    rw [Nat.div_lt_iff_lt_mul hb]
    have : (r + 1) * 10000 ≤ b * 10000 := Nat.mul_le_mul_right _ hr
    omega
  omega

/-- The post of divide. -/
def BDV (w : World) (a b : Nat) (e : Ending) (w' : World) : Prop := ∃ vq vr, e = .returned (.tuple #[vq, vr]) ∧ (BN w' vq (a / b) ∧ BN w' vr (a % b) ∧ Below w.heap.size w w')

set_option maxRecDepth 100000 in
set_option maxHeartbeats 16000000 in
theorem bigDivide (w : World) (v1 v2 : Value) (a b : Nat) (h1 : BN w v1 a) (h2 : BN w v2 b) (ha : a < PW 50) (hb : b < PW 50) (hb0 : 0 < b) :
    Calls Tryd.prog 57 #[v1, v2] w (BDV w a b) := by
  obtain ⟨i0, hi, hz0, hz1, hz2⟩ := info_parts iint
  have HI := Lib.hid hi
  have HZ0 := Lib.hid hz0
  have HZ1 := Lib.hid hz1
  have HZ2 := Lib.hid hz2
  have l1 := (dg_len a 50).2 ha
  have ea := dg_len a
  have H2 := Lib.hid h2
  obtain ⟨A1, c1, rfl, hc1, hs1⟩ := h1
  obtain ⟨N1, hN1⟩ : ∃ N, N = (dg a).length := ⟨_, rfl⟩
  rw [← hN1] at hs1 l1 ea ⊢
  have HAN := Lib.hid ((ea N1).1 (by omega))
  have HS1 := Lib.hid hs1
  have HB := Lib.hid hb
  have HB0 := Lib.hid hb0
  have TS : Hid (∀ (x : Nat), x ≤ 9999 → ∀ w2, Below w.heap.size w w2 → Calls Tryd.prog 38 #[.int .i64 x] w2 (BL w2 x)) := Lib.hid fun x hx w2 hb2 => by
    have := bigSize w2 x (by omega) (by omega)
    rwa [show ((x : Int)).natAbs = x by omega] at this
  have TT : Hid (∀ (x : Nat), x ≤ 9999 → ∀ w2 vx, Below w.heap.size w w2 → BN w2 vx x → Calls Tryd.prog 43 #[v2, vx] w2 (BL w2 (b * x))) := Lib.hid fun x hx w2 vx hb2 hvx =>
    bigTimes w2 v2 vx b x (H2.out.below hb2) hvx (Nat.lt_trans hb (PW_lt.2 (by omega))) (Nat.lt_of_lt_of_le (show x < PW 1 by show x < 10000 ^ 1; omega) (PW_le.2 (by omega)))
  have HBX : Hid (∀ (x : Nat), x ≤ 9999 → b * x < PW 60) := Lib.hid fun x hx => by
    have h1 : b * x < PW 50 * 10000 := Nat.mul_lt_mul'' hb (by omega)
    rw [← PW_succ] at h1
    exact Nat.lt_of_lt_of_le h1 (PW_le.2 (by omega))
  have hmk := run_makeInts N1 (by omega)
  clear hi hz0 hz1 hz2 hN1 hc1 hs1 ea ha hb hb0 h2
  go_enter Tryd.func57, Tryd.ntmps57
  go_wp2_with fail
  have X0 := Lib.hid (Box.new w 3 (icArr (List.replicate N1 0)))
  have HW0 := Lib.hid (below_alloc w (.cells (icArr (List.replicate N1 0)) 3))
  have hw0 : (w.alloc (.cells (icArr (List.replicate N1 0)) 3)).heap.size = w.heap.size + 1 := by simp
  generalize w.alloc (.cells (icArr (List.replicate N1 0)) 3) = w0 at *
  have HSZ := Lib.hid hw0
  clear hmk hw0
  go_loopw [8, 7] (fun ci cr wr => ∃ (j : Nat) (zs : List Int) (vr : Value), j ≤ N1 ∧ ci = .int .i64 ((j : Int) - 1) ∧ vr = cr ∧ zs.length = N1 ∧ Box wr w.heap.size (icArr zs) 3 ∧ (∀ m, m < N1 → zs.getD m 0 = if m < j then 0 else ((a / PW m / b % 10000 : Nat) : Int)) ∧ BN wr vr (a / PW j % b) ∧ Below w.heap.size w wr) (fun ci _ _ => (intOf ci + 1).toNat)
  case atStart =>
    exact ⟨N1, _, _, Nat.le_refl _, rfl, rfl, by simp, X0.out, fun m hm => by rw [if_pos hm]; simp [List.getD_eq_getElem?_getD, hm], by rw [Nat.div_eq_of_lt HAN.out, Nat.zero_mod]; unfold BN; rw [dg_zero]; exact IL.nil _, HW0.out⟩
  case round =>
    obtain ⟨j, zs, vr, hj, rfl, rfl, hlen, hx, hzs, hbn, hb⟩ := hrel
    have HX := Lib.hid hx
    have HBL := Lib.hid hb
    have HZS := Lib.hid hzs
    have HBN := Lib.hid hbn
    have HLEN := Lib.hid hlen
    clear hx hb hzs hbn hlen
    rcases j with _ | i
    · have HDG : Hid (Dg zs) := Lib.hid fun d hd => by
        obtain ⟨m, hm, rfl⟩ := List.getElem_of_mem hd
        have := HZS.out m (by rw [HLEN.out] at hm; exact hm)
        rw [if_neg (by omega), List.getD_eq_getElem?_getD, List.getElem?_eq_getElem hm] at this
        have e : zs[m] = ((a / PW m / b % 10000 : Nat) : Int) := this
        rw [e]; omega
      have HV : Hid (vl zs = ((a / b : Nat) : Int)) := Lib.hid (vl_digits (N := N1) HLEN.out (Nat.lt_of_le_of_lt (Nat.div_le_self _ _) HAN.out) fun m hm => by
        rw [HZS.out m hm, if_neg (by omega), Nat.div_div_eq_div_mul, Nat.mul_comm (PW m), ← Nat.div_div_eq_div_mul])
      have HIL := Lib.hid (IL.of_box HX.out)
      rw [HLEN.out] at HIL
      go_wp2_with fail
      refine (bigTrim _ _ zs HIL.out HDG.out (by rw [HLEN.out]; omega)).mono ?_; rintro e w1 ⟨v5, rfl, hbn, rfl⟩
      have HBN5 : Hid (BN wr v5 (a / b)) := Lib.hid (by rw [HV.out, Int.toNat_natCast] at hbn; exact hbn)
      have HBN6 : Hid (BN wr vr (a % b)) := Lib.hid (by have := HBN.out; rwa [PW_zero, Nat.div_one] at this)
      clear hbn
      go_wp2_with fail
      go_ret2
      exact ⟨v5, vr, rfl, HBN5.out, HBN6.out, HBL.out⟩
    · obtain ⟨ad, rfl, had, hcl1⟩ := HS1.out (by omega)
      have qa := hcl1 i (by omega)
      rw [dg_getD] at qa
      have qa2 : wr.cell? (ad.add i) = some (.int .i64 ((a / PW i % 10000 : Nat) : Int)) := by rw [HBL.out.cell (by rw [block_of_add]; exact had)]; exact qa
      have hds := div_step (a := a) (i := i) HB0.out
      have hsm := div_small (d := a / PW i % 10000) HB0.out (Nat.mod_lt (a / PW (i + 1)) HB0.out) (Nat.mod_lt _ (by decide))
      have hrb := Nat.mod_lt (a / PW (i + 1)) HB0.out
      have hd9 : a / PW i % 10000 < 10000 := Nat.mod_lt _ (by decide)
      have e0 : ((i + 1 : Nat) : Int) - 1 = (i : Int) := by omega
      have j0 : (0 : Int) ≤ (i : Int) := by omega
      have j1 : (i : Int) < (N1 : Int) := by omega
      rw [e0]
      obtain ⟨A, c, rfl, hc, hsl⟩ := HBN.out
      have HR : Hid (IL wr (.slice A (dg (a / PW (i + 1) % b)).length c) (dg (a / PW (i + 1) % b))) := Lib.hid ⟨A, c, rfl, hc, hsl⟩
      generalize a / PW (i + 1) % b = r at *
      generalize a / PW i % 10000 = d at *
      have hrl : (dg r).length ≤ 50 := (dg_len r 50).2 (Nat.lt_trans hrb HB.out)
      obtain ⟨M, hM⟩ : ∃ M, M = (dg r).length := ⟨_, rfl⟩
      rw [← hM] at HR hrl ⊢
      have HDS := Lib.hid hds
      have HBIG : Hid ((1 + M) * 8 ≤ 140737488355328) := Lib.hid (by omega)
      have HRB := Lib.hid hrb
      have HM := Lib.hid hM
      have HOWN1 : Hid ((wr.alloc (.cells #[.int .i64 (d : Int)] 3)).ownsRow (w.heap.size + 1) 3 1 (.slice (some ⟨wr.heap.size, 0, none⟩) 1 1) 1 [.int .i64 (d : Int)]) := Lib.hid (own_one wr _ _ _ (by have := HX.out.lt; omega))
      have HSM := Lib.hid hsm
      have hd9' := hd9
      clear hc hsl hds hrb hM hcl1 qa e0 hsm HBN
      go_wp2_with (at_builtin; refine wpList_append_il rfl _ _ 49 rfl (w.heap.size + 1) 3 i0 8 Tryd.underlying49 HI.out HZ0.out HZ1.out HZ2.out (.slice (some ⟨wr.heap.size, 0, none⟩) 1 1) 1 [.int .i64 (d : Int)] rfl HOWN1.out A M c (dg r) rfl (HR.out.below (below_alloc _ _)) (by unfold maxLen; omega) HBIG.out ?c5 ?_)
      case c5 => have := HX.out.lt; first | omega | (simp; omega)
      intro v5 w5 hown5 hgrow
      have hown5' : w5.ownsRow (w.heap.size + 1) 3 1 v5 (1 + M) (icells ((d : Int) :: dg r)) := hown5
      have X5 : Box w5 w.heap.size (icArr zs) 3 := by
        have h1 := HX.out.below (below_alloc wr (.cells #[.int .i64 (d : Int)] 3))
        unfold Box at h1 ⊢
        rw [hgrow.block w.heap.size (Box.lt h1) (by have := HX.out.lt; simp [Value.ownBlock]; omega)]
        exact h1
      have hb5 : Below w.heap.size w w5 := (HBL.out.alloc HBL.out.size _).grown hgrow (Nat.le_trans HBL.out.size (by simp)) (fun q hq => by have := HBL.out.size; simp [Value.ownBlock] at hq; omega)
      have HOWN5 := Lib.hid hown5'
      have HX5 := Lib.hid X5
      have HBL5 := Lib.hid hb5
      have hil := IL.of_own hown5'
      have hll : ((d : Int) :: dg r).length = M + 1 := by rw [List.length_cons, HM.out]
      obtain ⟨A5, c5, hv5, hc5, hs5⟩ := hil
      have HIL5 : Hid (IL w5 (.slice A5 (M + 1) c5) ((d : Int) :: dg r)) := Lib.hid ⟨A5, c5, by rw [hll], hc5, hs5⟩
      have HIL5' : IL w5 (.slice A5 ((d : Int) :: dg r).length c5) ((d : Int) :: dg r) := ⟨A5, c5, rfl, hc5, hs5⟩
      rw [hll] at hv5
      subst hv5
      have HDG5 : Hid (Dg ((d : Int) :: dg r)) := Lib.hid fun x hx => by
        rcases List.mem_cons.1 hx with rfl | hx
        · omega
        · exact Dg_dg r x hx
      have hvl5 : (vl ((d : Int) :: dg r)).toNat = r * 10000 + d := by rw [vl, vl_dg]; omega
      have HVL5 := Lib.hid hvl5
      have HTR := Lib.hid (bigTrimS w5 A5 c5 ((d : Int) :: dg r) HIL5' HDG5.out (by rw [hll]; omega))
      rw [hvl5, hll] at HTR
      have HLL := Lib.hid hll
      clear hown5 hown5' hgrow X5 hb5 hc5 hs5 hll HIL5' HOWN1 HBL HX HR HVL5 hvl5 had
      go_wp2_with fail
      refine (HTR.out).mono ?_; rintro e w6 ⟨m, rfl, hm, htk, rfl⟩
      have HRS : Hid (∀ w' , Below w5.heap.size w5 w' → BN w' (.slice A5 m c5) (r * 10000 + d)) := Lib.hid fun w' hb => by
        have := (HIL5.out.below hb).take (by rw [HLL.out]; exact hm)
        unfold BN; rw [← htk]; exact this
      have HRS2 : Hid (∀ w2 w' u, Below w5.heap.size w5 w2 → Below (w2.setCell ⟨w.heap.size, i, none⟩ u).heap.size (w2.setCell ⟨w.heap.size, i, none⟩ u) w' → BN w' (.slice A5 m c5) (r * 10000 + d)) := Lib.hid fun w2 w' u hb hb' => by
        have h1 := IL.set_low HOWN5.out (p := ⟨w.heap.size, i, none⟩) (by show w.heap.size < w.heap.size + 1; omega) u hb
        have := (h1.below hb').take (by rw [HLL.out]; exact hm)
        unfold BN; rw [← htk]; exact this
      have hRP : r * 10000 + d < PW 60 := by
        have h1 := HRB.out
        have h2 := HB.out
        have h3 : (r + 1) * 10000 ≤ b * 10000 := Nat.mul_le_mul_right _ h1
        have h4 : b * 10000 < PW 51 := by rw [PW_succ]; exact Nat.mul_lt_mul_of_pos_right h2 (by decide)
        have h5 : PW 51 ≤ PW 60 := PW_le.2 (by omega)
        omega
      have hR2 : r * 10000 + d < b * (9999 + 1) := by
        have h1 := HRB.out
        have h3 : (r + 1) * 10000 ≤ b * 10000 := Nat.mul_le_mul_right _ h1
        omega
      have HRP := Lib.hid hRP
      generalize r * 10000 + d = R at *
      clear hm htk HTR hRP HIL5 HOWN5 HDG5 hrl HLL
      go_wp2_with fail
      go_loopw [10, 11] (fun lo hi wr2 => ∃ (l h : Nat), lo = .int .i64 l ∧ hi = .int .i64 h ∧ l ≤ h ∧ h ≤ 9999 ∧ b * l ≤ R ∧ R < b * (h + 1) ∧ Below w5.heap.size w5 wr2) (fun lo hi _ => (intOf hi - intOf lo).toNat)
      case atStart => exact ⟨0, 9999, rfl, rfl, by omega, by omega, by omega, hR2, Below.refl _ _⟩
      case round =>
        obtain ⟨l, h, rfl, rfl, hlh, h9, hbl, hbh, hb6⟩ := hrel
        have HB6 := Lib.hid hb6
        have HBL6 := Lib.hid (HBL5.out.trans (hb6.mono HBL5.out.size))
        have HL := Lib.hid hbl
        have HH := Lib.hid hbh
        clear hb6 hbl hbh hR2
        by_cases hlt : l < h
        · have hlt2 : (l : Int) < h := by omega
          obtain ⟨md, hmd⟩ : ∃ md : Nat, md = (l + h + 1) / 2 := ⟨_, rfl⟩
          have hm1 : l < md ∧ md ≤ h ∧ md ≤ 9999 := by omega
          have hmi : ((l : Int) + (h : Int) + 1) / 2 = (md : Int) := by omega
          obtain ⟨m1, m2, m3⟩ := hm1
          have T1 := Lib.hid (TS.out md m3)
          have T2 := Lib.hid (TT.out md m3)
          have hPB := HBX.out md m3
          have T3 : Hid (∀ w2 vx, Below w5.heap.size w5 w2 → BN w2 vx (b * md) → Calls Tryd.prog 63 #[vx, .slice A5 m c5] w2 fun e w' => e = .returned (.int .i64 (cmpN (b * md) R)) ∧ ∃ n, w' = w2.drewN n) := Lib.hid fun w2 vx hb2 hvx =>
            bigOrder w2 vx _ (b * md) R hvx (HRS.out _ hb2) (Nat.lt_trans hPB (PW_lt.2 (by omega))) (Nat.lt_trans HRP.out (PW_lt.2 (by omega)))
          clear hmd hPB
          by_cases hc : b * md ≤ R
          · have hcm : cmpN (b * md) R ≤ 0 := by
              rcases Nat.lt_or_ge (b * md) R with h | h
              · rw [cmp_lt h]; omega
              · rw [cmp_eq (by omega)]; omega
            generalize cmpN (b * md) R = cm at *
            have HC := Lib.hid hc
            clear hc
            go_wp2_with fail
            refine (T1.out _ HBL6.out).mono ?_; rintro e w7 ⟨v7, rfl, hn7, hb7⟩
            have HB7 := Lib.hid (below_step HB6.out hb7)
            have HBL7 := Lib.hid (HBL6.out.trans (hb7.mono HBL6.out.size))
            have HN7 := Lib.hid hn7
            clear hn7 hb7
            go_wp2_with fail
            refine (T2.out _ _ HBL7.out HN7.out).mono ?_; rintro e w8 ⟨v8, rfl, hn8, hb8⟩
            have HB8 := Lib.hid (below_step HB7.out hb8)
            have HN8 := Lib.hid hn8
            clear hn8 hb8
            go_wp2_with fail
            refine (T3.out _ _ HB8.out HN8.out).mono ?_; rintro e w9 ⟨rfl, n9, rfl⟩
            have HB9 := Lib.hid (below_drewN HB8.out n9)
            go_wp2_with fail
            go_roundw
            case rel => exact ⟨md, h, rfl, rfl, m2, h9, HC.out, HH.out, HB9.out⟩
            case measure => simp [intOf]; omega
          · have hcm : ¬ cmpN (b * md) R ≤ 0 := by rw [cmp_gt (by omega)]; omega
            generalize cmpN (b * md) R = cm at *
            have hmm : md - 1 + 1 = md := by omega
            have HC : Hid (R < b * (md - 1 + 1)) := Lib.hid (by rw [hmm]; omega)
            clear hc hmm
            go_wp2_with fail
            refine (T1.out _ HBL6.out).mono ?_; rintro e w7 ⟨v7, rfl, hn7, hb7⟩
            have HB7 := Lib.hid (below_step HB6.out hb7)
            have HBL7 := Lib.hid (HBL6.out.trans (hb7.mono HBL6.out.size))
            have HN7 := Lib.hid hn7
            clear hn7 hb7
            go_wp2_with fail
            refine (T2.out _ _ HBL7.out HN7.out).mono ?_; rintro e w8 ⟨v8, rfl, hn8, hb8⟩
            have HB8 := Lib.hid (below_step HB7.out hb8)
            have HN8 := Lib.hid hn8
            clear hn8 hb8
            go_wp2_with fail
            refine (T3.out _ _ HB8.out HN8.out).mono ?_; rintro e w9 ⟨rfl, n9, rfl⟩
            have HB9 := Lib.hid (below_drewN HB8.out n9)
            go_wp2_with fail
            go_roundw
            case rel => exact ⟨l, md - 1, rfl, by rw [show ((md - 1 : Nat) : Int) = (md : Int) - 1 by omega], by omega, by omega, HL.out, HC.out, HB9.out⟩
            case measure => simp [intOf]; omega
        · have hlh2 : l = h := by omega
          subst hlh2
          have hlt2 : ¬ (l : Int) < l := by omega
          have hq : R / b = l := by
            apply Nat.div_eq_of_lt_le
            · rw [Nat.mul_comm]; exact HL.out
            · rw [Nat.mul_comm]; exact HH.out
          have hr : R - b * l = R % b := by
            have := Nat.div_add_mod R b
            rw [hq] at this
            omega
          have X6 := HX5.out.below HB6.out
          have y6 := X6.at_ i _ (ic_get (zs := zs) (j := i) (by rw [HLEN.out]; omega))
          have z6 := X6.frozen i
          have HX7 := Lib.hid (X6.ints i (l : Int))
          have HBS := Lib.hid (HBL6.out.setCell (p := ⟨w.heap.size, i, none⟩) (Nat.le_refl _) (.int .i64 (l : Int)))
          have T1 := Lib.hid (TS.out l h9)
          have T2 := Lib.hid (TT.out l h9)
          have HZN : Hid (∀ m, m < N1 → (zs.set i (l : Int)).getD m 0 = if m < i then 0 else ((a / PW m / b % 10000 : Nat) : Int)) := Lib.hid fun m hm => by
            rw [getD_set (by rw [HLEN.out]; exact hm)]
            by_cases he : i = m
            · subst he
              rw [if_pos rfl, if_neg (by omega), HDS.out.1, hq]
            · rw [if_neg he, HZS.out m hm]
              by_cases h1 : m < i
              · rw [if_pos (by omega), if_pos h1]
              · rw [if_neg (by omega), if_neg h1]
          have HLN : Hid ((zs.set i (l : Int)).length = N1) := Lib.hid (by rw [List.length_set, HLEN.out])
          have HRR := Lib.hid (HDS.out.2.trans hr.symm)
          have i0' : i < N1 := by omega
          have RS := fun w' => HRS2.out _ w' (.int .i64 (l : Int)) HB6.out
          clear hq hr X6
          go_wp2_with fail
          clear y6 z6
          generalize wr.setCell ⟨w.heap.size, i, none⟩ (.int .i64 (l : Int)) = w7 at *
          have HRS7 := Lib.hid RS
          clear RS
          refine (T1.out _ HBS.out).mono ?_; rintro e w8 ⟨v8, rfl, hn8, hb8⟩
          have HB8 := Lib.hid hb8
          have HBL8 := Lib.hid (HBS.out.trans (hb8.mono HBS.out.size))
          have HN8 := Lib.hid hn8
          clear hn8 hb8
          go_wp2_with fail
          refine (T2.out _ _ HBL8.out HN8.out).mono ?_; rintro e w9 ⟨v9, rfl, hn9, hb9⟩
          have HB9 := Lib.hid (below_step HB8.out hb9)
          have HBL9 := Lib.hid (HBL8.out.trans (hb9.mono HBL8.out.size))
          have HN9 := Lib.hid hn9
          clear hn9 hb9
          go_wp2_with fail
          refine (bigMinus _ _ _ R (b * l) (HRS7.out _ HB9.out) HN9.out HL.out (Nat.lt_trans HRP.out (PW_lt.2 (by omega)))).mono ?_; rintro e w10 ⟨v10, rfl, hn10, hb10⟩
          have HN10 : Hid (BN w10 v10 (a / PW i % b)) := Lib.hid (by rw [HRR.out]; exact hn10)
          have HX10 := Lib.hid (HX7.out.below (below_step HB9.out hb10))
          have HBL10 := Lib.hid (HBL9.out.trans (hb10.mono HBL9.out.size))
          clear hn10 hb10
          go_wp2_with fail
          go_roundw
          case rel => exact ⟨i, zs.set i (l : Int), v10, by omega, rfl, rfl, HLN.out, HX10.out, HZN.out, HN10.out, HBL10.out⟩
          case measure => first | (simp [intOf]; done) | (simp [intOf]; omega)

end Go.Proofs.YtbaalbmchhgmnaaDoor

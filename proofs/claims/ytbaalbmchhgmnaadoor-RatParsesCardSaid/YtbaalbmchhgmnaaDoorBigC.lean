/-
  Contracts of the reference's natural numbers: times.
-/
import Derived.Test.YtbaalbmchhgmnaaDoorBigB
import Derived.Test.YtbaalbmchhgmnaaDoorTail
import Derived.Laws.MakeOwn
namespace Go.Proofs.YtbaalbmchhgmnaaDoor
open Go.RowKit
set_option linter.unusedVariables false
set_option linter.unusedSimpArgs false

/-- A row of integers as cells. -/
def icArr (zs : List Int) : Array Value := (zs.map (Value.int .i64)).toArray
theorem ic_get {zs : List Int} {j : Nat} (h : j < zs.length) : (icArr zs)[j]? = some (.int .i64 (zs.getD j 0)) := by
  simp [icArr, List.getD_eq_getElem?_getD, List.getElem?_eq_getElem h]
theorem ic_set (zs : List Int) (j : Nat) (x : Int) : (icArr zs).setIfInBounds j (.int .i64 x) = icArr (zs.set j x) := by
  simp [icArr]
theorem Box.ints {w : World} {g : Nat} {t : TypeId} {zs : List Int} (h : Box w g (icArr zs) t) (j : Nat) (x : Int) : Box (w.setCell ⟨g, j, none⟩ (.int .i64 x)) g (icArr (zs.set j x)) t := by
  have := h.set_ j (.int .i64 x)
  rwa [ic_set] at this
theorem made_ints (n : Nat) : madeCells (Value.int .i64 0).cells (n * 1) = icArr (List.replicate n 0) := by
  apply Array.ext
  · simp [madeCells, icArr]
  · intro i h1 h2
    simp [madeCells, icArr, Value.cells, Nat.mod_one]
theorem run_makeInts (n : Nat) (hn : n ≤ 1000000) (W : World) : (Instr.makeSlice 49 (.int .i64 (n : Int)) (.int .i64 (n : Int))).run Tryd.prog W = .ok (.slice (some ⟨W.heap.size, 0, none⟩) n n) (W.alloc (.cells (icArr (List.replicate n 0)) 3)) := by
  obtain ⟨i0, hi, hz0, hz1, hz2⟩ := info_parts iint
  have h := run_make (P := Tryd.prog) W 49 3 i0 (.int .i64 0) Tryd.underlying49 hi hz0 .i64 .i64 n n (by omega) (by omega) (by rw [hz2]; omega) (by omega)
  rw [hz1, Int.toNat_natCast, made_ints] at h
  exact h
theorem IL.of_box {w : World} {g : Nat} {t : TypeId} {zs : List Int} (h : Box w g (icArr zs) t) : IL w (.slice (some ⟨g, 0, none⟩) zs.length zs.length) zs := by
  refine ⟨some ⟨g, 0, none⟩, zs.length, rfl, Nat.le_refl _, fun _ => ⟨_, rfl, h.lt, fun j hj => ?_⟩⟩
  have hadd : (⟨g, 0, none⟩ : Addr).add j = ⟨g, j, none⟩ := by unfold Addr.add; split <;> simp_all
  rw [hadd, h.cell j, ic_get hj]

theorem vl_set : ∀ (zs : List Int) (j : Nat) (x : Int), j < zs.length → vl (zs.set j x) = vl zs + (PW j : Int) * (x - zs.getD j 0)
  | [], j, x, h => absurd h (by simp)
  | z :: zs, 0, x, _ => by simp [vl, PW_zero]; omega
  | z :: zs, j + 1, x, h => by
    have ih := vl_set zs j x (by simpa using h)
    rw [List.set_cons_succ, vl, ih, vl, List.getD_cons_succ, PW_succ, Int.natCast_mul]
    have e : ((10000 : Nat) : Int) = 10000 := rfl
    rw [e]
    grind
theorem vl_zeros : ∀ n, vl (List.replicate n 0) = 0
  | 0 => rfl
  | n + 1 => by rw [List.replicate_succ, vl, vl_zeros n]; rfl
/-- Entries that are not negative and at most M. -/
def Ent (zs : List Int) (M : Int) : Prop := ∀ j, j < zs.length → 0 ≤ zs.getD j 0 ∧ zs.getD j 0 ≤ M
theorem getD_set {zs : List Int} {i j : Nat} {x : Int} (h : j < zs.length) : (zs.set i x).getD j 0 = if i = j then x else zs.getD j 0 := by
  rw [List.getD_eq_getElem?_getD, List.getElem?_set, List.getD_eq_getElem?_getD]
  split
  · rw [if_pos (by omega)]; rfl
  · rfl
theorem Ent.set {zs : List Int} {M : Int} (h : Ent zs M) {i : Nat} {x : Int} (h0 : 0 ≤ x) (h1 : x ≤ M) : Ent (zs.set i x) M := fun j hj => by
  rw [List.length_set] at hj
  rw [getD_set hj]
  split
  · exact ⟨h0, h1⟩
  · exact h j hj
theorem Ent.mono {zs : List Int} {M M' : Int} (h : Ent zs M) (hm : M ≤ M') : Ent zs M' := fun j hj => ⟨(h j hj).1, Int.le_trans (h j hj).2 hm⟩

/-- One step of the product. -/
def mulStep (zs : List Int) (j : Nat) (p : Int) : List Int := ((zs.set j (zs.getD j 0 + p)).set (j + 1) (zs.getD (j + 1) 0 + (zs.getD j 0 + p) / 10000)).set j ((zs.getD j 0 + p) % 10000)
theorem mulStep_vl {zs : List Int} {j : Nat} {p : Int} (h : j + 1 < zs.length) : vl (mulStep zs j p) = vl zs + (PW j : Int) * p := by
  unfold mulStep
  have g1 : ((zs.set j (zs.getD j 0 + p)).set (j + 1) (zs.getD (j + 1) 0 + (zs.getD j 0 + p) / 10000)).getD j 0 = zs.getD j 0 + p := by
    rw [getD_set (by simp; omega), if_neg (by omega), getD_set (by omega), if_pos rfl]
  have g2 : (zs.set j (zs.getD j 0 + p)).getD (j + 1) 0 = zs.getD (j + 1) 0 := by rw [getD_set (by omega), if_neg (by omega)]
  rw [vl_set _ _ _ (by simp; omega), vl_set _ _ _ (by simp; omega), vl_set _ _ _ (by omega), g1, g2, PW_succ, Int.natCast_mul]
  have e : ((10000 : Nat) : Int) = 10000 := rfl
  have hm := Int.emod_add_mul_ediv (zs.getD j 0 + p) 10000
  rw [e]
  generalize (zs.getD j 0 + p) % 10000 = r at *
  generalize (zs.getD j 0 + p) / 10000 = q at *
  have hr : r = zs.getD j 0 + p - 10000 * q := by omega
  subst hr
  grind
theorem mulStep_len (zs : List Int) (j : Nat) (p : Int) : (mulStep zs j p).length = zs.length := by simp [mulStep]
theorem mulStep_ent {zs : List Int} {j : Nat} {p M : Int} (h : Ent zs M) (hj : j + 1 < zs.length) (hp : 0 ≤ p ∧ p ≤ 99980001) (hM : M ≤ 1000000000000) (hM0 : 1000000 ≤ M) : Ent (mulStep zs j p) (M + 101000000) := by
  obtain ⟨a1, a2⟩ := h j (by omega)
  obtain ⟨b1, b2⟩ := h (j + 1) hj
  unfold mulStep
  refine Ent.set (Ent.set (Ent.set (h.mono (by omega)) (by omega) (by omega)) (by omega) (by omega)) (by omega) (by omega)

theorem mul_bd {x y : Nat} (hx : x ≤ 9999) (hy : y ≤ 9999) : (0 : Int) ≤ (x : Int) * (y : Int) ∧ (x : Int) * (y : Int) ≤ 99980001 := by
  have h : x * y ≤ 9999 * 9999 := Nat.mul_le_mul hx hy
  rw [← Int.natCast_mul]
  omega
theorem mod_step (a i : Nat) : a % PW (i + 1) = a % PW i + PW i * (a / PW i % 10000) := by
  rw [PW_succ, Nat.mod_mul]

set_option maxRecDepth 100000 in
set_option maxHeartbeats 16000000 in
theorem bigTimes (w : World) (v1 v2 : Value) (a b : Nat) (h1 : BN w v1 a) (h2 : BN w v2 b) (ha : a < PW 60) (hb : b < PW 60) :
    Calls Tryd.prog 43 #[v1, v2] w (BL w (a * b)) := by
  have l1 := (dg_len a 60).2 ha
  have l2 := (dg_len b 60).2 hb
  have ea := dg_len a
  have eb := dg_len b
  obtain ⟨A1, c1, rfl, hc1, hs1⟩ := h1
  obtain ⟨A2, c2, rfl, hc2, hs2⟩ := h2
  obtain ⟨N1, hN1⟩ : ∃ N, N = (dg a).length := ⟨_, rfl⟩
  obtain ⟨N2, hN2⟩ : ∃ N, N = (dg b).length := ⟨_, rfl⟩
  rw [← hN1] at hs1 l1 ea ⊢
  rw [← hN2] at hs2 l2 eb ⊢
  have HAN := Lib.hid ((ea N1).1 (by omega))
  have HBN := Lib.hid ((eb N2).1 (by omega))
  have HS1 := Lib.hid hs1
  have HS2 := Lib.hid hs2
  have HAB : Hid (a * b < PW 300) := Lib.hid (by
    have h : a * b < PW 60 * PW 60 := Nat.mul_lt_mul'' ha hb
    rw [← PW_add] at h
    exact Nat.lt_trans h (PW_lt.2 (by omega)))
  have hmk : ∀ W : World, (Instr.makeSlice 49 (.int .i64 ((N1 : Int) + N2 + 1)) (.int .i64 ((N1 : Int) + N2 + 1))).run Tryd.prog W = .ok (.slice (some ⟨W.heap.size, 0, none⟩) (N1 + N2 + 1) (N1 + N2 + 1)) (W.alloc (.cells (icArr (List.replicate (N1 + N2 + 1) 0)) 3)) := fun W => by
    have := run_makeInts (N1 + N2 + 1) (by omega) W
    have e : ((N1 + N2 + 1 : Nat) : Int) = (N1 : Int) + N2 + 1 := by omega
    rwa [e] at this
  clear hN1 hN2 hc1 hc2 hs1 hs2 ea eb ha hb
  go_enter Tryd.func43, Tryd.ntmps43
  go_wp2_with fail
  have X0 := Lib.hid (Box.new w 3 (icArr (List.replicate (N1 + N2 + 1) 0)))
  have HB0 := Lib.hid (below_alloc w (.cells (icArr (List.replicate (N1 + N2 + 1) 0)) 3))
  generalize w.alloc (.cells (icArr (List.replicate (N1 + N2 + 1) 0)) 3) = w0 at *
  clear hmk
  go_loopw [6] (fun ci wr => ∃ (i : Nat) (zs : List Int), i ≤ N1 ∧ ci = .int .i64 i ∧ zs.length = N1 + N2 + 1 ∧ vl zs = ((a % PW i : Nat) : Int) * b ∧ Ent zs (1000000 + 101000000 * (i * 61 : Nat)) ∧ Box wr w.heap.size (icArr zs) 3 ∧ Below w.heap.size w wr) (fun ci _ => N1 - (intOf ci).toNat)
  case atStart => exact ⟨0, _, Nat.zero_le _, rfl, by simp, by rw [vl_zeros, PW_zero, Nat.mod_one]; simp, fun j hj => by rw [List.length_replicate] at hj; simp [List.getD_eq_getElem?_getD, hj], X0.out, HB0.out⟩
  case round =>
    obtain ⟨i, zs, hi, rfl, hlen, hv, hent, hx, hb⟩ := hrel
    have HX := Lib.hid hx
    have HBL := Lib.hid hb
    have HV := Lib.hid hv
    have HENT := Lib.hid hent
    have HLEN := Lib.hid hlen
    clear hx hb hv hent hlen
    by_cases hgo : i < N1
    · have hgo2 : (i : Int) < N1 := by omega
      obtain ⟨wo, rfl⟩ : ∃ wo : World, wo = wr := ⟨_, rfl⟩
      go_wp2_with fail
      go_loopw [7] (fun ck wr => ∃ (k : Nat) (zs : List Int), k ≤ N2 ∧ ck = .int .i64 k ∧ zs.length = N1 + N2 + 1 ∧ vl zs = ((a % PW i : Nat) : Int) * b + (PW i : Int) * ((a / PW i % 10000 : Nat) : Int) * ((b % PW k : Nat) : Int) ∧ Ent zs (1000000 + 101000000 * (i * 61 + k : Nat)) ∧ Box wr w.heap.size (icArr zs) 3 ∧ Below w.heap.size w wr) (fun ck _ => N2 - (intOf ck).toNat)
      case atStart => exact ⟨0, zs, Nat.zero_le _, rfl, HLEN.out, by rw [HV.out, PW_zero, Nat.mod_one]; simp, HENT.out, HX.out, HBL.out⟩
      case round =>
        obtain ⟨k, ys, hk, rfl, hlen2, hv2, hent2, hx2, hb2⟩ := hrel
        have HX2 := Lib.hid hx2
        have HBL2 := Lib.hid hb2
        have HV2 := Lib.hid hv2
        have HENT2 := Lib.hid hent2
        have HLEN2 := Lib.hid hlen2
        clear hx2 hb2 hv2 hent2 hlen2
        by_cases hgk : k < N2
        · have hgk2 : (k : Int) < N2 := by omega
          obtain ⟨ad, rfl, had, hcl1⟩ := HS1.out (by omega)
          obtain ⟨bd, rfl, hbd, hcl2⟩ := HS2.out (by omega)
          have qa := hcl1 i hgo
          have qb := hcl2 k hgk
          rw [dg_getD] at qa qb
          have hj : i + k + 1 < ys.length := by rw [HLEN2.out]; omega
          have m1 := mulStep_vl (zs := ys) (j := i + k) (p := ((a / PW i % 10000 : Nat) : Int) * ((b / PW k % 10000 : Nat) : Int)) hj
          have m2 := mulStep_len ys (i + k) (((a / PW i % 10000 : Nat) : Int) * ((b / PW k % 10000 : Nat) : Int))
          have da0 : a / PW i % 10000 ≤ 9999 := by omega
          have db0 : b / PW k % 10000 ≤ 9999 := by omega
          have hv2 := HV2.out
          have hb3 := mod_step b k
          generalize a / PW i % 10000 = da at *
          generalize b / PW k % 10000 = db at *
          obtain ⟨pr1, pr2⟩ := mul_bd da0 db0
          have m3 := mulStep_ent (p := (da : Int) * (db : Int)) HENT2.out hj ⟨pr1, pr2⟩ (by omega) (by omega)
          obtain ⟨x10, x11⟩ := HENT2.out (i + k) (by omega)
          obtain ⟨x20, x21⟩ := HENT2.out (i + k + 1) hj
          have HM1 : Hid (vl (mulStep ys (i + k) ((da : Int) * db)) = ((a % PW i : Nat) : Int) * b + (PW i : Int) * (da : Int) * ((b % PW (k + 1) : Nat) : Int)) := Lib.hid (by
            rw [m1, hv2, hb3, PW_add, Int.natCast_add, Int.natCast_mul, Int.natCast_mul]
            grind)
          have HM2 := Lib.hid (m2.trans HLEN2.out)
          have HM3 := Lib.hid (m3.mono (show (1000000 + 101000000 * (i * 61 + k : Nat) : Int) + 101000000 ≤ 1000000 + 101000000 * (i * 61 + (k + 1) : Nat) by omega))
          have hc1 := ic_get (zs := ys) (j := i + k) (by omega)
          have hc2 := ic_get (zs := ys) (j := i + k + 1) hj
          have hms : mulStep ys (i + k) ((da : Int) * db) = ((ys.set (i + k) (ys.getD (i + k) 0 + (da : Int) * db)).set (i + k + 1) (ys.getD (i + k + 1) 0 + (ys.getD (i + k) 0 + (da : Int) * db) / 10000)).set (i + k) ((ys.getD (i + k) 0 + (da : Int) * db) % 10000) := rfl
          rw [hms] at HM1 HM2 HM3
          obtain ⟨x1, hx1⟩ : ∃ x, x = ys.getD (i + k) 0 := ⟨_, rfl⟩
          obtain ⟨x2, hx2⟩ : ∃ x, x = ys.getD (i + k + 1) 0 := ⟨_, rfl⟩
          obtain ⟨pp, hpp⟩ : ∃ x, x = (da : Int) * (db : Int) := ⟨_, rfl⟩
          rw [← hx1] at hc1 HM1 HM2 HM3 x10 x11
          rw [← hx2] at hc2 HM1 HM2 HM3 x20 x21
          rw [← hpp] at HM1 HM2 HM3 pr1 pr2
          have hset1 : (ys.set (i + k) (x1 + pp)).getD (i + k) 0 = x1 + pp := by rw [getD_set (by omega), if_pos rfl]
          have hset2 : (ys.set (i + k) (x1 + pp)).getD (i + k + 1) 0 = x2 := by rw [getD_set (by omega), if_neg (by omega), hx2]
          have hset3 : ((ys.set (i + k) (x1 + pp)).set (i + k + 1) (x2 + (x1 + pp) / 10000)).getD (i + k) 0 = x1 + pp := by rw [getD_set (by simp; omega), if_neg (by omega), hset1]
          have hd1 := ic_get (zs := ys.set (i + k) (x1 + pp)) (j := i + k) (by simp; omega)
          have hd2 := ic_get (zs := ys.set (i + k) (x1 + pp)) (j := i + k + 1) (by simp; omega)
          have he1 := ic_get (zs := (ys.set (i + k) (x1 + pp)).set (i + k + 1) (x2 + (x1 + pp) / 10000)) (j := i + k) (by simp; omega)
          rw [hset1] at hd1
          rw [hset2] at hd2
          rw [hset3] at he1
          have HD1 := Lib.hid hd1
          have HD2 := Lib.hid hd2
          have HE1 := Lib.hid he1
          have QA : Hid (∀ w1, Below w.heap.size w w1 → w1.cell? (ad.add i) = some (.int .i64 (da : Int))) := Lib.hid fun w1 hb => by rw [hb.cell (by rw [block_of_add]; exact had)]; exact qa
          have QB : Hid (∀ w1, Below w.heap.size w w1 → w1.cell? (bd.add k) = some (.int .i64 (db : Int))) := Lib.hid fun w1 hb => by rw [hb.cell (by rw [block_of_add]; exact hbd)]; exact qb
          have lx := HX2.out.lat (i + k) _ hc1
          have la : ∀ p : Lat wr, p.w.cell? (ad.add i) = some (.int .i64 (da : Int)) := fun p => QA.out _ (HBL2.out.trans (p.h.mono HBL2.out.size))
          have lb : ∀ p : Lat wr, p.w.cell? (bd.add k) = some (.int .i64 (db : Int)) := fun p => QB.out _ (HBL2.out.trans (p.h.mono HBL2.out.size))
          have t1 : ((i : Int) + (k : Int)).toNat = i + k := by omega
          have t2 : ((i : Int) + (k : Int) + 1).toNat = i + k + 1 := by omega
          have u1 : IntKind.i64.wrap ((i : Int) + (k : Int)) = (i : Int) + k := IntWalk.i64_in _ (by omega)
          have u2 : IntKind.i64.wrap ((i : Int) + (k : Int) + 1) = (i : Int) + k + 1 := IntWalk.i64_in _ (by omega)
          have u3 : IntKind.i64.wrap ((da : Int) * (db : Int)) = pp := by rw [← hpp]; exact IntWalk.i64_in _ (by omega)
          have u4 : IntKind.i64.wrap (x1 + pp) = x1 + pp := IntWalk.i64_in _ (by omega)
          have u5 : IntKind.i64.wrap (x2 + (x1 + pp) / 10000) = x2 + (x1 + pp) / 10000 := IntWalk.i64_in _ (by omega)
          have u6 : IntKind.i64.wrap ((x1 + pp) / 10000) = (x1 + pp) / 10000 := IntWalk.i64_in _ (by omega)
          have b1 : (0 : Int) ≤ (i : Int) + k := by omega
          have b2 : (i : Int) + k < (N1 : Int) + N2 + 1 := by omega
          have b3 : (0 : Int) ≤ (i : Int) + k + 1 := by omega
          have b4 : (i : Int) + k + 1 < (N1 : Int) + N2 + 1 := by omega
          have b5 : (0 : Int) ≤ (i : Int) := by omega
          have b6 : (0 : Int) ≤ (k : Int) := by omega
          have b7 : 0 ≤ x1 + pp := by omega
          clear hcl1 hcl2 qa qb m1 m2 m3 hv2 hb3 hms hx1 hx2 hset1 hset2 hset3 hd1 hd2 he1 hc2 hj hpp had hbd
          go_wp2_with fail
          refine wp_region_tail 21 (by kernel_rfl) (by kernel_rfl) ?_
          simp only [List.take_succ_cons, List.take_zero, List.drop_succ_cons, List.drop_zero]
          repeat (go_big_quiet_step (fail))
          refine wpQuiet_nil ?_
          intro w2 hb2
          have Y2 := Lib.hid (HX2.out.below hb2)
          have y2 := Y2.out.at_ (i + k) _ hc1
          have z2 := Y2.out.frozen (i + k)
          have HB3 := Lib.hid ((HBL2.out.trans (hb2.mono HBL2.out.size)).setCell (p := ⟨w.heap.size, i + k, none⟩) (Nat.le_refl _) (.int .i64 (x1 + pp)))
          have Y3 := Lib.hid (Y2.out.ints (i + k) (x1 + pp))
          clear hb2 lx la lb hc1 Y2
          go_wp2_with fail
          clear y2 z2
          generalize w2.setCell ⟨w.heap.size, i + k, none⟩ (.int .i64 (x1 + pp)) = w3 at *
          have lx := Y3.out.lat (i + k) _ HD1.out
          have ly := Y3.out.lat (i + k + 1) _ HD2.out
          refine wp_region_tail 21 (by kernel_rfl) (by kernel_rfl) ?_
          simp only [List.take_succ_cons, List.take_zero, List.drop_succ_cons, List.drop_zero]
          repeat (go_big_quiet_step (fail))
          refine wpQuiet_nil ?_
          intro w4 hb4
          have Y4 := Lib.hid (Y3.out.below hb4)
          have y4 := Y4.out.at_ (i + k + 1) _ HD2.out
          have z4 := Y4.out.frozen (i + k + 1)
          have HB5 := Lib.hid ((HB3.out.trans (hb4.mono HB3.out.size)).setCell (p := ⟨w.heap.size, i + k + 1, none⟩) (Nat.le_refl _) (.int .i64 (x2 + (x1 + pp) / 10000)))
          have Y5 := Lib.hid (Y4.out.ints (i + k + 1) (x2 + (x1 + pp) / 10000))
          have y5 := Y5.out.at_ (i + k) _ HE1.out
          have z5 := Y5.out.frozen (i + k)
          have HB6 := Lib.hid (HB5.out.setCell (p := ⟨w.heap.size, i + k, none⟩) (Nat.le_refl _) (.int .i64 ((x1 + pp) % 10000)))
          have Y6 := Lib.hid (Y5.out.ints (i + k) ((x1 + pp) % 10000))
          clear hb4 lx ly Y4 Y3 HB3
          go_wp2_with fail
          go_roundw
          case rel => exact ⟨k + 1, _, by omega, by go_num, HM2.out, HM1.out, HM3.out, Y6.out, HB6.out⟩
          case measure => simp [intOf]; omega
        · have hkn : k = N2 := by omega
          have hgk2 : ¬ (k : Int) < N2 := by omega
          subst hkn
          have HVN : Hid (vl ys = ((a % PW (i + 1) : Nat) : Int) * b) := Lib.hid (by
            rw [HV2.out, Nat.mod_eq_of_lt HBN.out, mod_step, Int.natCast_add, Int.natCast_mul]
            grind)
          have HEN : Hid (Ent ys (1000000 + 101000000 * ((i + 1) * 61 : Nat))) := Lib.hid (HENT2.out.mono (by omega))
          go_wp2_with fail
          go_roundw
          case rel => exact ⟨i + 1, ys, by omega, by go_num, HLEN2.out, HVN.out, HEN.out, HX2.out, HBL2.out⟩
          case measure => simp [intOf]; omega
    · have hin : i = N1 := by omega
      have hgo2 : ¬ (i : Int) < N1 := by omega
      subst hin
      have HE : Hid (vl zs = ((a * b : Nat) : Int)) := Lib.hid (by rw [HV.out, Nat.mod_eq_of_lt HAN.out, Int.natCast_mul])
      have HIL := Lib.hid (IL.of_box HX.out)
      rw [HLEN.out] at HIL
      have HAD : Hid (Addend zs) := Lib.hid ⟨fun d hd => by
          obtain ⟨j, hj, rfl⟩ := List.getElem_of_mem hd
          have := (HENT.out j hj).1
          rwa [List.getD_eq_getElem?_getD, List.getElem?_eq_getElem hj] at this, fun d hd => by
          obtain ⟨j, hj, rfl⟩ := List.getElem_of_mem hd
          have := (HENT.out j hj).2
          rw [List.getD_eq_getElem?_getD, List.getElem?_eq_getElem hj] at this
          exact Int.le_trans this (by omega), by rw [HLEN.out]; omega⟩
      go_wp2_with fail
      refine (bigPlus _ _ _ zs [] HIL.out (IL.nil _) HAD.out Addend.nil (by rw [HE.out]; have := HAB.out; simp [vl]; omega)).mono ?_; rintro e w1 ⟨v5, rfl, hbn, hb⟩
      have HBN5 : Hid (BN w1 v5 (a * b)) := Lib.hid (by
        have e : (vl zs + vl []).toNat = a * b := by rw [HE.out]; simp only [vl, Int.add_zero, Int.toNat_natCast]
        rwa [e] at hbn)
      have HB5 := Lib.hid (HBL.out.trans (hb.mono HBL.out.size))
      clear hbn hb
      go_wp2_with fail
      refine (bigTrim _ _ (dg (a * b)) HBN5.out (Dg_dg _) (by have := (dg_len (a * b) 300).2 HAB.out; omega)).mono ?_; rintro e w2 ⟨v6, rfl, hbn, rfl⟩
      have HBN6 : Hid (BN w1 v6 (a * b)) := Lib.hid (by rw [vl_dg, Int.toNat_natCast] at hbn; exact hbn)
      clear hbn
      go_wp2_with fail
      go_ret
      exact ⟨v6, rfl, HBN6.out, HB5.out⟩

end Go.Proofs.YtbaalbmchhgmnaaDoor

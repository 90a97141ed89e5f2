/-
  Contract of the reference's Compare.
-/
import Derived.Test.YtbgficaboolgiaaDoorStoCa
namespace Go.Proofs.YtbgficaboolgiaaDoor
open Go.RowKit
set_option linter.unusedVariables false
set_option linter.unusedSimpArgs false

/-- The three lists of the reference's Compare between two rounds. -/
structure RI (B : Nat) (w : World) (p q s : Value) (m : Cm) : Prop where
  ra : w.ownsRow B 9 1 p m.a.length (scells m.a)
  rb : w.ownsRow B 9 1 q m.b.length (scells m.b)
  rc : w.ownsRow B 9 1 s m.c.length (scells m.c)
  ab : Ap p q
  ac : Ap p s
  bc : Ap q s
section
variable {B : Nat} {w w' : World} {p q s : Value} {m : Cm}
theorem RI.below (h : RI B w p q s m) (hb : Below w.heap.size w w') : RI B w' p q s m :=
  ⟨own_below h.ra hb, own_below h.rb hb, own_below h.rc hb, h.ab, h.ac, h.bc⟩
theorem RI.seen (h : RI B w p q s m) (S : List ByteArray) : RI B w p q s ⟨S, m.a, m.b, m.c⟩ := ⟨h.ra, h.rb, h.rc, h.ab, h.ac, h.bc⟩
theorem RI.push0 (h : RI B w p q s m) {x : ByteArray} {v' : Value} (S : List ByteArray) (hown : w'.ownsRow B 9 1 v' (m.a.length + 1) (scells m.a ++ [.string x])) (hg : w.grownBy w' p.ownBlock) (hv : v'.ownBlock = p.ownBlock ∨ v'.ownBlock = some w.heap.size) :
    RI B w' v' q s ⟨S, m.a ++ [x], m.b, m.c⟩ :=
  ⟨(by rw [List.length_append, ← sc_snoc]; exact hown), (h.rb.kept hg h.ab.or), (h.rc.kept hg h.ac.or), (own_apart (w' := w') (n := 0) h.rb h.ab hv), (own_apart (w' := w') (n := 0) h.rc h.ac hv), h.bc⟩
theorem RI.push1 (h : RI B w p q s m) {x : ByteArray} {v' : Value} (S : List ByteArray) (hown : w'.ownsRow B 9 1 v' (m.b.length + 1) (scells m.b ++ [.string x])) (hg : w.grownBy w' q.ownBlock) (hv : v'.ownBlock = q.ownBlock ∨ v'.ownBlock = some w.heap.size) :
    RI B w' p v' s ⟨S, m.a, m.b ++ [x], m.c⟩ :=
  ⟨(h.ra.kept hg (h.ab.symm).or), (by rw [List.length_append, ← sc_snoc]; exact hown), (h.rc.kept hg h.bc.or), (own_apart (w' := w') (n := 0) h.ra (h.ab.symm) hv).symm, h.ac, (own_apart (w' := w') (n := 0) h.rc h.bc hv)⟩
theorem RI.push2 (h : RI B w p q s m) {x : ByteArray} {v' : Value} (S : List ByteArray) (hown : w'.ownsRow B 9 1 v' (m.c.length + 1) (scells m.c ++ [.string x])) (hg : w.grownBy w' s.ownBlock) (hv : v'.ownBlock = s.ownBlock ∨ v'.ownBlock = some w.heap.size) :
    RI B w' p q v' ⟨S, m.a, m.b, m.c ++ [x]⟩ :=
  ⟨(h.ra.kept hg (h.ac.symm).or), (h.rb.kept hg (h.bc.symm).or), (by rw [List.length_append, ← sc_snoc]; exact hown), h.ab, (own_apart (w' := w') (n := 0) h.ra (h.ac.symm) hv).symm, (own_apart (w' := w') (n := 0) h.rb (h.bc.symm) hv).symm⟩
end

set_option maxRecDepth 100000 in
set_option maxHeartbeats 32000000 in
theorem refCompare (w : World) (v : Value) (l : List Res) (hv : Rs resR w v l anyB) (hn : l.length ≤ 1000000) (hz : ∀ r ∈ l, LabZ r) (old new : ByteArray) :
    Calls Tryd.prog 17 #[v, .string old, .string new] w fun e w' => CMP w (cmpT l old new) e w' := by
  have CLAT := Lib.hid (fun W (hW : Below w.heap.size w W) d t s => refLatest W v l (hv.below hW) (by omega) d t s)
  have CLAB := Lib.hid (fun W p q r h1 h2 h3 => refLabel W p q r h1 h2 h3)
  have HZ := Lib.hid hz
  have HR : Hid (cmpT l old new = cmpN l old new l.length) := Lib.hid rfl
  have HS : Hid (∀ k, cmpN l old new (k + 1) = cmpStep l old new (cmpN l old new k) (l.getD k res0)) := Lib.hid fun k => rfl
  have HSK := Lib.hid (fun k r => skB_ear l old new k r)
  have H0 : Hid (cmpN l old new 0 = ⟨[], [], [], []⟩) := Lib.hid rfl
  have HLEN := Lib.hid (cmp_len l old new)
  obtain ⟨A, c, rfl, hc, hx⟩ := hv.ress
  have HX := Lib.hid hx
  obtain ⟨i0, hi, hz0, hz1, hz2⟩ := info_parts iistrS
  have JI := Lib.hid hi
  have JZ0 := Lib.hid hz0
  have JZ1 := Lib.hid hz1
  have JZ2 := Lib.hid hz2
  obtain ⟨N, hN⟩ : ∃ N, N = l.length := ⟨_, rfl⟩
  have HN := Lib.hid hN
  rw [← hN] at hc hn HR CLAT ⊢
  generalize cmpT l old new = cr at *
  generalize hf : cmpN l old new = f at *
  clear hx hv hN hz hf hi hz0 hz1 hz2
  have CI0 : Hid (RI w.heap.size w (.slice none 0 0) (.slice none 0 0) (.slice none 0 0) ⟨[], [], [], []⟩) := Lib.hid ⟨World.ownsRow_nil _ _ _ _, World.ownsRow_nil _ _ _ _, World.ownsRow_nil _ _ _ _, fun b hb => by simp [Value.ownBlock] at hb, fun b hb => by simp [Value.ownBlock] at hb, fun b hb => by simp [Value.ownBlock] at hb⟩
  go_enter Tryd.func17, Tryd.ntmps17
  go_wp2_with fail
  go_loopw [9, 10, 11, 12] (fun p q s i wr => ∃ (k : Nat), k ≤ N ∧ i = .int .i64 k ∧ Hid (RI w.heap.size wr p q s (f k)) ∧ Below w.heap.size w wr) (fun _ _ _ i _ => N - (intOf i).toNat)
  case atStart => exact ⟨0, Nat.zero_le _, rfl, by rw [H0.out]; exact CI0, Below.refl _ _⟩
  case round =>
    obtain ⟨k, hk, rfl, CIk, hb⟩ := hrel
    have HB := Lib.hid hb
    clear hb CI0
    obtain ⟨P1, pc, rfl⟩ := own_slice CIk.out.ra
    obtain ⟨P2, qc, rfl⟩ := own_slice CIk.out.rb
    obtain ⟨P3, sc, rfl⟩ := own_slice CIk.out.rc
    by_cases hlt : k < N
    · have hlt2 : (k : Int) < N := by omega
      have hk0 : (0 : Int) ≤ (k : Int) := by omega
      have hkl : k < l.length := by rw [← HN.out]; exact hlt
      obtain ⟨b, o, pp, qq, rfl, hbl, hcl, ⟨hp, -⟩, hq, -⟩ := HX.out k hkl
      have HSG := Lib.hid (fun i (hi : i < l.length) W (hW : Below w.heap.size w W) => show W.cell? ⟨b, o + i * 11, none⟩ = some (.string (l.getD i res0).test) ∧ W.cell? ⟨b, o + i * 11 + 1, none⟩ = some (.int .u64 ((l.getD i res0).seed : Nat)) ∧ W.cell? ⟨b, o + i * 11 + 2, none⟩ = some (.string (l.getD i res0).design) ∧ W.cell? ⟨b, o + i * 11 + 3, none⟩ = some (.string (l.getD i res0).sign) from by
        obtain ⟨b', o', p', q', e, hbl', hcl', -⟩ := HX.out i hi
        obtain ⟨rfl, rfl⟩ : b = b' ∧ o = o' := by simpa using e
        have t := fun j u h => (hW.cell (p := ⟨b, o + i * 11 + j, none⟩) hbl').trans (hcl' j u h)
        exact ⟨t 0 _ rfl, t 1 _ rfl, t 2 _ rfl, t 3 _ rfl⟩)
      have hzk := HZ.out _ (getD_mem (l := l) (k := k) res0 hkl)
      have hml := HLEN.out k
      have CLB := Lib.hid (fun W => CLAB.out W pp qq (l.getD k res0) (res_slices hp hq).1 (res_slices hp hq).2 hzk)
      have C1 := Lib.hid (fun W hW => CLAT.out W hW old (l.getD k res0).test (l.getD k res0).seed)
      have C2 := Lib.hid (fun W hW => CLAT.out W hW new (l.getD k res0).test (l.getD k res0).seed)
      have HE0 : Hid (earB l new (l.getD k res0) 0 = false) := Lib.hid rfl
      have HES : Hid (∀ j, earB l new (l.getD k res0) (j + 1) = (earB l new (l.getD k res0) j || hitB (l.getD j res0) new (l.getD k res0).test (l.getD k res0).seed)) := Lib.hid fun j => rfl
      have HSKIP : Hid ((!decide ((l.getD k res0).design = new) || earB l new (l.getD k res0) k) = true → f (k + 1) = f k) := Lib.hid fun h => by
        rw [HS.out]; unfold cmpStep; exact if_pos (by rw [HSK.out]; exact h)
      have HADD : Hid ((!decide ((l.getD k res0).design = new) || earB l new (l.getD k res0) k) = false → f (k + 1) = ⟨(f k).seen ++ [labS (l.getD k res0)], addIf ((latT l old (l.getD k res0).test (l.getD k res0).seed).2 && fA (sgB l (latT l old (l.getD k res0).test (l.getD k res0).seed).1) (sgB l (latT l new (l.getD k res0).test (l.getD k res0).seed).1)) (f k).a (labS (l.getD k res0)),
          addIf ((latT l old (l.getD k res0).test (l.getD k res0).seed).2 && fB (sgB l (latT l old (l.getD k res0).test (l.getD k res0).seed).1) (sgB l (latT l new (l.getD k res0).test (l.getD k res0).seed).1)) (f k).b (labS (l.getD k res0)),
          addIf ((latT l old (l.getD k res0).test (l.getD k res0).seed).2 && fC (sgB l (latT l old (l.getD k res0).test (l.getD k res0).seed).1) (sgB l (latT l new (l.getD k res0).test (l.getD k res0).seed).1)) (f k).c (labS (l.getD k res0))⟩) := Lib.hid fun h => by
        rw [HS.out]; unfold cmpStep
        exact if_neg (fun h2 => by rw [HSK.out, h] at h2; cases h2)
      have hia := latT_lt (l := l) (d := old) (t := (l.getD k res0).test) (s := (l.getD k res0).seed) (by omega)
      have hib := latT_lt (l := l) (d := new) (t := (l.getD k res0).test) (s := (l.getD k res0).seed) (by omega)
      generalize latT l old (l.getD k res0).test (l.getD k res0).seed = La at *
      generalize latT l new (l.getD k res0).test (l.getD k res0).seed = Lb at *
      obtain ⟨ia, oka⟩ := La
      obtain ⟨ib, okb⟩ := Lb
      simp only [ret2ib] at C1 C2 HADD hia hib
      have CA := Lib.hid (fun W hW => (HSG.out ia hia W hW).2.2.2)
      have CB := Lib.hid (fun W hW => (HSG.out ib hib W hW).2.2.2)
      have HWA : Hid ((l.getD ia res0).sign.toList.isEmpty = !(sgB l ia)) := Lib.hid (by unfold sgB; rw [Lib.toList_data, Bool.not_not])
      have HWB : Hid ((l.getD ib res0).sign.toList.isEmpty = !(sgB l ib)) := Lib.hid (by unfold sgB; rw [Lib.toList_data, Bool.not_not])
      rw [← HN.out] at hia hib
      generalize sgB l ia = was at *
      generalize sgB l ib = is at *
      generalize (l.getD ia res0).sign = sa at *
      generalize (l.getD ib res0).sign = sb at *
      generalize earB l new (l.getD k res0) = E at *
      obtain ⟨A1, c1, rfl, -⟩ := hp.slice
      obtain ⟨A2, c2, rfl, -⟩ := hq.slice
      have hcell : ∀ i u, (resL (.slice A1 (l.getD k res0).pts.length c1) (.slice A2 (l.getD k res0).crs.length c2) (l.getD k res0))[i]? = some u → wr.cell? ⟨b, o + k * 11 + i, none⟩ = some u := fun i u h => (HB.out.cell (p := ⟨b, o + k * 11 + i, none⟩) hbl).trans (hcl i u h)
      clear hcl hp hq hbl hzk hkl
      generalize labS (l.getD k res0) = name at *
      generalize l.getD k res0 = x at *
      obtain ⟨te, se, de, si, cy, sn, gt, ps, cs, sm, il⟩ := x
      simp only [resV] at hcell CLB C1 C2 HSKIP HADD HES
      generalize ps.length = M1 at *
      generalize cs.length = M2 at *
      generalize f k = m at *
      obtain ⟨m', hm'⟩ : ∃ z, z = f (k + 1) := ⟨_, rfl⟩
      rw [← hm'] at HSKIP HADD
      have HFM := Lib.hid hm'
      clear hm'
      have g0 := hcell 0 _ rfl
      have g1 := hcell 1 _ rfl
      have g2 := hcell 2 _ rfl
      have g3 := hcell 3 _ rfl
      have g4 := hcell 4 _ rfl
      have g5 := hcell 5 _ rfl
      have g6 := hcell 6 _ rfl
      have g7 := hcell 7 _ rfl
      have g8 := hcell 8 _ rfl
      have g9 := hcell 9 _ rfl
      have g10 := hcell 10 _ rfl
      simp only [Nat.add_zero] at g0
      clear hcell
      go_upto_region 6 with fail
      have XR := Lib.hid (box_new (W := wr) (g := wr.heap.size) 27 #[.string te, .int .u64 se, .string de, .string si, .int .i64 cy, .int .i64 sn, .int .i64 gt, .slice A1 M1 c1, .slice A2 M2 c2, .int .i64 sm, .int .i64 il] (by simp))
      have hba := (below_alloc wr (.cells #[.string te, .int .u64 se, .string de, .string si, .int .i64 cy, .int .i64 sn, .int .i64 gt, .slice A1 M1 c1, .slice A2 M2 c2, .int .i64 sm, .int .i64 il] 27))
      replace CIk := Lib.hid (CIk.out.below hba)
      replace HB := Lib.hid (below_step HB.out hba)
      clear hba
      generalize wr.alloc (.cells #[.string te, .int .u64 se, .string de, .string si, .int .i64 cy, .int .i64 sn, .int .i64 gt, .slice A1 M1 c1, .slice A2 M2 c2, .int .i64 sm, .int .i64 il] 27) = w3 at *
      clear g0 g1 g2 g3 g4 g5 g6 g7 g8 g9 g10
      obtain ⟨gR, hgR⟩ : ∃ g, g = wr.heap.size := ⟨_, rfl⟩
      rw [← hgR] at XR ⊢
      clear hgR
      by_cases hd : de = new
      case neg =>
        obtain ⟨e1, e2⟩ := str_neq hd
        have HM : Hid (m' = m) := Lib.hid (HSKIP.out (by rw [decide_eq_false hd]; rfl))
        clear HSKIP HADD hd HSG CLB CA CB
        have XR_2 := XR.out.at_ 2 _ rfl
        go_wp2_with fail
        clear XR_2
        go_roundw
        case rel => exact ⟨k + 1, by omega, by go_num, by rw [← HFM.out, HM.out]; exact CIk, HB.out⟩
        case measure => simp [intOf] <;> omega
      subst hd
      obtain ⟨e1, e2⟩ := str_eq de
      have XR_2 := XR.out.at_ 2 _ rfl
      go_wp2_with fail
      clear XR_2
      clear e1 e2
      go_loopw [14, 15] (fun ev jv wr2 => ∃ j : Nat, j ≤ k ∧ ev = .bool (E j) ∧ jv = .int .i64 j ∧ Below w3.heap.size w3 wr2) (fun _ jv _ => k - (intOf jv).toNat)
      case atStart => exact ⟨0, Nat.zero_le _, by rw [HE0.out], rfl, Below.refl _ _⟩
      case round =>
        obtain ⟨j, hj, rfl, rfl, hb2⟩ := hrel
        by_cases hjt : j < k
        · have HB3 := Lib.hid hb2
          have hjt2 : (j : Int) < k := by omega
          have hj0 : (0 : Int) ≤ (j : Int) := by omega
          have hjN : (j : Int) < N := by omega
          have HEj : Hid (E (j + 1) = (E j || ((decide ((l.getD j res0).design = de) && decide ((l.getD j res0).test = te)) && decide ((l.getD j res0).seed = se)))) := Lib.hid (HES.out j)
          obtain ⟨y0, y1, y2, -⟩ := HSG.out j (by rw [← HN.out]; omega) _ (below_step HB.out hb2)
          have x0 := (XR.out.below hb2).at_ 0 _ rfl
          have x1 := (XR.out.below hb2).at_ 1 _ rfl
          clear hb2 HSG CLB CA CB HADD HSKIP HES
          generalize l.getD j res0 = y at *
          obtain ⟨yte, yse, yde, z3, z4, z5, z6, z7, z8, z9, z10⟩ := y
          simp only at y0 y1 y2 HEj
          obtain ⟨E1, hE1⟩ : ∃ z, z = E (j + 1) := ⟨_, rfl⟩
          rw [← hE1] at HEj
          have HEQ : Hid (E (j + 1) = E1) := Lib.hid hE1.symm
          clear hE1
          generalize E j = Ej at *
          cases Ej
          case true =>
            have HM : Hid (E1 = true) := Lib.hid (by rw [HEj.out]; rfl)
            clear HEj
            go_wp2_with fail
            go_quiet (fail)
            go_wp2_with fail
            go_roundw
            case rel => exact ⟨j + 1, by omega, by rw [HEQ.out, HM.out], by go_num, below_drewN HB3.out _⟩
            case measure => simp [intOf] <;> omega
          case false =>
            by_cases q1 : yde = de
            case neg =>
              obtain ⟨e1, e2⟩ := str_neq q1
              have HM : Hid (E1 = false) := Lib.hid (by rw [HEj.out]; simp [q1])
              clear HEj
              go_wp2_with fail
              go_quiet (fail)
              go_wp2_with fail
              go_roundw
              case rel => exact ⟨j + 1, by omega, by rw [HEQ.out, HM.out], by go_num, below_drewN HB3.out _⟩
              case measure => simp [intOf] <;> omega
            subst q1
            obtain ⟨e1, e2⟩ := str_eq yde
            by_cases q2 : yte = te
            case neg =>
              obtain ⟨e3, e4⟩ := str_neq q2
              have HM : Hid (E1 = false) := Lib.hid (by rw [HEj.out]; simp [q2])
              clear HEj
              go_wp2_with fail
              go_quiet (fail)
              go_wp2_with fail
              go_roundw
              case rel => exact ⟨j + 1, by omega, by rw [HEQ.out, HM.out], by go_num, below_drewN HB3.out _⟩
              case measure => simp [intOf] <;> omega
            subst q2
            obtain ⟨e3, e4⟩ := str_eq yte
            by_cases q3 : yse = se
            case neg =>
              have e5 : ¬ (yse : Int) = se := by omega
              have e6 : ((yse : Int) == (se : Int)) = false := by simpa using e5
              have HM : Hid (E1 = false) := Lib.hid (by rw [HEj.out]; simp [q3])
              clear HEj
              go_wp2_with fail
              go_quiet (fail)
              go_wp2_with fail
              go_roundw
              case rel => exact ⟨j + 1, by omega, by rw [HEQ.out, HM.out], by go_num, below_drewN HB3.out _⟩
              case measure => simp [intOf] <;> omega
            subst q3
            have e5 : ((yse : Int) == (yse : Int)) = true := by simp
            have HM : Hid (E1 = true) := Lib.hid (by rw [HEj.out]; simp)
            clear HEj
            go_wp2_with fail
            go_quiet (fail)
            go_wp2_with fail
            go_roundw
            case rel => exact ⟨j + 1, by omega, by rw [HEQ.out, HM.out], by go_num, below_drewN HB3.out _⟩
            case measure => simp [intOf] <;> omega
        · have hjt2 : ¬ (j : Int) < k := by omega
          have hjk : j = k := by omega
          rw [hjk]
          clear HSG HES HE0 hjk
          have hb := hb2
          clear hb2
          replace CIk := Lib.hid (CIk.out.below hb)
          replace XR := Lib.hid (XR.out.below hb)
          replace HB := Lib.hid (below_step HB.out hb)
          clear hb
          generalize E k = Ek at *
          have XR_0 := XR.out.at_ 0 _ rfl
          have XR_1 := XR.out.at_ 1 _ rfl
          go_wp2_with fail
          refine (C1.out _ HB.out).mono ?_; rintro e w6 ⟨rfl, hb⟩
          clear XR_0 XR_1
          replace CIk := Lib.hid (CIk.out.below hb)
          replace XR := Lib.hid (XR.out.below hb)
          replace HB := Lib.hid (below_step HB.out hb)
          clear hb
          clear C1
          cases Ek
          case true =>
            have HM : Hid (m' = m) := Lib.hid (HSKIP.out (by rw [Bool.or_true]))
            clear HSKIP HADD CLB CA CB C2
            go_wp2_with fail
            go_roundw
            case rel => exact ⟨k + 1, by omega, by go_num, by rw [← HFM.out, HM.out]; exact CIk, HB.out⟩
            case measure => simp [intOf] <;> omega
          have HADD2 := Lib.hid (HADD.out (by simp))
          clear HADD HSKIP
          cases oka
          case false =>
            have HM : Hid (m' = ⟨m.seen ++ [name], m.a, m.b, m.c⟩) := Lib.hid (by rw [HADD2.out]; rfl)
            clear HADD2 CLB CA CB C2
            go_wp2_with fail
            go_roundw
            case rel => exact ⟨k + 1, by omega, by go_num, by rw [← HFM.out, HM.out]; exact CIk.out.seen _, HB.out⟩
            case measure => simp [intOf] <;> omega
          have XR_0 := XR.out.at_ 0 _ rfl
          have XR_1 := XR.out.at_ 1 _ rfl
          go_wp2_with fail
          refine (C2.out _ HB.out).mono ?_; rintro e w7 ⟨rfl, hb⟩
          clear XR_0 XR_1
          replace CIk := Lib.hid (CIk.out.below hb)
          replace XR := Lib.hid (XR.out.below hb)
          replace HB := Lib.hid (below_step HB.out hb)
          clear hb
          clear C2
          have m1 : ∀ x : Lat w7, x.w.cell? ⟨b, o + ia * 11 + 3, none⟩ = _ := fun x => CA.out x.w (below_step HB.out x.h)
          have m2 : ∀ x : Lat w7, x.w.cell? ⟨b, o + ib * 11 + 3, none⟩ = _ := fun x => CB.out x.w (below_step HB.out x.h)
          have j1 : (ia : Int) < N := by omega
          have j2 : (ib : Int) < N := by omega
          have j3 : (0 : Int) ≤ (ia : Int) := by omega
          have j4 : (0 : Int) ≤ (ib : Int) := by omega
          go_wp2_with fail
          refine wp_region_lat (by kernel_rfl) (by kernel_rfl) ?_
          repeat (go_big_quiet_step (fail))
          refine wpQuiet_nil ?_; intro w8 hb
          clear m1 m2 j1 j2 j3 j4 CA CB
          replace CIk := Lib.hid (CIk.out.below hb)
          replace XR := Lib.hid (XR.out.below hb)
          replace HB := Lib.hid (below_step HB.out hb)
          clear hb
          have hwa := HWA.out
          have hwb := HWB.out
          clear HWA HWB
          cases was <;> cases is
          · skip
            have HM : Hid (m' = ⟨m.seen ++ [name], m.a, m.b, m.c⟩) := Lib.hid (by rw [HADD2.out]; rfl)
            clear HADD2 CLB
            simp only [Bool.not_true, Bool.not_false] at hwa hwb
            go_wp2_with fail
            go_roundw
            case rel => exact ⟨k + 1, by omega, by go_num, by rw [← HFM.out, HM.out]; exact CIk.out.seen _, HB.out⟩
            case measure => simp [intOf] <;> omega
          · skip
            have HM : Hid (m' = ⟨m.seen ++ [name], m.a ++ [name], m.b, m.c⟩) := Lib.hid (by rw [HADD2.out]; rfl)
            clear HADD2
            simp only [Bool.not_true, Bool.not_false] at hwa hwb
            go_upto_region 17 with fail
            have XR_0 := XR.out.at_ 0 _ rfl
            have XR_1 := XR.out.at_ 1 _ rfl
            have XR_2 := XR.out.at_ 2 _ rfl
            have XR_3 := XR.out.at_ 3 _ rfl
            have XR_4 := XR.out.at_ 4 _ rfl
            have XR_5 := XR.out.at_ 5 _ rfl
            have XR_6 := XR.out.at_ 6 _ rfl
            have XR_7 := XR.out.at_ 7 _ rfl
            have XR_8 := XR.out.at_ 8 _ rfl
            have XR_9 := XR.out.at_ 9 _ rfl
            have XR_a := XR.out.at_ 10 _ rfl
            go_wp2_with fail
            refine (CLB.out _).mono ?_; rintro e w9 ⟨rfl, hb⟩
            clear XR_0 XR_1 XR_2 XR_3 XR_4 XR_5 XR_6 XR_7 XR_8 XR_9 XR_a
            replace CIk := Lib.hid (CIk.out.below hb)
            replace XR := Lib.hid (XR.out.below hb)
            replace HB := Lib.hid (below_step HB.out hb)
            clear hb
            clear CLB
            have hbl := below_alloc w9 (.cells #[.string name] 9)
            have CI9 := Lib.hid (CIk.out.below hbl)
            have HB9 := Lib.hid (below_step HB.out hbl)
            have hsz9 := HB9.out.size
            have HN1 := Lib.hid (one_cell w9 name)
            clear hbl
            go_wp2_with (at_builtin; refine wpList_append_own_at _ rfl _ _ 40 rfl w.heap.size 9 i0 (.string ⟨#[]⟩) 1 16 Tryd.underlying40 JI.out JZ0.out JZ1.out JZ2.out rfl (by decide) _ _ _ rfl CI9.out.ra ⟨w9.heap.size, 0, none⟩ 1 1 [.string name] rfl rfl HN1.out ?n2 ?c1 ?c2 ?c3 ?_)
            case n2 => first | rfl | (intro u hu; simp only [List.mem_singleton] at hu; rw [hu]; rfl)
            case c1 => unfold maxLen; omega
            case c2 => omega
            case c3 => first | exact hsz9 | simpa using hsz9
            intro v' w10 hown hg _ hblk
            rw [show w9.heap.size + 1 = (w9.alloc (.cells #[.string name] 9)).heap.size by simp] at hblk
            have CI10 := Lib.hid (CI9.out.push0 (m.seen ++ [name]) hown hg hblk)
            have HBX := Lib.hid (HB9.out.grown hg hsz9 (own_block CI9.out.ra))
            clear hown hg hblk hsz9 HN1 CI9 HB9 CIk HB XR
            go_wp2_with fail
            go_roundw
            case rel => exact ⟨k + 1, by omega, by go_num, by rw [← HFM.out, HM.out]; exact CI10, HBX.out⟩
            case measure => simp [intOf] <;> omega
          · skip
            have HM : Hid (m' = ⟨m.seen ++ [name], m.a, m.b ++ [name], m.c⟩) := Lib.hid (by rw [HADD2.out]; rfl)
            clear HADD2
            simp only [Bool.not_true, Bool.not_false] at hwa hwb
            go_upto_region 19 with fail
            have XR_0 := XR.out.at_ 0 _ rfl
            have XR_1 := XR.out.at_ 1 _ rfl
            have XR_2 := XR.out.at_ 2 _ rfl
            have XR_3 := XR.out.at_ 3 _ rfl
            have XR_4 := XR.out.at_ 4 _ rfl
            have XR_5 := XR.out.at_ 5 _ rfl
            have XR_6 := XR.out.at_ 6 _ rfl
            have XR_7 := XR.out.at_ 7 _ rfl
            have XR_8 := XR.out.at_ 8 _ rfl
            have XR_9 := XR.out.at_ 9 _ rfl
            have XR_a := XR.out.at_ 10 _ rfl
            go_wp2_with fail
            refine (CLB.out _).mono ?_; rintro e w9 ⟨rfl, hb⟩
            clear XR_0 XR_1 XR_2 XR_3 XR_4 XR_5 XR_6 XR_7 XR_8 XR_9 XR_a
            replace CIk := Lib.hid (CIk.out.below hb)
            replace XR := Lib.hid (XR.out.below hb)
            replace HB := Lib.hid (below_step HB.out hb)
            clear hb
            clear CLB
            have hbl := below_alloc w9 (.cells #[.string name] 9)
            have CI9 := Lib.hid (CIk.out.below hbl)
            have HB9 := Lib.hid (below_step HB.out hbl)
            have hsz9 := HB9.out.size
            have HN1 := Lib.hid (one_cell w9 name)
            clear hbl
            go_wp2_with (at_builtin; refine wpList_append_own_at _ rfl _ _ 40 rfl w.heap.size 9 i0 (.string ⟨#[]⟩) 1 16 Tryd.underlying40 JI.out JZ0.out JZ1.out JZ2.out rfl (by decide) _ _ _ rfl CI9.out.rb ⟨w9.heap.size, 0, none⟩ 1 1 [.string name] rfl rfl HN1.out ?n2 ?c1 ?c2 ?c3 ?_)
            case n2 => first | rfl | (intro u hu; simp only [List.mem_singleton] at hu; rw [hu]; rfl)
            case c1 => unfold maxLen; omega
            case c2 => omega
            case c3 => first | exact hsz9 | simpa using hsz9
            intro v' w10 hown hg _ hblk
            rw [show w9.heap.size + 1 = (w9.alloc (.cells #[.string name] 9)).heap.size by simp] at hblk
            have CI10 := Lib.hid (CI9.out.push1 (m.seen ++ [name]) hown hg hblk)
            have HBX := Lib.hid (HB9.out.grown hg hsz9 (own_block CI9.out.rb))
            clear hown hg hblk hsz9 HN1 CI9 HB9 CIk HB XR
            go_wp2_with fail
            go_roundw
            case rel => exact ⟨k + 1, by omega, by go_num, by rw [← HFM.out, HM.out]; exact CI10, HBX.out⟩
            case measure => simp [intOf] <;> omega
          · skip
            have HM : Hid (m' = ⟨m.seen ++ [name], m.a, m.b, m.c ++ [name]⟩) := Lib.hid (by rw [HADD2.out]; rfl)
            clear HADD2
            simp only [Bool.not_true, Bool.not_false] at hwa hwb
            go_upto_region 21 with fail
            have XR_0 := XR.out.at_ 0 _ rfl
            have XR_1 := XR.out.at_ 1 _ rfl
            have XR_2 := XR.out.at_ 2 _ rfl
            have XR_3 := XR.out.at_ 3 _ rfl
            have XR_4 := XR.out.at_ 4 _ rfl
            have XR_5 := XR.out.at_ 5 _ rfl
            have XR_6 := XR.out.at_ 6 _ rfl
            have XR_7 := XR.out.at_ 7 _ rfl
            have XR_8 := XR.out.at_ 8 _ rfl
            have XR_9 := XR.out.at_ 9 _ rfl
            have XR_a := XR.out.at_ 10 _ rfl
            go_wp2_with fail
            refine (CLB.out _).mono ?_; rintro e w9 ⟨rfl, hb⟩
            clear XR_0 XR_1 XR_2 XR_3 XR_4 XR_5 XR_6 XR_7 XR_8 XR_9 XR_a
            replace CIk := Lib.hid (CIk.out.below hb)
            replace XR := Lib.hid (XR.out.below hb)
            replace HB := Lib.hid (below_step HB.out hb)
            clear hb
            clear CLB
            have hbl := below_alloc w9 (.cells #[.string name] 9)
            have CI9 := Lib.hid (CIk.out.below hbl)
            have HB9 := Lib.hid (below_step HB.out hbl)
            have hsz9 := HB9.out.size
            have HN1 := Lib.hid (one_cell w9 name)
            clear hbl
            go_wp2_with (at_builtin; refine wpList_append_own_at _ rfl _ _ 40 rfl w.heap.size 9 i0 (.string ⟨#[]⟩) 1 16 Tryd.underlying40 JI.out JZ0.out JZ1.out JZ2.out rfl (by decide) _ _ _ rfl CI9.out.rc ⟨w9.heap.size, 0, none⟩ 1 1 [.string name] rfl rfl HN1.out ?n2 ?c1 ?c2 ?c3 ?_)
            case n2 => first | rfl | (intro u hu; simp only [List.mem_singleton] at hu; rw [hu]; rfl)
            case c1 => unfold maxLen; omega
            case c2 => omega
            case c3 => first | exact hsz9 | simpa using hsz9
            intro v' w10 hown hg _ hblk
            rw [show w9.heap.size + 1 = (w9.alloc (.cells #[.string name] 9)).heap.size by simp] at hblk
            have CI10 := Lib.hid (CI9.out.push2 (m.seen ++ [name]) hown hg hblk)
            have HBX := Lib.hid (HB9.out.grown hg hsz9 (own_block CI9.out.rc))
            clear hown hg hblk hsz9 HN1 CI9 HB9 CIk HB XR
            go_wp2_with fail
            go_roundw
            case rel => exact ⟨k + 1, by omega, by go_num, by rw [← HFM.out, HM.out]; exact CI10, HBX.out⟩
            case measure => simp [intOf] <;> omega
    · have hlt2 : ¬ (k : Int) < N := by omega
      have hkN : k = N := by omega
      have HM : Hid (cr = f k) := Lib.hid (by rw [HR.out, hkN])
      clear hkN HR
      generalize f k = m at *
      go_wp2_with fail
      go_ret3
      rw [HM.out]
      exact ⟨_, _, _, rfl, sl_of_own CIk.out.ra, sl_of_own CIk.out.rb, sl_of_own CIk.out.rc, HB.out⟩

end Go.Proofs.YtbgficaboolgiaaDoor

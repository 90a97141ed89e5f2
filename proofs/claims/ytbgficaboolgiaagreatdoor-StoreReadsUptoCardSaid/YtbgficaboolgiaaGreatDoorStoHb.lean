/-
  Contracts of the reference's within, lists, Storable, counts.
-/
import Derived.Test.YtbgficaboolgiaaGreatDoorStoHa
import Derived.Test.YtbgficaboolgiaaGreatDoorStoD
namespace Go.Proofs.YtbgficaboolgiaaGreatDoor
open Go.RowKit
set_option linter.unusedVariables false
set_option linter.unusedSimpArgs false

set_option maxRecDepth 100000 in
theorem refWithin (n m : Int) (w : World) :
    Calls Tryz.prog 54 #[.int .i64 n, .int .i64 m] w fun e w' => e = .returned (.bool (wiB n m)) ∧ w = w' := by
  unfold wiB
  by_cases h : 0 ≤ n
  · go_enter Tryz.func54, Tryz.ntmps54
    go_wp2_with fail
    go_ret
    exact ⟨by simp [h], rfl⟩
  · go_enter Tryz.func54, Tryz.ntmps54
    go_wp2_with fail
    go_ret
    exact ⟨by rw [decide_eq_false (show ¬ 0 ≤ n by omega)]; rfl, rfl⟩

theorem lst_no1 {l : List (List Int)} (h : 16 < l.length) : lstB l = false := by
  unfold lstB
  rw [decide_eq_false (by omega)]; rfl
theorem lst_no2 {l : List (List Int)} {k : Nat} (hk : k < l.length) (h : cntB (l.getD k []) = true) : lstB l = false := by
  unfold lstB
  have : l.any cntB = true := List.any_eq_true.2 ⟨_, getD_mem [] hk, h⟩
  rw [this, Bool.not_true, Bool.and_false]
theorem lst_yes {l : List (List Int)} (h : l.length ≤ 16) (h2 : ∀ j, j < l.length → cntB (l.getD j []) = false) : lstB l = true := by
  unfold lstB
  rw [decide_eq_true h, Bool.true_and, Bool.not_eq_true']
  refine List.any_eq_false.2 fun c hc => ?_
  obtain ⟨j, hj, rfl⟩ := List.mem_iff_getElem.1 hc
  have := h2 j hj
  rw [List.getD_eq_getElem?_getD, List.getElem?_eq_getElem hj] at this
  simp only [Option.getD_some] at this
  rw [this]; decide
theorem cnt_no1 {c : List Int} (h : 256 < c.length) : cntB c = true := by
  unfold cntB
  rw [decide_eq_true h]; rfl
theorem cnt_no2 {c : List Int} {j : Nat} (hj : j < c.length) (h : wiB (c.getD j 0) 1099511627776 = false) : cntB c = true := by
  unfold cntB
  have : (c.any fun n => !wiB n 1099511627776) = true := List.any_eq_true.2 ⟨_, getD_mem 0 hj, by rw [h]; rfl⟩
  rw [this, Bool.or_true]
theorem cnt_yes {c : List Int} (h : c.length ≤ 256) (h2 : ∀ j, j < c.length → wiB (c.getD j 0) 1099511627776 = true) : cntB c = false := by
  unfold cntB
  rw [decide_eq_false (by omega), Bool.false_or]
  refine List.any_eq_false.2 fun n hn => ?_
  obtain ⟨j, hj, rfl⟩ := List.mem_iff_getElem.1 hn
  have := h2 j hj
  rw [List.getD_eq_getElem?_getD, List.getElem?_eq_getElem hj] at this
  simp only [Option.getD_some] at this
  rw [this]; decide

set_option maxRecDepth 100000 in
set_option maxHeartbeats 8000000 in
theorem refLists (w : World) (v : Value) (l : List (List Int)) (hv : Rs ilR w v l anyB) (hn : l.length ≤ 9223372036854775807) (hc : ∀ c ∈ l, c.length ≤ 9223372036854775807) :
    Calls Tryz.prog 55 #[v] w fun e w' => e = .returned (.bool (lstB l)) ∧ w = w' := by
  have HC := Lib.hid (fun k (hk : k < l.length) => hc _ (getD_mem [] hk))
  have HN1 := Lib.hid (lst_no1 (l := l))
  have HN2 := Lib.hid (fun k hk h => lst_no2 (l := l) (k := k) hk h)
  have HY := Lib.hid (lst_yes (l := l))
  have CW := Lib.hid (fun n W => refWithin n 1099511627776 W)
  obtain ⟨A, c, rfl, hcc, hx⟩ := hv.ils
  have HX := Lib.hid hx
  obtain ⟨N, hN⟩ : ∃ N, N = l.length := ⟨_, rfl⟩
  rw [← hN] at hn HN1 HN2 HY HC hcc HX ⊢
  generalize lstB l = r at *
  clear hv hx hc hN
  go_enter Tryz.func55, Tryz.ntmps55
  by_cases h16 : 16 < N
  · have h16' : 16 < (N : Int) := by omega
    have HR := Lib.hid (HN1.out h16)
    go_wp2_with fail
    go_ret
    exact ⟨by rw [HR.out]; rfl, rfl⟩
  have h16' : ¬ 16 < (N : Int) := by omega
  have hN16 : N ≤ 16 := by omega
  clear h16
  go_wp2_with fail
  go_loopw [3] (fun i wr => ∃ k : Nat, k ≤ N ∧ i = .int .i64 k ∧ Hid (∀ j, j < k → cntB (l.getD j []) = false) ∧ w = wr) (fun i _ => N - (intOf i).toNat)
  case atStart => exact ⟨0, Nat.zero_le _, rfl, Lib.hid (fun j hj => by omega), rfl⟩
  case round =>
    obtain ⟨k, hk, rfl, HD, rfl⟩ := hrel
    by_cases hlt : k < N
    · have hlt2 : (k : Int) < N := by omega
      have hk0 : (0 : Int) ≤ (k : Int) := by omega
      obtain ⟨b, o, u, rfl, hbl, q0, hu, -⟩ := HX.out k hlt
      have HNO := Lib.hid (fun h => HN2.out k hlt h)
      have hrl := HC.out k hlt
      have HSTEP : Hid (cntB (l.getD k []) = false → ∀ j, j < k + 1 → cntB (l.getD j []) = false) := Lib.hid fun h j hj => by
        by_cases e : j = k
        · rw [e]; exact h
        · exact HD.out j (by omega)
      clear hbl HD
      generalize l.getD k [] = row at *
      obtain ⟨E, e1, rfl, -, hcell⟩ := id hu
      have HU := Lib.hid hcell
      have C1 := Lib.hid (cnt_no1 (c := row))
      have C2 := Lib.hid (fun j hj h => cnt_no2 (c := row) (j := j) hj h)
      have C3 := Lib.hid (cnt_yes (c := row))
      obtain ⟨L, hL⟩ : ∃ L, L = row.length := ⟨_, rfl⟩
      rw [← hL] at q0 hrl HU C1 C2 C3
      clear hu hcell hL
      generalize cntB row = cb at *
      by_cases h256 : 256 < L
      · have h2 : 256 < (L : Int) := by omega
        have HR := Lib.hid (HNO.out (C1.out h256))
        go_wp2_with fail
        go_ret
        exact ⟨by rw [HR.out]; rfl, rfl⟩
      have h2 : ¬ 256 < (L : Int) := by omega
      have hL256 : L ≤ 256 := by omega
      clear h256
      go_wp2_with fail
      go_loopw [4] (fun i wr => ∃ j : Nat, j ≤ L ∧ i = .int .i64 j ∧ Hid (∀ x, x < j → wiB (row.getD x 0) 1099511627776 = true) ∧ w = wr) (fun i _ => L - (intOf i).toNat)
      case atStart => exact ⟨0, Nat.zero_le _, rfl, Lib.hid (fun j hj => by omega), rfl⟩
      case round =>
        obtain ⟨j, hj, rfl, HJ, rfl⟩ := hrel
        by_cases hjt : j < L
        · have hjt2 : (j : Int) < L := by omega
          have hj0 : (0 : Int) ≤ (j : Int) := by omega
          obtain ⟨a2, rfl, ha2, hr2⟩ := HU.out (by omega)
          have q1 := hr2 j hjt
          clear ha2 hr2
          cases hwi : wiB (row.getD j 0) 1099511627776
          · have HR := Lib.hid (HNO.out (C2.out j hjt hwi))
            have CWj := Lib.hid (fun W => CW.out (row.getD j 0) W)
            rw [hwi] at CWj
            clear hwi HJ
            generalize row.getD j 0 = z at *
            go_wp2_with fail
            refine (CWj.out _).mono ?_; rintro e w2 ⟨rfl, rfl⟩
            go_wp2_with fail
            go_ret
            exact ⟨by rw [HR.out]; rfl, rfl⟩
          · have CWj := Lib.hid (fun W => CW.out (row.getD j 0) W)
            rw [hwi] at CWj
            have HJ2 : Hid (∀ x, x < j + 1 → wiB (row.getD x 0) 1099511627776 = true) := Lib.hid fun x hx => by
              by_cases e : x = j
              · rw [e]; exact hwi
              · exact HJ.out x (by omega)
            clear hwi HJ
            generalize row.getD j 0 = z at *
            go_wp2_with fail
            refine (CWj.out _).mono ?_; rintro e w2 ⟨rfl, rfl⟩
            go_wp2_with fail
            go_roundw
            case rel => exact ⟨j + 1, by omega, by go_num, HJ2, by first | rfl | trivial⟩
            case measure => simp [intOf]; omega
        · have hjt2 : ¬ (j : Int) < L := by omega
          have HS2 := Lib.hid (HSTEP.out (C3.out hL256 (fun x hx => HJ.out x (by omega))))
          clear HJ
          go_wp2_with fail
          go_roundw
          case rel => exact ⟨k + 1, by omega, by go_num, HS2, by first | rfl | trivial⟩
          case measure => simp [intOf]; omega
    · have hlt2 : ¬ (k : Int) < N := by omega
      have HR := Lib.hid (HY.out hN16 (fun j hj => HD.out j (by omega)))
      clear HD
      go_wp2_with fail
      go_ret
      exact ⟨by rw [HR.out]; rfl, rfl⟩

set_option maxRecDepth 100000 in
set_option maxHeartbeats 8000000 in
theorem refStorable (w : World) (p q : Value) (r : Res) (hp : Rs ilR w p r.pts anyB) (hq : Rs ilR w q r.crs anyB) (hz : ResZ r) :
    Calls Tryz.prog 26 #[resV p q r] w fun e w' => e = .returned (.bool (stoB r)) ∧ Below w.heap.size w w' := by
  obtain ⟨z1, z2, z3, z4, z5, z6, z7, z8, z9, ⟨z10, z10'⟩, ⟨z11, z11'⟩⟩ := hz
  have CL1 := Lib.hid (fun W (hW : Below w.heap.size w W) => refLists W p r.pts (hp.below hW) z10 z10')
  have CL2 := Lib.hid (fun W (hW : Below w.heap.size w W) => refLists W q r.crs (hq.below hW) z11 z11')
  have HR : Hid (stoB r = ((((decide (r.test.size ≤ 64) && decide (r.design.size ≤ 64)) && decide (r.sign.size ≤ 64)) && ((wiB r.cycle 4096 && wiB r.sent 4096) && wiB r.got 4096)) && lstB r.pts && lstB r.crs && wiB r.smp 1099511627776 && wiB r.ill 1099511627776)) := Lib.hid rfl
  obtain ⟨A2, c2, rfl, hc2⟩ := hp.slice
  obtain ⟨A1, c1, rfl, hc1⟩ := hq.slice
  unfold resV
  unfold maxLen at z1 z2 z3
  obtain ⟨te, se, de, si, cy, sn, gt, ps, cs, sm, il⟩ := r
  simp only at CL1 CL2 HR z1 z2 z3 z4 ⊢
  have W1 := Lib.hid (fun W => refWithin cy 4096 W)
  have W2 := Lib.hid (fun W => refWithin sn 4096 W)
  have W3 := Lib.hid (fun W => refWithin gt 4096 W)
  have W4 := Lib.hid (fun W => refWithin sm 1099511627776 W)
  have W5 := Lib.hid (fun W => refWithin il 1099511627776 W)
  generalize lstB ps = b1 at *
  generalize lstB cs = b2 at *
  generalize wiB cy 4096 = y1 at *
  generalize wiB sn 4096 = y2 at *
  generalize wiB gt 4096 = y3 at *
  generalize wiB sm 1099511627776 = y4 at *
  generalize wiB il 1099511627776 = y5 at *
  generalize ps.length = M at *
  generalize cs.length = N at *
  generalize stoB _ = rr at *
  clear hp hq hc1 hc2 z10 z10' z11 z11'
  go_enter Tryz.func26, Tryz.ntmps26
  go_upto_region 1 with fail
  have XA := Lib.hid (box_new (W := w) (g := w.heap.size) 28 #[.string te, .int .u64 se, .string de, .string si, .int .i64 cy, .int .i64 sn, .int .i64 gt, .slice A2 M c2, .slice A1 N c1, .int .i64 sm, .int .i64 il] (by simp))
  have HB := Lib.hid (below_alloc w (.cells #[.string te, .int .u64 se, .string de, .string si, .int .i64 cy, .int .i64 sn, .int .i64 gt, .slice A2 M c2, .slice A1 N c1, .int .i64 sm, .int .i64 il] 28))
  generalize w.alloc (.cells #[.string te, .int .u64 se, .string de, .string si, .int .i64 cy, .int .i64 sn, .int .i64 gt, .slice A2 M c2, .slice A1 N c1, .int .i64 sm, .int .i64 il] 28) = w1 at *
  by_cases t1 : te.size ≤ 64
  case neg =>
    have t1' : 64 < (te.size : Int) := by omega
    have HR2 : Hid (rr = false) := Lib.hid (by rw [HR.out]; simp [t1])
    have XA_0 := XA.out.at_ 0 _ rfl
    have XA_2 := XA.out.at_ 2 _ rfl
    have XA_3 := XA.out.at_ 3 _ rfl
    go_wp2_with fail
    go_ret
    exact ⟨by rw [HR2.out]; rfl, HB.out⟩
  have t1' : ¬ 64 < (te.size : Int) := by omega
  by_cases t2 : de.size ≤ 64
  case neg =>
    have t2' : 64 < (de.size : Int) := by omega
    have HR2 : Hid (rr = false) := Lib.hid (by rw [HR.out]; simp [t2])
    have XA_0 := XA.out.at_ 0 _ rfl
    have XA_2 := XA.out.at_ 2 _ rfl
    have XA_3 := XA.out.at_ 3 _ rfl
    go_wp2_with fail
    go_ret
    exact ⟨by rw [HR2.out]; rfl, HB.out⟩
  have t2' : ¬ 64 < (de.size : Int) := by omega
  by_cases t3 : si.size ≤ 64
  case neg =>
    have t3' : 64 < (si.size : Int) := by omega
    have HR2 : Hid (rr = false) := Lib.hid (by rw [HR.out]; simp [t3])
    have XA_0 := XA.out.at_ 0 _ rfl
    have XA_2 := XA.out.at_ 2 _ rfl
    have XA_3 := XA.out.at_ 3 _ rfl
    go_wp2_with fail
    go_ret
    exact ⟨by rw [HR2.out]; rfl, HB.out⟩
  have t3' : ¬ 64 < (si.size : Int) := by omega
  have HR1 : Hid (rr = (((y1 && y2) && y3) && b1 && b2 && y4 && y5)) := Lib.hid (by rw [HR.out, decide_eq_true t1, decide_eq_true t2, decide_eq_true t3]; simp)
  clear t1 t2 t3 HR z1 z2 z3 z4
  have XA_0 := XA.out.at_ 0 _ rfl
  have XA_2 := XA.out.at_ 2 _ rfl
  have XA_3 := XA.out.at_ 3 _ rfl
  have XA_4 := XA.out.at_ 4 _ rfl
  have XA_5 := XA.out.at_ 5 _ rfl
  have XA_6 := XA.out.at_ 6 _ rfl
  have XA_7 := XA.out.at_ 7 _ rfl
  go_upto_region 3 with fail
  cases y1
  · have HR2 : Hid (rr = false) := Lib.hid (by rw [HR1.out]; simp)
    go_wp2_with fail
    refine (W1.out _).mono ?_; rintro e w2 ⟨rfl, rfl⟩
    go_wp2_with fail
    go_ret
    exact ⟨by rw [HR2.out]; rfl, HB.out⟩
  cases y2
  · have HR2 : Hid (rr = false) := Lib.hid (by rw [HR1.out]; simp)
    go_wp2_with fail
    refine (W1.out _).mono ?_; rintro e w2 ⟨rfl, rfl⟩
    go_wp2_with fail
    refine (W2.out _).mono ?_; rintro e w2 ⟨rfl, rfl⟩
    go_wp2_with fail
    go_ret
    exact ⟨by rw [HR2.out]; rfl, HB.out⟩
  cases y3
  · have HR2 : Hid (rr = false) := Lib.hid (by rw [HR1.out]; simp)
    go_wp2_with fail
    refine (W1.out _).mono ?_; rintro e w2 ⟨rfl, rfl⟩
    go_wp2_with fail
    refine (W2.out _).mono ?_; rintro e w2 ⟨rfl, rfl⟩
    go_wp2_with fail
    refine (W3.out _).mono ?_; rintro e w2 ⟨rfl, rfl⟩
    go_wp2_with fail
    go_ret
    exact ⟨by rw [HR2.out]; rfl, HB.out⟩
  have XA_8 := XA.out.at_ 8 _ rfl
  have XA_9 := XA.out.at_ 9 _ rfl
  have XA_a := XA.out.at_ 10 _ rfl
  cases b1
  · have HR2 : Hid (rr = false) := Lib.hid (by rw [HR1.out]; simp)
    go_wp2_with fail
    refine (W1.out _).mono ?_; rintro e w2 ⟨rfl, rfl⟩
    go_wp2_with fail
    refine (W2.out _).mono ?_; rintro e w2 ⟨rfl, rfl⟩
    go_wp2_with fail
    refine (W3.out _).mono ?_; rintro e w2 ⟨rfl, rfl⟩
    go_wp2_with fail
    refine (CL1.out _ HB.out).mono ?_; rintro e w2 ⟨rfl, rfl⟩
    go_wp2_with fail
    go_ret
    exact ⟨by rw [HR2.out]; rfl, HB.out⟩
  cases b2
  · have HR2 : Hid (rr = false) := Lib.hid (by rw [HR1.out]; simp)
    go_wp2_with fail
    refine (W1.out _).mono ?_; rintro e w2 ⟨rfl, rfl⟩
    go_wp2_with fail
    refine (W2.out _).mono ?_; rintro e w2 ⟨rfl, rfl⟩
    go_wp2_with fail
    refine (W3.out _).mono ?_; rintro e w2 ⟨rfl, rfl⟩
    go_wp2_with fail
    refine (CL1.out _ HB.out).mono ?_; rintro e w2 ⟨rfl, rfl⟩
    go_wp2_with fail
    refine (CL2.out _ HB.out).mono ?_; rintro e w2 ⟨rfl, rfl⟩
    go_wp2_with fail
    go_ret
    exact ⟨by rw [HR2.out]; rfl, HB.out⟩
  cases y4
  · have HR2 : Hid (rr = false) := Lib.hid (by rw [HR1.out]; simp)
    go_wp2_with fail
    refine (W1.out _).mono ?_; rintro e w2 ⟨rfl, rfl⟩
    go_wp2_with fail
    refine (W2.out _).mono ?_; rintro e w2 ⟨rfl, rfl⟩
    go_wp2_with fail
    refine (W3.out _).mono ?_; rintro e w2 ⟨rfl, rfl⟩
    go_wp2_with fail
    refine (CL1.out _ HB.out).mono ?_; rintro e w2 ⟨rfl, rfl⟩
    go_wp2_with fail
    refine (CL2.out _ HB.out).mono ?_; rintro e w2 ⟨rfl, rfl⟩
    go_wp2_with fail
    refine (W4.out _).mono ?_; rintro e w2 ⟨rfl, rfl⟩
    go_wp2_with fail
    go_ret
    exact ⟨by rw [HR2.out]; rfl, HB.out⟩
  have HR2 : Hid (rr = y5) := Lib.hid (by rw [HR1.out]; simp)
  go_wp2_with fail
  refine (W1.out _).mono ?_; rintro e w2 ⟨rfl, rfl⟩
  go_wp2_with fail
  refine (W2.out _).mono ?_; rintro e w2 ⟨rfl, rfl⟩
  go_wp2_with fail
  refine (W3.out _).mono ?_; rintro e w2 ⟨rfl, rfl⟩
  go_wp2_with fail
  refine (CL1.out _ HB.out).mono ?_; rintro e w2 ⟨rfl, rfl⟩
  go_wp2_with fail
  refine (CL2.out _ HB.out).mono ?_; rintro e w2 ⟨rfl, rfl⟩
  go_wp2_with fail
  refine (W4.out _).mono ?_; rintro e w2 ⟨rfl, rfl⟩
  go_wp2_with fail
  refine (W5.out _).mono ?_; rintro e w2 ⟨rfl, rfl⟩
  go_wp2_with fail
  go_ret
  exact ⟨by rw [HR2.out]; rfl, HB.out⟩

set_option maxRecDepth 100000 in
set_option maxHeartbeats 8000000 in
theorem refCounts (w : World) (v : Value) (l : List (List Int)) (hv : Rs ilR w v l anyB) (hl : lstB l = true) :
    Calls Tryz.prog 30 #[v] w fun e w' => e = .returned (.string (mkS (lstL l))) ∧ Below w.heap.size w w' := by
  have hlen := lstL_len hl
  obtain ⟨h16, hrow⟩ := lst_parts hl
  have HROW := Lib.hid (fun k (hk : k < l.length) => hrow _ (getD_mem [] hk))
  have HTK := Lib.hid (fun k hk => lst_take (l := l) (k := k) hk)
  have HLE : Hid (∀ k, (pNum l.length ++ (l.take k).flatMap cntL).length ≤ 100000) := Lib.hid fun k => by
    have := take_flat_le cntL l k
    unfold lstL at hlen
    rw [List.length_append] at hlen ⊢; omega
  have HAL : Hid (pNum l.length ++ (l.take l.length).flatMap cntL = lstL l) := Lib.hid (by rw [List.take_length]; rfl)
  have HST : Hid (pNum l.length ++ (l.take 0).flatMap cntL = pNum l.length) := Lib.hid (by simp)
  obtain ⟨A, c, rfl, hc, hx⟩ := hv.ils
  have HX := Lib.hid hx
  obtain ⟨N, hN⟩ : ∃ N, N = l.length := ⟨_, rfl⟩
  have HN := Lib.hid hN
  rw [← hN] at h16 HLE HAL HST hc ⊢
  have CN := Lib.hid (fun (n : Int) (h0 : 0 ≤ n) (h1 : n ≤ 1099511627776) W (hW : Below w.heap.size w W) => refNumber W n (by omega) (by omega))
  generalize lstL l = r at *
  clear hl hx hN hlen hrow hc hv
  obtain ⟨pre, hpre⟩ : ∃ pre : Nat → List UInt8, pre = fun k => pNum N ++ (l.take k).flatMap cntL := ⟨_, rfl⟩
  have HLE2 : Hid (∀ k, (pre k).length ≤ 100000) := Lib.hid fun k => by rw [hpre]; exact HLE.out k
  have HAL2 : Hid (pre N = r) := Lib.hid (by rw [hpre]; exact HAL.out)
  have HST2 : Hid (pre 0 = pNum N) := Lib.hid (by rw [hpre]; exact HST.out)
  have HTK2 : Hid (∀ k, k < l.length → pre (k + 1) = (pre k ++ pNum (l.getD k []).length) ++ (l.getD k []).flatMap pNum) := Lib.hid fun k hk => by
    rw [hpre]; simp only [HTK.out k hk, List.append_assoc]
  clear hpre HLE HAL HST HTK
  have HB0 := Lib.hid (Below.refl w.heap.size w)
  go_enter Tryz.func30, Tryz.ntmps30
  go_wp2_with fail
  refine (CN.out N (by omega) (by omega) _ HB0.out).mono ?_; rintro e w2 ⟨rfl, hb⟩
  have HB := Lib.hid hb
  clear hb HB0
  rw [← HST2.out]
  go_wp2_with fail
  go_loopw [3, 4] (fun s i wr => ∃ k : Nat, k ≤ N ∧ s = .string (mkS (pre k)) ∧ i = .int .i64 k ∧ Below w.heap.size w wr) (fun _ i _ => N - (intOf i).toNat)
  case atStart => exact ⟨0, Nat.zero_le _, rfl, rfl, HB.out⟩
  case round =>
    clear HB
    obtain ⟨k, hk, rfl, rfl, hb⟩ := hrel
    have HB := Lib.hid hb
    clear hb
    by_cases hlt : k < N
    · have hlt2 : (k : Int) < N := by omega
      have hk0 : (0 : Int) ≤ (k : Int) := by omega
      have hkn : k < l.length := by rw [← HN.out]; exact hlt
      obtain ⟨b, o, u, rfl, hbl, q0, hu, -⟩ := HX.out k hkn
      have q1 : wr.cell? ⟨b, o + k, none⟩ = some u := (HB.out.cell (p := ⟨b, o + k, none⟩) hbl).trans q0
      have HU := Lib.hid hu
      obtain ⟨h256, hnum⟩ := HROW.out k hkn
      have HTKk := Lib.hid (HTK2.out k hkn)
      have hl1 := HLE2.out (k + 1)
      obtain ⟨E, e1, rfl, -⟩ := id hu
      generalize l.getD k [] = row at *
      have HNUM := Lib.hid (fun j (hj : j < row.length) => hnum _ (getD_mem 0 hj))
      have HNT := Lib.hid (fun j hj => num_take (c := row) (k := j) hj)
      have HTFL := Lib.hid (take_flat_le pNum row)
      obtain ⟨L, hL⟩ : ∃ L, L = row.length := ⟨_, rfl⟩
      have HL := Lib.hid hL
      rw [← hL] at q1 h256 HU HTKk
      have e1' : (mkS (pre k)).size ≤ 100000 := by rw [mkS_size]; exact HLE2.out k
      rw [HTKk.out, List.length_append, List.length_append] at hl1
      have e2' : (mkS (pNum L)).size ≤ 100000 := by rw [mkS_size]; omega
      have HLB : Hid (((pre k ++ pNum L).length + (row.flatMap pNum).length) ≤ 100000) := Lib.hid (by rw [List.length_append]; omega)
      have q0' := q0
      rw [← hL] at q0'
      have hbl' := hbl
      clear hu q0 hbl hnum hkn hL hl1
      have HAP := Lib.hid (mkS_app (pre k) (pNum L))
      have f1 : ¬ 9223372036854775807 < (mkS (pre k)).size + (mkS (pNum L)).size := by omega
      obtain ⟨wo, rfl⟩ : ∃ x : World, x = wr := ⟨_, rfl⟩
      have Q1 := Lib.hid (fun W (hW : Below w.heap.size w W) => (show W.cell? ⟨b, o + k, none⟩ = some (.slice E L e1) from (hW.cell (p := ⟨b, o + k, none⟩) hbl').trans q0'))
      go_wp2_with fail
      clear q1 q0'
      refine (CN.out L (by omega) (by omega) _ HB.out).mono ?_; rintro e w3 ⟨rfl, hb⟩
      replace HB := Lib.hid (below_step HB.out hb)
      clear hb
      go_wp2_with fail
      rw [HAP.out]
      clear f1 HAP e1' e2'
      go_loopw [3, 5] (fun s i wr => ∃ j : Nat, j ≤ L ∧ s = .string (mkS ((pre k ++ pNum L) ++ (row.take j).flatMap pNum)) ∧ i = .int .i64 j ∧ Below w.heap.size w wr) (fun _ i _ => L - (intOf i).toNat)
      case atStart => exact ⟨0, Nat.zero_le _, by simp, rfl, HB.out⟩
      case round =>
        clear HB
        obtain ⟨j, hj, rfl, rfl, hb⟩ := hrel
        have HB := Lib.hid hb
        have q2 := Q1.out _ hb
        clear hb
        by_cases hjt : j < L
        · have hjt2 : (j : Int) < L := by omega
          have hj0 : (0 : Int) ≤ (j : Int) := by omega
          have hjr : j < row.length := by rw [← HL.out]; exact hjt
          obtain ⟨E', e', ee, -, hcell⟩ := HU.out
          simp only [Value.slice.injEq] at ee
          obtain ⟨rfl, -, rfl⟩ := ee
          obtain ⟨a2, rfl, ha2, hcell⟩ := hcell (by omega)
          have q1 : wr.cell? (a2.add j) = some (.int .i64 (row.getD j 0)) := by rw [HB.out.cell (by rw [block_of_add]; exact ha2)]; exact hcell j hjr
          obtain ⟨z0, z1⟩ := HNUM.out j hjr
          have HNTj := Lib.hid (HNT.out j hjr)
          have htf := HTFL.out (j + 1)
          generalize row.getD j 0 = z at *
          obtain ⟨base, hbase⟩ : ∃ x, x = (pre k ++ pNum L) ++ (row.take j).flatMap pNum := ⟨_, rfl⟩
          have HEQ : Hid ((pre k ++ pNum L) ++ (row.take (j + 1)).flatMap pNum = base ++ pNum z) := Lib.hid (by rw [HNTj.out, hbase, List.append_assoc, List.append_assoc, List.append_assoc])
          have hlb := HLB.out
          have hbl : base.length + (pNum z).length ≤ 100000 := by
            have := congrArg List.length HEQ.out
            simp only [List.length_append] at this hlb
            omega
          rw [← hbase]
          have HAP := Lib.hid (mkS_app base (pNum z))
          have f1 : ¬ 9223372036854775807 < (mkS base).size + (mkS (pNum z)).size := by rw [mkS_size, mkS_size]; omega
          clear hcell hjr htf hlb hbl hbase HNTj
          go_wp2_with fail
          clear q1 q2
          refine (CN.out z z0 z1 _ HB.out).mono ?_; rintro e w5 ⟨rfl, hb⟩
          replace HB := Lib.hid (below_step HB.out hb)
          clear hb
          go_wp2_with fail
          go_roundw
          case rel => exact ⟨j + 1, by omega, by rw [HEQ.out, HAP.out], by go_num, HB.out⟩
          case measure => simp [intOf]; omega
        · have hjt2 : ¬ (j : Int) < L := by omega
          have hjL : j = row.length := by have := HL.out; omega
          have HEQ : Hid ((pre k ++ pNum L) ++ (row.take j).flatMap pNum = pre (k + 1)) := Lib.hid (by rw [hjL, List.take_length, HTKk.out])
          clear hjL
          go_wp2_with fail
          go_roundw
          case rel => exact ⟨k + 1, by omega, by rw [HEQ.out], by go_num, HB.out⟩
          case measure => simp [intOf]; omega
    · have hlt2 : ¬ (k : Int) < N := by omega
      obtain rfl : k = N := by omega
      go_wp2_with fail
      go_ret
      exact ⟨by rw [← HAL2.out]; rfl, HB.out⟩

end Go.Proofs.YtbgficaboolgiaaGreatDoor

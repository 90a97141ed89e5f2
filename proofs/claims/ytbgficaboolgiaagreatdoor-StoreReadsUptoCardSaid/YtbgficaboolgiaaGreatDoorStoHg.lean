/-
  Contract of the reference's Decode.
-/
import Derived.Test.YtbgficaboolgiaaGreatDoorStoHf
namespace Go.Proofs.YtbgficaboolgiaaGreatDoor
open Go.RowKit
set_option linter.unusedVariables false
set_option linter.unusedSimpArgs false

set_option maxRecDepth 100000 in
theorem refDec_ret {a : Act} {W : World} {g : Nat} {v0 v1 v2 v3 v4 v5 v6 v7 v8 v9 va : Value} {e : Int} {Q : Ending → World → Prop} (hg : a.tmps[2]? = some (.pointer (some ⟨g, 0, none⟩))) (he : a.tmps[3]? = some (.int .i64 e)) (hd : a.defers = [])
    (hx : Box W g #[v0, v1, v2, v3, v4, v5, v6, v7, v8, v9, va] 28) (h : Q (.returned (.tuple #[.agg #[v0, v1, v2, v3, v4, v5, v6, v7, v8, v9, va], .int .i64 e])) W) : bodyPost Tryz.prog Tryz.f15 Q .ret a W := by
  have q0 := hx.at_ 0 _ rfl
  have q1 := hx.at_ 1 _ rfl
  have q2 := hx.at_ 2 _ rfl
  have q3 := hx.at_ 3 _ rfl
  have q4 := hx.at_ 4 _ rfl
  have q5 := hx.at_ 5 _ rfl
  have q6 := hx.at_ 6 _ rfl
  have q7 := hx.at_ 7 _ rfl
  have q8 := hx.at_ 8 _ rfl
  have q9 := hx.at_ 9 _ rfl
  have qa := hx.at_ 10 _ rfl
  refine bodyPost_ret (v := .tuple #[.agg #[v0, v1, v2, v3, v4, v5, v6, v7, v8, v9, va], .int .i64 e]) ?_ hd h
  simp [results, Tryz.results15, go_sem, hg, he, q0, q1, q2, q3, q4, q5, q6, q7, q8, q9, qa]

set_option maxRecDepth 100000 in
set_option maxHeartbeats 16000000 in
theorem refDecode (s : ByteArray) (hs : s.size ≤ maxLen) (w : World) :
    Calls Tryz.prog 15 #[.string s] w fun e w' => DEC w (decT s) e w' := by
  have CO := Lib.hid (fun W => refOpen s hs W)
  have HT : Hid (decT s = if (openT s).2 ≠ 0 then (res0, (openT s).2) else decB (openT s).1) := Lib.hid rfl
  have hb : (openT s).1.size ≤ maxLen := Nat.le_trans (openT_size s) hs
  generalize decT s = r at *
  generalize openT s = q at *
  obtain ⟨b, oe⟩ := q
  simp only at CO HT hb
  clear hs
  by_cases h : oe = 0
  case neg =>
    have f1 : (oe != 0) = true := by simpa using h
    have HR : Hid (r = (res0, oe)) := Lib.hid (by rw [HT.out, if_pos h])
    clear HT h hb
    go_enter Tryz.func15, Tryz.ntmps15
    go_upto_region 1 with fail
    have XQ := Lib.hid (box_new (W := w) (g := w.heap.size) 28 #[.string ⟨#[]⟩, .int .u64 0, .string ⟨#[]⟩, .string ⟨#[]⟩, .int .i64 0, .int .i64 0, .int .i64 0, .slice none 0 0, .slice none 0 0, .int .i64 0, .int .i64 0] (by simp))
    have HB := Lib.hid (below_alloc w (.cells #[.string ⟨#[]⟩, .int .u64 0, .string ⟨#[]⟩, .string ⟨#[]⟩, .int .i64 0, .int .i64 0, .int .i64 0, .slice none 0 0, .slice none 0 0, .int .i64 0, .int .i64 0] 28))
    generalize w.alloc (.cells #[.string ⟨#[]⟩, .int .u64 0, .string ⟨#[]⟩, .string ⟨#[]⟩, .int .i64 0, .int .i64 0, .int .i64 0, .slice none 0 0, .slice none 0 0, .int .i64 0, .int .i64 0] 28) = w1 at *
    go_wp2_with fail
    refine (CO.out _).mono ?_; rintro e w2 ⟨rfl, rfl⟩
    have XQ_0 := XQ.out.at_ 0 _ rfl
    have XQ_1 := XQ.out.at_ 1 _ rfl
    have XQ_2 := XQ.out.at_ 2 _ rfl
    have XQ_3 := XQ.out.at_ 3 _ rfl
    have XQ_4 := XQ.out.at_ 4 _ rfl
    have XQ_5 := XQ.out.at_ 5 _ rfl
    have XQ_6 := XQ.out.at_ 6 _ rfl
    have XQ_7 := XQ.out.at_ 7 _ rfl
    have XQ_8 := XQ.out.at_ 8 _ rfl
    have XQ_9 := XQ.out.at_ 9 _ rfl
    have XQ_a := XQ.out.at_ 10 _ rfl
    have XQ_l := XQ.out.lt
    have XQ_z0 := XQ.out.frozen 0
    have XQ_z1 := XQ.out.frozen 1
    have XQ_z2 := XQ.out.frozen 2
    have XQ_z3 := XQ.out.frozen 3
    have XQ_z4 := XQ.out.frozen 4
    have XQ_z5 := XQ.out.frozen 5
    have XQ_z6 := XQ.out.frozen 6
    have XQ_z7 := XQ.out.frozen 7
    have XQ_z8 := XQ.out.frozen 8
    have XQ_z9 := XQ.out.frozen 9
    have XQ_za := XQ.out.frozen 10
    go_wp2_with fail
    refine bodyPost_ret (v := .tuple #[.agg #[.string ⟨#[]⟩, .int .u64 0, .string ⟨#[]⟩, .string ⟨#[]⟩, .int .i64 0, .int .i64 0, .int .i64 0, .slice none 0 0, .slice none 0 0, .int .i64 0, .int .i64 0], .int .i64 oe]) (by simp [results, Tryz.results15, go_sem, XQ_0, XQ_1, XQ_2, XQ_3, XQ_4, XQ_5, XQ_6, XQ_7, XQ_8, XQ_9, XQ_a, XQ_l]) rfl ?_
    exact dec_zero HR.out (by (iterate 11 (refine below_setC ?_ (Nat.le_refl _))); exact HB.out)
  subst h
  rw [if_neg (by simp)] at HT
  have hb2 : b.size ≤ 9223372036854775807 := by unfold maxLen at hb; exact hb
  have HDE : Hid (decB b = if decE b = 0 then (decR b, 0) else (res0, decE b)) := Lib.hid rfl
  have HDR : Hid (decR b = ⟨(st1 b).1, (st2 b).1, (st3 b).1, (st4 b).1, (st5 b).1, (st6 b).1, (st7 b).1, (st8 b).1, (st9 b).1, (stA b).1, (stB b).1⟩) := Lib.hid rfl
  have HDX : Hid (decE b = if (stB b).2.2 = 0 ∧ (stB b).2.1 < b.size then 5 else (stB b).2.2) := Lib.hid rfl
  have O0 : StOk b (0, 0) := ⟨⟨Int.le_refl _, by simp⟩, by decide⟩
  have C1 := Lib.hid (fun W g (a : Int) (ha : (0 : Int) = 0 → a = 0) (h : Box W g #[.string b, .int .i64 a, .int .i64 0] 78) => refRdT b hb 0 0 O0 a ha W g h)
  have O1' := (rdT_ok O0).1
  have S1 : st1 b = rdT b (0, 0) := rfl
  obtain ⟨⟨v1, a1, e1⟩, hq⟩ : ∃ q, q = rdT b (0, 0) := ⟨_, rfl⟩
  rw [← hq] at C1 O1' S1
  simp only at C1
  have O1 : StOk b (a1, e1) := O1'
  clear hq O1'
  have C2 := Lib.hid (fun W g (a : Int) (ha : (e1 : Int) = 0 → a = a1) (h : Box W g #[.string b, .int .i64 a, .int .i64 e1] 78) => refRdS b hb a1 e1 O1 a ha W g h)
  have O2' := (rdS_ok O1).1
  have Z1 : (rdS b (a1, e1)).2.2 = 0 → e1 = 0 := fun h => by
    by_cases h0 : e1 = 0
    · exact h0
    · rw [rdS_err (m := (a1, e1)) h0] at h; exact h
  have S2 : st2 b = rdS b (a1, e1) := by unfold st2; rw [S1]
  obtain ⟨⟨v2, a2, e2⟩, hq⟩ : ∃ q, q = rdS b (a1, e1) := ⟨_, rfl⟩
  rw [← hq] at C2 O2' S2 Z1
  simp only at C2 Z1
  have HZ1 := Lib.hid Z1
  have O2 : StOk b (a2, e2) := O2'
  clear hq O2' Z1
  have C3 := Lib.hid (fun W g (a : Int) (ha : (e2 : Int) = 0 → a = a2) (h : Box W g #[.string b, .int .i64 a, .int .i64 e2] 78) => refRdT b hb a2 e2 O2 a ha W g h)
  have O3' := (rdT_ok O2).1
  have Z2 : (rdT b (a2, e2)).2.2 = 0 → e2 = 0 := fun h => by
    by_cases h0 : e2 = 0
    · exact h0
    · rw [rdT_err (m := (a2, e2)) h0] at h; exact h
  have S3 : st3 b = rdT b (a2, e2) := by unfold st3; rw [S2]
  obtain ⟨⟨v3, a3, e3⟩, hq⟩ : ∃ q, q = rdT b (a2, e2) := ⟨_, rfl⟩
  rw [← hq] at C3 O3' S3 Z2
  simp only at C3 Z2
  have HZ2 := Lib.hid Z2
  have O3 : StOk b (a3, e3) := O3'
  clear hq O3' Z2
  have C4 := Lib.hid (fun W g (a : Int) (ha : (e3 : Int) = 0 → a = a3) (h : Box W g #[.string b, .int .i64 a, .int .i64 e3] 78) => refRdT b hb a3 e3 O3 a ha W g h)
  have O4' := (rdT_ok O3).1
  have Z3 : (rdT b (a3, e3)).2.2 = 0 → e3 = 0 := fun h => by
    by_cases h0 : e3 = 0
    · exact h0
    · rw [rdT_err (m := (a3, e3)) h0] at h; exact h
  have S4 : st4 b = rdT b (a3, e3) := by unfold st4; rw [S3]
  obtain ⟨⟨v4, a4, e4⟩, hq⟩ : ∃ q, q = rdT b (a3, e3) := ⟨_, rfl⟩
  rw [← hq] at C4 O4' S4 Z3
  simp only at C4 Z3
  have HZ3 := Lib.hid Z3
  have O4 : StOk b (a4, e4) := O4'
  clear hq O4' Z3
  have C5 := Lib.hid (fun W g (a : Int) (ha : (e4 : Int) = 0 → a = a4) (h : Box W g #[.string b, .int .i64 a, .int .i64 e4] 78) => refRdN 4096 b hb a4 e4 O4 a ha W g h)
  have O5' := (rdN_ok (t := 4096) (by decide) hb2 O4).1
  have Z4 : (rdN b 4096 (a4, e4)).2.2 = 0 → e4 = 0 := fun h => by
    by_cases h0 : e4 = 0
    · exact h0
    · rw [rdN_err (m := (a4, e4)) h0] at h; exact h
  have S5 : st5 b = rdN b 4096 (a4, e4) := by unfold st5; rw [S4]
  obtain ⟨⟨v5, a5, e5⟩, hq⟩ : ∃ q, q = rdN b 4096 (a4, e4) := ⟨_, rfl⟩
  rw [← hq] at C5 O5' S5 Z4
  simp only at C5 Z4
  have HZ4 := Lib.hid Z4
  have O5 : StOk b (a5, e5) := O5'
  clear hq O5' Z4
  have C6 := Lib.hid (fun W g (a : Int) (ha : (e5 : Int) = 0 → a = a5) (h : Box W g #[.string b, .int .i64 a, .int .i64 e5] 78) => refRdN 4096 b hb a5 e5 O5 a ha W g h)
  have O6' := (rdN_ok (t := 4096) (by decide) hb2 O5).1
  have Z5 : (rdN b 4096 (a5, e5)).2.2 = 0 → e5 = 0 := fun h => by
    by_cases h0 : e5 = 0
    · exact h0
    · rw [rdN_err (m := (a5, e5)) h0] at h; exact h
  have S6 : st6 b = rdN b 4096 (a5, e5) := by unfold st6; rw [S5]
  obtain ⟨⟨v6, a6, e6⟩, hq⟩ : ∃ q, q = rdN b 4096 (a5, e5) := ⟨_, rfl⟩
  rw [← hq] at C6 O6' S6 Z5
  simp only at C6 Z5
  have HZ5 := Lib.hid Z5
  have O6 : StOk b (a6, e6) := O6'
  clear hq O6' Z5
  have C7 := Lib.hid (fun W g (a : Int) (ha : (e6 : Int) = 0 → a = a6) (h : Box W g #[.string b, .int .i64 a, .int .i64 e6] 78) => refRdN 4096 b hb a6 e6 O6 a ha W g h)
  have O7' := (rdN_ok (t := 4096) (by decide) hb2 O6).1
  have Z6 : (rdN b 4096 (a6, e6)).2.2 = 0 → e6 = 0 := fun h => by
    by_cases h0 : e6 = 0
    · exact h0
    · rw [rdN_err (m := (a6, e6)) h0] at h; exact h
  have S7 : st7 b = rdN b 4096 (a6, e6) := by unfold st7; rw [S6]
  obtain ⟨⟨v7, a7, e7⟩, hq⟩ : ∃ q, q = rdN b 4096 (a6, e6) := ⟨_, rfl⟩
  rw [← hq] at C7 O7' S7 Z6
  simp only at C7 Z6
  have HZ6 := Lib.hid Z6
  have O7 : StOk b (a7, e7) := O7'
  clear hq O7' Z6
  have C8 := Lib.hid (fun W g (a : Int) (ha : (e7 : Int) = 0 → a = a7) (h : Box W g #[.string b, .int .i64 a, .int .i64 e7] 78) => refRdL b hb a7 e7 O7 a ha W g h)
  have O8' := (rdL_ok hb2 O7).1
  have Z7 : (rdL b (a7, e7)).2.2 = 0 → e7 = 0 := fun h => by
    by_cases h0 : e7 = 0
    · exact h0
    · rw [rdL_err (m := (a7, e7)) h0] at h; exact h
  have S8 : st8 b = rdL b (a7, e7) := by unfold st8; rw [S7]
  obtain ⟨⟨v8, a8, e8⟩, hq⟩ : ∃ q, q = rdL b (a7, e7) := ⟨_, rfl⟩
  rw [← hq] at C8 O8' S8 Z7
  simp only at C8 Z7
  have HZ7 := Lib.hid Z7
  have O8 : StOk b (a8, e8) := O8'
  clear hq O8' Z7
  have C9 := Lib.hid (fun W g (a : Int) (ha : (e8 : Int) = 0 → a = a8) (h : Box W g #[.string b, .int .i64 a, .int .i64 e8] 78) => refRdL b hb a8 e8 O8 a ha W g h)
  have O9' := (rdL_ok hb2 O8).1
  have Z8 : (rdL b (a8, e8)).2.2 = 0 → e8 = 0 := fun h => by
    by_cases h0 : e8 = 0
    · exact h0
    · rw [rdL_err (m := (a8, e8)) h0] at h; exact h
  have S9 : st9 b = rdL b (a8, e8) := by unfold st9; rw [S8]
  obtain ⟨⟨v9, a9, e9⟩, hq⟩ : ∃ q, q = rdL b (a8, e8) := ⟨_, rfl⟩
  rw [← hq] at C9 O9' S9 Z8
  simp only at C9 Z8
  have HZ8 := Lib.hid Z8
  have O9 : StOk b (a9, e9) := O9'
  clear hq O9' Z8
  have CA := Lib.hid (fun W g (a : Int) (ha : (e9 : Int) = 0 → a = a9) (h : Box W g #[.string b, .int .i64 a, .int .i64 e9] 78) => refRdN 1099511627776 b hb a9 e9 O9 a ha W g h)
  have O10' := (rdN_ok (t := 1099511627776) (by decide) hb2 O9).1
  have Z9 : (rdN b 1099511627776 (a9, e9)).2.2 = 0 → e9 = 0 := fun h => by
    by_cases h0 : e9 = 0
    · exact h0
    · rw [rdN_err (m := (a9, e9)) h0] at h; exact h
  have SA : stA b = rdN b 1099511627776 (a9, e9) := by unfold stA; rw [S9]
  obtain ⟨⟨v10, a10, e10⟩, hq⟩ : ∃ q, q = rdN b 1099511627776 (a9, e9) := ⟨_, rfl⟩
  rw [← hq] at CA O10' SA Z9
  simp only at CA Z9
  have HZ9 := Lib.hid Z9
  have O10 : StOk b (a10, e10) := O10'
  clear hq O10' Z9
  have CB := Lib.hid (fun W g (a : Int) (ha : (e10 : Int) = 0 → a = a10) (h : Box W g #[.string b, .int .i64 a, .int .i64 e10] 78) => refRdN 1099511627776 b hb a10 e10 O10 a ha W g h)
  have O11' := (rdN_ok (t := 1099511627776) (by decide) hb2 O10).1
  have Z10 : (rdN b 1099511627776 (a10, e10)).2.2 = 0 → e10 = 0 := fun h => by
    by_cases h0 : e10 = 0
    · exact h0
    · rw [rdN_err (m := (a10, e10)) h0] at h; exact h
  have SB : stB b = rdN b 1099511627776 (a10, e10) := by unfold stB; rw [SA]
  obtain ⟨⟨v11, a11, e11⟩, hq⟩ : ∃ q, q = rdN b 1099511627776 (a10, e10) := ⟨_, rfl⟩
  rw [← hq] at CB O11' SB Z10
  simp only at CB Z10
  have HZ10 := Lib.hid Z10
  have O11 : StOk b (a11, e11) := O11'
  clear hq O11' Z10
  rw [S1, S2, S3, S4, S5, S6, S7, S8, S9, SA, SB] at HDR
  rw [SB] at HDX
  clear S1 S2 S3 S4 S5 S6 S7 S8 S9 SA SB O0 O1 O2 O3 O4 O5 O6 O7 O8 O9 O10
  simp only at HDR HDX
  generalize decR b = dr at *
  generalize decE b = de at *
  generalize decB b = db at *
  obtain ⟨⟨o1, o2⟩, o3, o4⟩ := O11
  simp only at o1 o2 o3 o4
  clear hb hb2
  go_enter Tryz.func15, Tryz.ntmps15
  go_upto_region 1 with fail
  have XQ := Lib.hid (box_new (W := w) (g := w.heap.size) 28 #[.string ⟨#[]⟩, .int .u64 0, .string ⟨#[]⟩, .string ⟨#[]⟩, .int .i64 0, .int .i64 0, .int .i64 0, .slice none 0 0, .slice none 0 0, .int .i64 0, .int .i64 0] (by simp))
  have HB := Lib.hid (below_alloc w (.cells #[.string ⟨#[]⟩, .int .u64 0, .string ⟨#[]⟩, .string ⟨#[]⟩, .int .i64 0, .int .i64 0, .int .i64 0, .slice none 0 0, .slice none 0 0, .int .i64 0, .int .i64 0] 28))
  generalize w.alloc (.cells #[.string ⟨#[]⟩, .int .u64 0, .string ⟨#[]⟩, .string ⟨#[]⟩, .int .i64 0, .int .i64 0, .int .i64 0, .slice none 0 0, .slice none 0 0, .int .i64 0, .int .i64 0] 28) = w1 at *
  go_wp2_with fail
  refine (CO.out _).mono ?_; rintro e w2 ⟨rfl, rfl⟩
  clear CO
  go_upto_region 6 with fail
  have d0 := XQ.out.lt
  have XR := Lib.hid ((box_new (W := w1) (g := w1.heap.size) 78 #[.string b, .int .i64 0, .int .i64 0] (by simp)).below (below_alloc _ (.cells #[.string ⟨#[]⟩, .int .u64 0, .string ⟨#[]⟩, .string ⟨#[]⟩, .int .i64 0, .int .i64 0, .int .i64 0, .slice none 0 0, .slice none 0 0, .int .i64 0, .int .i64 0] 28)))
  have XX := Lib.hid (box_new (W := (w1.alloc (.cells #[.string b, .int .i64 0, .int .i64 0] 78))) (g := w1.heap.size + 1) 28 #[.string ⟨#[]⟩, .int .u64 0, .string ⟨#[]⟩, .string ⟨#[]⟩, .int .i64 0, .int .i64 0, .int .i64 0, .slice none 0 0, .slice none 0 0, .int .i64 0, .int .i64 0] (by simp))
  have hba := (below_step (below_alloc w1 (.cells #[.string b, .int .i64 0, .int .i64 0] 78)) (below_alloc (w1.alloc (.cells #[.string b, .int .i64 0, .int .i64 0] 78)) (.cells #[.string ⟨#[]⟩, .int .u64 0, .string ⟨#[]⟩, .string ⟨#[]⟩, .int .i64 0, .int .i64 0, .int .i64 0, .slice none 0 0, .slice none 0 0, .int .i64 0, .int .i64 0] 28)))
  replace XQ := Lib.hid (XQ.out.below hba)
  replace HB := Lib.hid (below_step HB.out hba)
  clear hba
  generalize (w1.alloc (.cells #[.string b, .int .i64 0, .int .i64 0] 78)).alloc (.cells #[.string ⟨#[]⟩, .int .u64 0, .string ⟨#[]⟩, .string ⟨#[]⟩, .int .i64 0, .int .i64 0, .int .i64 0, .slice none 0 0, .slice none 0 0, .int .i64 0, .int .i64 0] 28) = w2 at *
  obtain ⟨g, hg⟩ : ∃ g, g = w1.heap.size := ⟨_, rfl⟩
  rw [← hg] at XR XX ⊢
  have d1 : w.heap.size < g := by omega
  clear hg d0
  go_wp2_with fail
  refine (C1.out _ _ _ (fun _ => rfl) XR.out).mono ?_; rintro e w3 ⟨t1, b1, rfl, hk, hxr, hg⟩
  have K1 := Lib.hid hk
  replace XQ := Lib.hid (box_grown XQ.out hg (by omega))
  replace XX := Lib.hid (box_grown XX.out hg (by omega))
  replace HB := Lib.hid (below_grownG HB.out HB.out.size (by omega) hg)
  replace XR := Lib.hid hxr
  clear hxr hg hk C1
  have XX' := Lib.hid (XX.out.set_ 0 (.string t1))
  have XQ' := Lib.hid (XQ.out.setNe (p := ⟨(g + 1), 0, none⟩) (by show (g + 1) ≠ _; first | omega | (exact boxes_apart XX.out XQ.out (by decide))) (.string t1))
  have XR' := Lib.hid (XR.out.setNe (p := ⟨(g + 1), 0, none⟩) (by show (g + 1) ≠ _; first | omega | (exact boxes_apart XX.out XR.out (by decide))) (.string t1))
  have HB' := Lib.hid (HB.out.setCell (p := ⟨(g + 1), 0, none⟩) (by show w.heap.size ≤ (g + 1); omega) (.string t1))
  have XX_0 := XX.out.at_ 0 _ rfl
  have XX_l := XX.out.lt
  have XX_z0 := XX.out.frozen 0
  go_upto_region 7 with fail
  clear XX_0 XX_l XX_z0
  clear HB XX XQ XR
  generalize w3.setCell ⟨(g + 1), 0, none⟩ (.string t1) = w4 at *
  have XX : Hid (Box w4 (g + 1) #[.string t1, .int .u64 0, .string ⟨#[]⟩, .string ⟨#[]⟩, .int .i64 0, .int .i64 0, .int .i64 0, .slice none 0 0, .slice none 0 0, .int .i64 0, .int .i64 0] 28) := XX'
  have XQ := XQ'
  have XR := XR'
  have HB := HB'
  clear HB' XX' XQ' XR'
  go_wp2_with fail
  refine (C2.out _ _ _ (fun h => (K1.out h).1) XR.out).mono ?_; rintro e w5 ⟨t2, b2, rfl, hk, hxr, hg⟩
  have K2 := Lib.hid hk
  replace XQ := Lib.hid (box_grown XQ.out hg (by omega))
  replace XX := Lib.hid (box_grown XX.out hg (by omega))
  replace HB := Lib.hid (below_grownG HB.out HB.out.size (by omega) hg)
  replace XR := Lib.hid hxr
  clear hxr hg hk C2
  have XX' := Lib.hid (XX.out.set_ 1 (.int .u64 (t2 : Nat)))
  have XQ' := Lib.hid (XQ.out.setNe (p := ⟨(g + 1), 1, none⟩) (by show (g + 1) ≠ _; first | omega | (exact boxes_apart XX.out XQ.out (by decide))) (.int .u64 (t2 : Nat)))
  have XR' := Lib.hid (XR.out.setNe (p := ⟨(g + 1), 1, none⟩) (by show (g + 1) ≠ _; first | omega | (exact boxes_apart XX.out XR.out (by decide))) (.int .u64 (t2 : Nat)))
  have HB' := Lib.hid (HB.out.setCell (p := ⟨(g + 1), 1, none⟩) (by show w.heap.size ≤ (g + 1); omega) (.int .u64 (t2 : Nat)))
  have XX_1 := XX.out.at_ 1 _ rfl
  have XX_l := XX.out.lt
  have XX_z1 := XX.out.frozen 1
  go_upto_region 8 with fail
  clear XX_1 XX_l XX_z1
  clear HB XX XQ XR
  generalize w5.setCell ⟨(g + 1), 1, none⟩ (.int .u64 (t2 : Nat)) = w6 at *
  have XX : Hid (Box w6 (g + 1) #[.string t1, (.int .u64 (t2 : Nat)), .string ⟨#[]⟩, .string ⟨#[]⟩, .int .i64 0, .int .i64 0, .int .i64 0, .slice none 0 0, .slice none 0 0, .int .i64 0, .int .i64 0] 28) := XX'
  have XQ := XQ'
  have XR := XR'
  have HB := HB'
  clear HB' XX' XQ' XR'
  go_wp2_with fail
  refine (C3.out _ _ _ (fun h => (K2.out h).1) XR.out).mono ?_; rintro e w7 ⟨t3, b3, rfl, hk, hxr, hg⟩
  have K3 := Lib.hid hk
  replace XQ := Lib.hid (box_grown XQ.out hg (by omega))
  replace XX := Lib.hid (box_grown XX.out hg (by omega))
  replace HB := Lib.hid (below_grownG HB.out HB.out.size (by omega) hg)
  replace XR := Lib.hid hxr
  clear hxr hg hk C3
  have XX' := Lib.hid (XX.out.set_ 2 (.string t3))
  have XQ' := Lib.hid (XQ.out.setNe (p := ⟨(g + 1), 2, none⟩) (by show (g + 1) ≠ _; first | omega | (exact boxes_apart XX.out XQ.out (by decide))) (.string t3))
  have XR' := Lib.hid (XR.out.setNe (p := ⟨(g + 1), 2, none⟩) (by show (g + 1) ≠ _; first | omega | (exact boxes_apart XX.out XR.out (by decide))) (.string t3))
  have HB' := Lib.hid (HB.out.setCell (p := ⟨(g + 1), 2, none⟩) (by show w.heap.size ≤ (g + 1); omega) (.string t3))
  have XX_2 := XX.out.at_ 2 _ rfl
  have XX_l := XX.out.lt
  have XX_z2 := XX.out.frozen 2
  go_upto_region 9 with fail
  clear XX_2 XX_l XX_z2
  clear HB XX XQ XR
  generalize w7.setCell ⟨(g + 1), 2, none⟩ (.string t3) = w8 at *
  have XX : Hid (Box w8 (g + 1) #[.string t1, (.int .u64 (t2 : Nat)), .string t3, .string ⟨#[]⟩, .int .i64 0, .int .i64 0, .int .i64 0, .slice none 0 0, .slice none 0 0, .int .i64 0, .int .i64 0] 28) := XX'
  have XQ := XQ'
  have XR := XR'
  have HB := HB'
  clear HB' XX' XQ' XR'
  go_wp2_with fail
  refine (C4.out _ _ _ (fun h => (K3.out h).1) XR.out).mono ?_; rintro e w9 ⟨t4, b4, rfl, hk, hxr, hg⟩
  have K4 := Lib.hid hk
  replace XQ := Lib.hid (box_grown XQ.out hg (by omega))
  replace XX := Lib.hid (box_grown XX.out hg (by omega))
  replace HB := Lib.hid (below_grownG HB.out HB.out.size (by omega) hg)
  replace XR := Lib.hid hxr
  clear hxr hg hk C4
  have XX' := Lib.hid (XX.out.set_ 3 (.string t4))
  have XQ' := Lib.hid (XQ.out.setNe (p := ⟨(g + 1), 3, none⟩) (by show (g + 1) ≠ _; first | omega | (exact boxes_apart XX.out XQ.out (by decide))) (.string t4))
  have XR' := Lib.hid (XR.out.setNe (p := ⟨(g + 1), 3, none⟩) (by show (g + 1) ≠ _; first | omega | (exact boxes_apart XX.out XR.out (by decide))) (.string t4))
  have HB' := Lib.hid (HB.out.setCell (p := ⟨(g + 1), 3, none⟩) (by show w.heap.size ≤ (g + 1); omega) (.string t4))
  have XX_3 := XX.out.at_ 3 _ rfl
  have XX_l := XX.out.lt
  have XX_z3 := XX.out.frozen 3
  go_upto_region 10 with fail
  clear XX_3 XX_l XX_z3
  clear HB XX XQ XR
  generalize w9.setCell ⟨(g + 1), 3, none⟩ (.string t4) = w10 at *
  have XX : Hid (Box w10 (g + 1) #[.string t1, (.int .u64 (t2 : Nat)), .string t3, .string t4, .int .i64 0, .int .i64 0, .int .i64 0, .slice none 0 0, .slice none 0 0, .int .i64 0, .int .i64 0] 28) := XX'
  have XQ := XQ'
  have XR := XR'
  have HB := HB'
  clear HB' XX' XQ' XR'
  go_wp2_with fail
  refine (C5.out _ _ _ (fun h => (K4.out h).1) XR.out).mono ?_; rintro e w11 ⟨t5, b5, rfl, hk, hxr, hg⟩
  have K5 := Lib.hid hk
  replace XQ := Lib.hid (box_grown XQ.out hg (by omega))
  replace XX := Lib.hid (box_grown XX.out hg (by omega))
  replace HB := Lib.hid (below_grownG HB.out HB.out.size (by omega) hg)
  replace XR := Lib.hid hxr
  clear hxr hg hk C5
  have XX' := Lib.hid (XX.out.set_ 4 (.int .i64 t5))
  have XQ' := Lib.hid (XQ.out.setNe (p := ⟨(g + 1), 4, none⟩) (by show (g + 1) ≠ _; first | omega | (exact boxes_apart XX.out XQ.out (by decide))) (.int .i64 t5))
  have XR' := Lib.hid (XR.out.setNe (p := ⟨(g + 1), 4, none⟩) (by show (g + 1) ≠ _; first | omega | (exact boxes_apart XX.out XR.out (by decide))) (.int .i64 t5))
  have HB' := Lib.hid (HB.out.setCell (p := ⟨(g + 1), 4, none⟩) (by show w.heap.size ≤ (g + 1); omega) (.int .i64 t5))
  have XX_4 := XX.out.at_ 4 _ rfl
  have XX_l := XX.out.lt
  have XX_z4 := XX.out.frozen 4
  go_upto_region 11 with fail
  clear XX_4 XX_l XX_z4
  clear HB XX XQ XR
  generalize w11.setCell ⟨(g + 1), 4, none⟩ (.int .i64 t5) = w12 at *
  have XX : Hid (Box w12 (g + 1) #[.string t1, (.int .u64 (t2 : Nat)), .string t3, .string t4, .int .i64 t5, .int .i64 0, .int .i64 0, .slice none 0 0, .slice none 0 0, .int .i64 0, .int .i64 0] 28) := XX'
  have XQ := XQ'
  have XR := XR'
  have HB := HB'
  clear HB' XX' XQ' XR'
  go_wp2_with fail
  refine (C6.out _ _ _ (fun h => (K5.out h).1) XR.out).mono ?_; rintro e w13 ⟨t6, b6, rfl, hk, hxr, hg⟩
  have K6 := Lib.hid hk
  replace XQ := Lib.hid (box_grown XQ.out hg (by omega))
  replace XX := Lib.hid (box_grown XX.out hg (by omega))
  replace HB := Lib.hid (below_grownG HB.out HB.out.size (by omega) hg)
  replace XR := Lib.hid hxr
  clear hxr hg hk C6
  have XX' := Lib.hid (XX.out.set_ 5 (.int .i64 t6))
  have XQ' := Lib.hid (XQ.out.setNe (p := ⟨(g + 1), 5, none⟩) (by show (g + 1) ≠ _; first | omega | (exact boxes_apart XX.out XQ.out (by decide))) (.int .i64 t6))
  have XR' := Lib.hid (XR.out.setNe (p := ⟨(g + 1), 5, none⟩) (by show (g + 1) ≠ _; first | omega | (exact boxes_apart XX.out XR.out (by decide))) (.int .i64 t6))
  have HB' := Lib.hid (HB.out.setCell (p := ⟨(g + 1), 5, none⟩) (by show w.heap.size ≤ (g + 1); omega) (.int .i64 t6))
  have XX_5 := XX.out.at_ 5 _ rfl
  have XX_l := XX.out.lt
  have XX_z5 := XX.out.frozen 5
  go_upto_region 12 with fail
  clear XX_5 XX_l XX_z5
  clear HB XX XQ XR
  generalize w13.setCell ⟨(g + 1), 5, none⟩ (.int .i64 t6) = w14 at *
  have XX : Hid (Box w14 (g + 1) #[.string t1, (.int .u64 (t2 : Nat)), .string t3, .string t4, .int .i64 t5, .int .i64 t6, .int .i64 0, .slice none 0 0, .slice none 0 0, .int .i64 0, .int .i64 0] 28) := XX'
  have XQ := XQ'
  have XR := XR'
  have HB := HB'
  clear HB' XX' XQ' XR'
  go_wp2_with fail
  refine (C7.out _ _ _ (fun h => (K6.out h).1) XR.out).mono ?_; rintro e w15 ⟨t7, b7, rfl, hk, hxr, hg⟩
  have K7 := Lib.hid hk
  replace XQ := Lib.hid (box_grown XQ.out hg (by omega))
  replace XX := Lib.hid (box_grown XX.out hg (by omega))
  replace HB := Lib.hid (below_grownG HB.out HB.out.size (by omega) hg)
  replace XR := Lib.hid hxr
  clear hxr hg hk C7
  have XX' := Lib.hid (XX.out.set_ 6 (.int .i64 t7))
  have XQ' := Lib.hid (XQ.out.setNe (p := ⟨(g + 1), 6, none⟩) (by show (g + 1) ≠ _; first | omega | (exact boxes_apart XX.out XQ.out (by decide))) (.int .i64 t7))
  have XR' := Lib.hid (XR.out.setNe (p := ⟨(g + 1), 6, none⟩) (by show (g + 1) ≠ _; first | omega | (exact boxes_apart XX.out XR.out (by decide))) (.int .i64 t7))
  have HB' := Lib.hid (HB.out.setCell (p := ⟨(g + 1), 6, none⟩) (by show w.heap.size ≤ (g + 1); omega) (.int .i64 t7))
  have XX_6 := XX.out.at_ 6 _ rfl
  have XX_l := XX.out.lt
  have XX_z6 := XX.out.frozen 6
  go_upto_region 13 with fail
  clear XX_6 XX_l XX_z6
  clear HB XX XQ XR
  generalize w15.setCell ⟨(g + 1), 6, none⟩ (.int .i64 t7) = w16 at *
  have XX : Hid (Box w16 (g + 1) #[.string t1, (.int .u64 (t2 : Nat)), .string t3, .string t4, .int .i64 t5, .int .i64 t6, .int .i64 t7, .slice none 0 0, .slice none 0 0, .int .i64 0, .int .i64 0] 28) := XX'
  have XQ := XQ'
  have XR := XR'
  have HB := HB'
  clear HB' XX' XQ' XR'
  go_wp2_with fail
  refine (C8.out _ _ _ (fun h => (K7.out h).1) XR.out).mono ?_; rintro e w17 ⟨p7, b8, t8, rfl, hk, hog, hxr, hg⟩
  have K8 := Lib.hid hk
  have hz := HB.out.size
  replace XQ := Lib.hid (box_grown XQ.out hg (by omega))
  replace XX := Lib.hid (box_grown XX.out hg (by omega))
  replace HB := Lib.hid (below_grownG HB.out HB.out.size (by omega) hg)
  replace XR := Lib.hid hxr
  have P7 := Lib.hid (hog.lower hz (Nat.zero_le _))
  obtain ⟨PA7, pc7, rfl⟩ := hog.slice
  clear hxr hg hog hz hk C8
  have XX' := Lib.hid (XX.out.set_ 7 (.slice PA7 t8.length pc7))
  have XQ' := Lib.hid (XQ.out.setNe (p := ⟨(g + 1), 7, none⟩) (by show (g + 1) ≠ _; first | omega | (exact boxes_apart XX.out XQ.out (by decide))) (.slice PA7 t8.length pc7))
  have XR' := Lib.hid (XR.out.setNe (p := ⟨(g + 1), 7, none⟩) (by show (g + 1) ≠ _; first | omega | (exact boxes_apart XX.out XR.out (by decide))) (.slice PA7 t8.length pc7))
  have P7' := Lib.hid (P7.out.setBox XX.out (by decide) (by omega) (by decide) 7 (.slice PA7 t8.length pc7))
  have HB' := Lib.hid (HB.out.setCell (p := ⟨(g + 1), 7, none⟩) (by show w.heap.size ≤ (g + 1); omega) (.slice PA7 t8.length pc7))
  have XX_7 := XX.out.at_ 7 _ rfl
  have XX_l := XX.out.lt
  have XX_z7 := XX.out.frozen 7
  go_upto_region 14 with fail
  clear XX_7 XX_l XX_z7
  clear HB XX XQ XR P7
  generalize w17.setCell ⟨(g + 1), 7, none⟩ (.slice PA7 t8.length pc7) = w18 at *
  have XX : Hid (Box w18 (g + 1) #[.string t1, (.int .u64 (t2 : Nat)), .string t3, .string t4, .int .i64 t5, .int .i64 t6, .int .i64 t7, .slice PA7 t8.length pc7, .slice none 0 0, .int .i64 0, .int .i64 0] 28) := XX'
  have XQ := XQ'
  have XR := XR'
  have P7 := P7'
  have HB := HB'
  clear HB' XX' XQ' XR' P7'
  go_wp2_with fail
  refine (C9.out _ _ _ (fun h => (K8.out h).1) XR.out).mono ?_; rintro e w19 ⟨p8, b9, t9, rfl, hk, hog, hxr, hg⟩
  have K9 := Lib.hid hk
  have hz := HB.out.size
  replace XQ := Lib.hid (box_grown XQ.out hg (by omega))
  replace XX := Lib.hid (box_grown XX.out hg (by omega))
  replace P7 := Lib.hid (P7.out.growBox XR.out (by decide) (Nat.zero_le _) (by decide) hg)
  replace HB := Lib.hid (below_grownG HB.out HB.out.size (by omega) hg)
  replace XR := Lib.hid hxr
  have P8 := Lib.hid (hog.lower hz (Nat.zero_le _))
  obtain ⟨PA8, pc8, rfl⟩ := hog.slice
  clear hxr hg hog hz hk C9
  have XX' := Lib.hid (XX.out.set_ 8 (.slice PA8 t9.length pc8))
  have XQ' := Lib.hid (XQ.out.setNe (p := ⟨(g + 1), 8, none⟩) (by show (g + 1) ≠ _; first | omega | (exact boxes_apart XX.out XQ.out (by decide))) (.slice PA8 t9.length pc8))
  have XR' := Lib.hid (XR.out.setNe (p := ⟨(g + 1), 8, none⟩) (by show (g + 1) ≠ _; first | omega | (exact boxes_apart XX.out XR.out (by decide))) (.slice PA8 t9.length pc8))
  have P7' := Lib.hid (P7.out.setBox XX.out (by decide) (by omega) (by decide) 8 (.slice PA8 t9.length pc8))
  have P8' := Lib.hid (P8.out.setBox XX.out (by decide) (by omega) (by decide) 8 (.slice PA8 t9.length pc8))
  have HB' := Lib.hid (HB.out.setCell (p := ⟨(g + 1), 8, none⟩) (by show w.heap.size ≤ (g + 1); omega) (.slice PA8 t9.length pc8))
  have XX_8 := XX.out.at_ 8 _ rfl
  have XX_l := XX.out.lt
  have XX_z8 := XX.out.frozen 8
  go_upto_region 15 with fail
  clear XX_8 XX_l XX_z8
  clear HB XX XQ XR P7 P8
  generalize w19.setCell ⟨(g + 1), 8, none⟩ (.slice PA8 t9.length pc8) = w20 at *
  have XX : Hid (Box w20 (g + 1) #[.string t1, (.int .u64 (t2 : Nat)), .string t3, .string t4, .int .i64 t5, .int .i64 t6, .int .i64 t7, .slice PA7 t8.length pc7, .slice PA8 t9.length pc8, .int .i64 0, .int .i64 0] 28) := XX'
  have XQ := XQ'
  have XR := XR'
  have P7 := P7'
  have P8 := P8'
  have HB := HB'
  clear HB' XX' XQ' XR' P7' P8'
  go_wp2_with fail
  refine (CA.out _ _ _ (fun h => (K9.out h).1) XR.out).mono ?_; rintro e w21 ⟨t10, b10, rfl, hk, hxr, hg⟩
  have K10 := Lib.hid hk
  replace XQ := Lib.hid (box_grown XQ.out hg (by omega))
  replace XX := Lib.hid (box_grown XX.out hg (by omega))
  replace P7 := Lib.hid (P7.out.growBox XR.out (by decide) (Nat.zero_le _) (by decide) hg)
  replace P8 := Lib.hid (P8.out.growBox XR.out (by decide) (Nat.zero_le _) (by decide) hg)
  replace HB := Lib.hid (below_grownG HB.out HB.out.size (by omega) hg)
  replace XR := Lib.hid hxr
  clear hxr hg hk CA
  have XX' := Lib.hid (XX.out.set_ 9 (.int .i64 t10))
  have XQ' := Lib.hid (XQ.out.setNe (p := ⟨(g + 1), 9, none⟩) (by show (g + 1) ≠ _; first | omega | (exact boxes_apart XX.out XQ.out (by decide))) (.int .i64 t10))
  have XR' := Lib.hid (XR.out.setNe (p := ⟨(g + 1), 9, none⟩) (by show (g + 1) ≠ _; first | omega | (exact boxes_apart XX.out XR.out (by decide))) (.int .i64 t10))
  have P7' := Lib.hid (P7.out.setBox XX.out (by decide) (by omega) (by decide) 9 (.int .i64 t10))
  have P8' := Lib.hid (P8.out.setBox XX.out (by decide) (by omega) (by decide) 9 (.int .i64 t10))
  have HB' := Lib.hid (HB.out.setCell (p := ⟨(g + 1), 9, none⟩) (by show w.heap.size ≤ (g + 1); omega) (.int .i64 t10))
  have XX_9 := XX.out.at_ 9 _ rfl
  have XX_l := XX.out.lt
  have XX_z9 := XX.out.frozen 9
  go_upto_region 16 with fail
  clear XX_9 XX_l XX_z9
  clear HB XX XQ XR P7 P8
  generalize w21.setCell ⟨(g + 1), 9, none⟩ (.int .i64 t10) = w22 at *
  have XX : Hid (Box w22 (g + 1) #[.string t1, (.int .u64 (t2 : Nat)), .string t3, .string t4, .int .i64 t5, .int .i64 t6, .int .i64 t7, .slice PA7 t8.length pc7, .slice PA8 t9.length pc8, .int .i64 t10, .int .i64 0] 28) := XX'
  have XQ := XQ'
  have XR := XR'
  have P7 := P7'
  have P8 := P8'
  have HB := HB'
  clear HB' XX' XQ' XR' P7' P8'
  go_wp2_with fail
  refine (CB.out _ _ _ (fun h => (K10.out h).1) XR.out).mono ?_; rintro e w23 ⟨t11, b11, rfl, hk, hxr, hg⟩
  have K11 := Lib.hid hk
  replace XQ := Lib.hid (box_grown XQ.out hg (by omega))
  replace XX := Lib.hid (box_grown XX.out hg (by omega))
  replace P7 := Lib.hid (P7.out.growBox XR.out (by decide) (Nat.zero_le _) (by decide) hg)
  replace P8 := Lib.hid (P8.out.growBox XR.out (by decide) (Nat.zero_le _) (by decide) hg)
  replace HB := Lib.hid (below_grownG HB.out HB.out.size (by omega) hg)
  replace XR := Lib.hid hxr
  clear hxr hg hk CB
  have XX' := Lib.hid (XX.out.set_ 10 (.int .i64 t11))
  have XQ' := Lib.hid (XQ.out.setNe (p := ⟨(g + 1), 10, none⟩) (by show (g + 1) ≠ _; first | omega | (exact boxes_apart XX.out XQ.out (by decide))) (.int .i64 t11))
  have XR' := Lib.hid (XR.out.setNe (p := ⟨(g + 1), 10, none⟩) (by show (g + 1) ≠ _; first | omega | (exact boxes_apart XX.out XR.out (by decide))) (.int .i64 t11))
  have P7' := Lib.hid (P7.out.setBox XX.out (by decide) (by omega) (by decide) 10 (.int .i64 t11))
  have P8' := Lib.hid (P8.out.setBox XX.out (by decide) (by omega) (by decide) 10 (.int .i64 t11))
  have HB' := Lib.hid (HB.out.setCell (p := ⟨(g + 1), 10, none⟩) (by show w.heap.size ≤ (g + 1); omega) (.int .i64 t11))
  have XX_a := XX.out.at_ 10 _ rfl
  have XX_l := XX.out.lt
  have XX_za := XX.out.frozen 10
  go_upto_region 17 with fail
  clear XX_a XX_l XX_za
  clear HB XX XQ XR P7 P8
  generalize w23.setCell ⟨(g + 1), 10, none⟩ (.int .i64 t11) = w24 at *
  have XX : Hid (Box w24 (g + 1) #[.string t1, (.int .u64 (t2 : Nat)), .string t3, .string t4, .int .i64 t5, .int .i64 t6, .int .i64 t7, .slice PA7 t8.length pc7, .slice PA8 t9.length pc8, .int .i64 t10, .int .i64 t11] 28) := XX'
  have XQ := XQ'
  have XR := XR'
  have P7 := P7'
  have P8 := P8'
  have HB := HB'
  clear HB' XX' XQ' XR' P7' P8'
  by_cases he : e11 = 0
  case neg =>
    have f1 : (e11 == 0) = false := by simpa using he
    have f2 : (e11 != 0) = true := by simpa using he
    have HDE2 : Hid (de = e11) := Lib.hid (by rw [HDX.out, if_neg (fun h => he h.1)])
    have HR : Hid (r = (res0, e11)) := Lib.hid (by rw [HT.out, HDE.out, HDE2.out, if_neg he])
    clear HDE HDX HDE2 HDR HT he HZ1 HZ2 HZ3 HZ4 HZ5 HZ6 HZ7 HZ8 HZ9 HZ10 K1 K2 K3 K4 K5 K6 K7 K8 K9 K10 K11
    have XR_2 := XR.out.at_ 2 _ rfl
    go_wp2_with fail
    clear XR_2
    have XQ_0 := XQ.out.at_ 0 _ rfl
    have XQ_1 := XQ.out.at_ 1 _ rfl
    have XQ_2 := XQ.out.at_ 2 _ rfl
    have XQ_3 := XQ.out.at_ 3 _ rfl
    have XQ_4 := XQ.out.at_ 4 _ rfl
    have XQ_5 := XQ.out.at_ 5 _ rfl
    have XQ_6 := XQ.out.at_ 6 _ rfl
    have XQ_7 := XQ.out.at_ 7 _ rfl
    have XQ_8 := XQ.out.at_ 8 _ rfl
    have XQ_9 := XQ.out.at_ 9 _ rfl
    have XQ_a := XQ.out.at_ 10 _ rfl
    have XQ_l := XQ.out.lt
    have XQ_z0 := XQ.out.frozen 0
    have XQ_z1 := XQ.out.frozen 1
    have XQ_z2 := XQ.out.frozen 2
    have XQ_z3 := XQ.out.frozen 3
    have XQ_z4 := XQ.out.frozen 4
    have XQ_z5 := XQ.out.frozen 5
    have XQ_z6 := XQ.out.frozen 6
    have XQ_z7 := XQ.out.frozen 7
    have XQ_z8 := XQ.out.frozen 8
    have XQ_z9 := XQ.out.frozen 9
    have XQ_za := XQ.out.frozen 10
    have XR_2 := XR.out.at_ 2 _ rfl
    have XR_l := XR.out.lt
    go_region
    go_wp2_with fail
    have bx0 : Box _ w.heap.size #[.string ⟨#[]⟩, .int .u64 0, .string ⟨#[]⟩, .string ⟨#[]⟩, .int .i64 0, .int .i64 0, .int .i64 0, .slice none 0 0, .slice none 0 0, .int .i64 0, .int .i64 0] 28 := XQ.out.set_ 0 (.string ⟨#[]⟩)
    have bx1 : Box _ w.heap.size #[.string ⟨#[]⟩, .int .u64 0, .string ⟨#[]⟩, .string ⟨#[]⟩, .int .i64 0, .int .i64 0, .int .i64 0, .slice none 0 0, .slice none 0 0, .int .i64 0, .int .i64 0] 28 := bx0.set_ 1 (.int .u64 0)
    have bx2 : Box _ w.heap.size #[.string ⟨#[]⟩, .int .u64 0, .string ⟨#[]⟩, .string ⟨#[]⟩, .int .i64 0, .int .i64 0, .int .i64 0, .slice none 0 0, .slice none 0 0, .int .i64 0, .int .i64 0] 28 := bx1.set_ 2 (.string ⟨#[]⟩)
    have bx3 : Box _ w.heap.size #[.string ⟨#[]⟩, .int .u64 0, .string ⟨#[]⟩, .string ⟨#[]⟩, .int .i64 0, .int .i64 0, .int .i64 0, .slice none 0 0, .slice none 0 0, .int .i64 0, .int .i64 0] 28 := bx2.set_ 3 (.string ⟨#[]⟩)
    have bx4 : Box _ w.heap.size #[.string ⟨#[]⟩, .int .u64 0, .string ⟨#[]⟩, .string ⟨#[]⟩, .int .i64 0, .int .i64 0, .int .i64 0, .slice none 0 0, .slice none 0 0, .int .i64 0, .int .i64 0] 28 := bx3.set_ 4 (.int .i64 0)
    have bx5 : Box _ w.heap.size #[.string ⟨#[]⟩, .int .u64 0, .string ⟨#[]⟩, .string ⟨#[]⟩, .int .i64 0, .int .i64 0, .int .i64 0, .slice none 0 0, .slice none 0 0, .int .i64 0, .int .i64 0] 28 := bx4.set_ 5 (.int .i64 0)
    have bx6 : Box _ w.heap.size #[.string ⟨#[]⟩, .int .u64 0, .string ⟨#[]⟩, .string ⟨#[]⟩, .int .i64 0, .int .i64 0, .int .i64 0, .slice none 0 0, .slice none 0 0, .int .i64 0, .int .i64 0] 28 := bx5.set_ 6 (.int .i64 0)
    have bx7 : Box _ w.heap.size #[.string ⟨#[]⟩, .int .u64 0, .string ⟨#[]⟩, .string ⟨#[]⟩, .int .i64 0, .int .i64 0, .int .i64 0, .slice none 0 0, .slice none 0 0, .int .i64 0, .int .i64 0] 28 := bx6.set_ 7 (.slice none 0 0)
    have bx8 : Box _ w.heap.size #[.string ⟨#[]⟩, .int .u64 0, .string ⟨#[]⟩, .string ⟨#[]⟩, .int .i64 0, .int .i64 0, .int .i64 0, .slice none 0 0, .slice none 0 0, .int .i64 0, .int .i64 0] 28 := bx7.set_ 8 (.slice none 0 0)
    have bx9 : Box _ w.heap.size #[.string ⟨#[]⟩, .int .u64 0, .string ⟨#[]⟩, .string ⟨#[]⟩, .int .i64 0, .int .i64 0, .int .i64 0, .slice none 0 0, .slice none 0 0, .int .i64 0, .int .i64 0] 28 := bx8.set_ 9 (.int .i64 0)
    have bx10 : Box _ w.heap.size #[.string ⟨#[]⟩, .int .u64 0, .string ⟨#[]⟩, .string ⟨#[]⟩, .int .i64 0, .int .i64 0, .int .i64 0, .slice none 0 0, .slice none 0 0, .int .i64 0, .int .i64 0] 28 := bx9.set_ 10 (.int .i64 0)
    refine refDec_ret (g := w.heap.size) (v0 := .string ⟨#[]⟩) (v1 := .int .u64 0) (v2 := .string ⟨#[]⟩) (v3 := .string ⟨#[]⟩) (v4 := .int .i64 0) (v5 := .int .i64 0) (v6 := .int .i64 0) (v7 := .slice none 0 0) (v8 := .slice none 0 0) (v9 := .int .i64 0) (va := .int .i64 0) (e := e11) rfl rfl rfl (bx10.below (below_drawn _)) ?_
    exact dec_zero HR.out (by (try refine below_step ?_ (below_drawn _)); (iterate 11 (refine below_setC ?_ (Nat.le_refl _))); exact HB.out)
  case pos =>
    subst he
    have z10 := HZ10.out rfl
    have z9 := HZ9.out z10
    have z8 := HZ8.out z9
    have z7 := HZ7.out z8
    have z6 := HZ6.out z7
    have z5 := HZ5.out z6
    have z4 := HZ4.out z5
    have z3 := HZ3.out z4
    have z2 := HZ2.out z3
    have z1 := HZ1.out z2
    have HVS : Hid ((⟨v1, v2, v3, v4, v5, v6, v7, v8, v9, v10, v11⟩ : Res) = ⟨t1, t2, t3, t4, t5, t6, t7, t8, t9, t10, t11⟩) := Lib.hid (by
      rw [(K1.out z1).2, (K2.out z2).2, (K3.out z3).2, (K4.out z4).2, (K5.out z5).2, (K6.out z6).2, (K7.out z7).2, (K8.out z8).2, (K9.out z9).2, (K10.out z10).2, (K11.out rfl).2])
    obtain rfl : b11 = a11 := (K11.out rfl).1
    clear z1 z2 z3 z4 z5 z6 z7 z8 z9 z10 HZ1 HZ2 HZ3 HZ4 HZ5 HZ6 HZ7 HZ8 HZ9 HZ10 K1 K2 K3 K4 K5 K6 K7 K8 K9 K10 K11
    by_cases ha : b11 < (b.size : Int)
    · have HDE2 : Hid (de = 5) := Lib.hid (by rw [HDX.out, if_pos ⟨rfl, ha⟩])
      have HR : Hid (r = (res0, 5)) := Lib.hid (by rw [HT.out, HDE.out, HDE2.out, if_neg (by decide)])
      clear HDE HDX HDE2 HDR HT
      have XR_1 := XR.out.at_ 1 _ rfl
      have XR_2 := XR.out.at_ 2 _ rfl
      have XR_l := XR.out.lt
      have XR_z2 := XR.out.frozen 2
      go_upto_region 18 with fail
      clear XR_1 XR_2 XR_l XR_z2
      have XR' := Lib.hid (XR.out.set_ 2 (.int .i64 5))
      have XQ' := Lib.hid (XQ.out.setNe (p := ⟨g, 2, none⟩) (by show g ≠ _; first | omega | (exact boxes_apart XR.out XQ.out (by decide))) (.int .i64 5))
      have XX' := Lib.hid (XX.out.setNe (p := ⟨g, 2, none⟩) (by show g ≠ _; first | omega | (exact boxes_apart XR.out XX.out (by decide))) (.int .i64 5))
      have P7' := Lib.hid (P7.out.setBox XR.out (by decide) (by omega) (by decide) 2 (.int .i64 5))
      have P8' := Lib.hid (P8.out.setBox XR.out (by decide) (by omega) (by decide) 2 (.int .i64 5))
      have HB' := Lib.hid (HB.out.setCell (p := ⟨g, 2, none⟩) (by show w.heap.size ≤ g; omega) (.int .i64 5))
      have XR_2 := XR.out.at_ 2 _ rfl
      have XR_l := XR.out.lt
      have XR_z2 := XR.out.frozen 2
      go_upto_region 19 with fail
      clear XR_2 XR_l XR_z2
      clear HB XR XQ XX P7 P8
      generalize w24.setCell ⟨g, 2, none⟩ (.int .i64 5) = w25 at *
      have XR : Hid (Box w25 g #[.string b, .int .i64 b11, .int .i64 5] 78) := XR'
      have XQ := XQ'
      have XX := XX'
      have P7 := P7'
      have P8 := P8'
      have HB := HB'
      clear HB' XR' XQ' XX' P7' P8'
      have XR_2 := XR.out.at_ 2 _ rfl
      go_wp2_with fail
      clear XR_2
      have XQ_0 := XQ.out.at_ 0 _ rfl
      have XQ_1 := XQ.out.at_ 1 _ rfl
      have XQ_2 := XQ.out.at_ 2 _ rfl
      have XQ_3 := XQ.out.at_ 3 _ rfl
      have XQ_4 := XQ.out.at_ 4 _ rfl
      have XQ_5 := XQ.out.at_ 5 _ rfl
      have XQ_6 := XQ.out.at_ 6 _ rfl
      have XQ_7 := XQ.out.at_ 7 _ rfl
      have XQ_8 := XQ.out.at_ 8 _ rfl
      have XQ_9 := XQ.out.at_ 9 _ rfl
      have XQ_a := XQ.out.at_ 10 _ rfl
      have XQ_l := XQ.out.lt
      have XQ_z0 := XQ.out.frozen 0
      have XQ_z1 := XQ.out.frozen 1
      have XQ_z2 := XQ.out.frozen 2
      have XQ_z3 := XQ.out.frozen 3
      have XQ_z4 := XQ.out.frozen 4
      have XQ_z5 := XQ.out.frozen 5
      have XQ_z6 := XQ.out.frozen 6
      have XQ_z7 := XQ.out.frozen 7
      have XQ_z8 := XQ.out.frozen 8
      have XQ_z9 := XQ.out.frozen 9
      have XQ_za := XQ.out.frozen 10
      have XR_2 := XR.out.at_ 2 _ rfl
      have XR_l := XR.out.lt
      go_region
      go_wp2_with fail
      have bx0 : Box _ w.heap.size #[.string ⟨#[]⟩, .int .u64 0, .string ⟨#[]⟩, .string ⟨#[]⟩, .int .i64 0, .int .i64 0, .int .i64 0, .slice none 0 0, .slice none 0 0, .int .i64 0, .int .i64 0] 28 := XQ.out.set_ 0 (.string ⟨#[]⟩)
      have bx1 : Box _ w.heap.size #[.string ⟨#[]⟩, .int .u64 0, .string ⟨#[]⟩, .string ⟨#[]⟩, .int .i64 0, .int .i64 0, .int .i64 0, .slice none 0 0, .slice none 0 0, .int .i64 0, .int .i64 0] 28 := bx0.set_ 1 (.int .u64 0)
      have bx2 : Box _ w.heap.size #[.string ⟨#[]⟩, .int .u64 0, .string ⟨#[]⟩, .string ⟨#[]⟩, .int .i64 0, .int .i64 0, .int .i64 0, .slice none 0 0, .slice none 0 0, .int .i64 0, .int .i64 0] 28 := bx1.set_ 2 (.string ⟨#[]⟩)
      have bx3 : Box _ w.heap.size #[.string ⟨#[]⟩, .int .u64 0, .string ⟨#[]⟩, .string ⟨#[]⟩, .int .i64 0, .int .i64 0, .int .i64 0, .slice none 0 0, .slice none 0 0, .int .i64 0, .int .i64 0] 28 := bx2.set_ 3 (.string ⟨#[]⟩)
      have bx4 : Box _ w.heap.size #[.string ⟨#[]⟩, .int .u64 0, .string ⟨#[]⟩, .string ⟨#[]⟩, .int .i64 0, .int .i64 0, .int .i64 0, .slice none 0 0, .slice none 0 0, .int .i64 0, .int .i64 0] 28 := bx3.set_ 4 (.int .i64 0)
      have bx5 : Box _ w.heap.size #[.string ⟨#[]⟩, .int .u64 0, .string ⟨#[]⟩, .string ⟨#[]⟩, .int .i64 0, .int .i64 0, .int .i64 0, .slice none 0 0, .slice none 0 0, .int .i64 0, .int .i64 0] 28 := bx4.set_ 5 (.int .i64 0)
      have bx6 : Box _ w.heap.size #[.string ⟨#[]⟩, .int .u64 0, .string ⟨#[]⟩, .string ⟨#[]⟩, .int .i64 0, .int .i64 0, .int .i64 0, .slice none 0 0, .slice none 0 0, .int .i64 0, .int .i64 0] 28 := bx5.set_ 6 (.int .i64 0)
      have bx7 : Box _ w.heap.size #[.string ⟨#[]⟩, .int .u64 0, .string ⟨#[]⟩, .string ⟨#[]⟩, .int .i64 0, .int .i64 0, .int .i64 0, .slice none 0 0, .slice none 0 0, .int .i64 0, .int .i64 0] 28 := bx6.set_ 7 (.slice none 0 0)
      have bx8 : Box _ w.heap.size #[.string ⟨#[]⟩, .int .u64 0, .string ⟨#[]⟩, .string ⟨#[]⟩, .int .i64 0, .int .i64 0, .int .i64 0, .slice none 0 0, .slice none 0 0, .int .i64 0, .int .i64 0] 28 := bx7.set_ 8 (.slice none 0 0)
      have bx9 : Box _ w.heap.size #[.string ⟨#[]⟩, .int .u64 0, .string ⟨#[]⟩, .string ⟨#[]⟩, .int .i64 0, .int .i64 0, .int .i64 0, .slice none 0 0, .slice none 0 0, .int .i64 0, .int .i64 0] 28 := bx8.set_ 9 (.int .i64 0)
      have bx10 : Box _ w.heap.size #[.string ⟨#[]⟩, .int .u64 0, .string ⟨#[]⟩, .string ⟨#[]⟩, .int .i64 0, .int .i64 0, .int .i64 0, .slice none 0 0, .slice none 0 0, .int .i64 0, .int .i64 0] 28 := bx9.set_ 10 (.int .i64 0)
      refine refDec_ret (g := w.heap.size) (v0 := .string ⟨#[]⟩) (v1 := .int .u64 0) (v2 := .string ⟨#[]⟩) (v3 := .string ⟨#[]⟩) (v4 := .int .i64 0) (v5 := .int .i64 0) (v6 := .int .i64 0) (v7 := .slice none 0 0) (v8 := .slice none 0 0) (v9 := .int .i64 0) (va := .int .i64 0) (e := 5) rfl rfl rfl (bx10.below (below_drawn _)) ?_
      exact dec_zero HR.out (by (try refine below_step ?_ (below_drawn _)); (iterate 11 (refine below_setC ?_ (Nat.le_refl _))); exact HB.out)
    · have HDE2 : Hid (de = 0) := Lib.hid (by rw [HDX.out, if_neg (fun h => ha h.2)])
      have HR : Hid (r = (⟨t1, t2, t3, t4, t5, t6, t7, t8, t9, t10, t11⟩, 0)) := Lib.hid (by rw [HT.out, HDE.out, HDE2.out, if_pos rfl, HDR.out, HVS.out])
      clear HDE HDX HDE2 HDR HT
      have XR_1 := XR.out.at_ 1 _ rfl
      have XR_2 := XR.out.at_ 2 _ rfl
      go_upto_region 21 with fail
      clear XR_1 XR_2
      have XX_0 := XX.out.at_ 0 _ rfl
      have XX_1 := XX.out.at_ 1 _ rfl
      have XX_2 := XX.out.at_ 2 _ rfl
      have XX_3 := XX.out.at_ 3 _ rfl
      have XX_4 := XX.out.at_ 4 _ rfl
      have XX_5 := XX.out.at_ 5 _ rfl
      have XX_6 := XX.out.at_ 6 _ rfl
      have XX_7 := XX.out.at_ 7 _ rfl
      have XX_8 := XX.out.at_ 8 _ rfl
      have XX_9 := XX.out.at_ 9 _ rfl
      have XX_a := XX.out.at_ 10 _ rfl
      have XQ_0 := XQ.out.at_ 0 _ rfl
      have XQ_1 := XQ.out.at_ 1 _ rfl
      have XQ_2 := XQ.out.at_ 2 _ rfl
      have XQ_3 := XQ.out.at_ 3 _ rfl
      have XQ_4 := XQ.out.at_ 4 _ rfl
      have XQ_5 := XQ.out.at_ 5 _ rfl
      have XQ_6 := XQ.out.at_ 6 _ rfl
      have XQ_7 := XQ.out.at_ 7 _ rfl
      have XQ_8 := XQ.out.at_ 8 _ rfl
      have XQ_9 := XQ.out.at_ 9 _ rfl
      have XQ_a := XQ.out.at_ 10 _ rfl
      have XQ_l := XQ.out.lt
      have XQ_z0 := XQ.out.frozen 0
      have XQ_z1 := XQ.out.frozen 1
      have XQ_z2 := XQ.out.frozen 2
      have XQ_z3 := XQ.out.frozen 3
      have XQ_z4 := XQ.out.frozen 4
      have XQ_z5 := XQ.out.frozen 5
      have XQ_z6 := XQ.out.frozen 6
      have XQ_z7 := XQ.out.frozen 7
      have XQ_z8 := XQ.out.frozen 8
      have XQ_z9 := XQ.out.frozen 9
      have XQ_za := XQ.out.frozen 10
      go_wp2_with fail
      have bx0 : Box _ w.heap.size #[.string t1, .int .u64 0, .string ⟨#[]⟩, .string ⟨#[]⟩, .int .i64 0, .int .i64 0, .int .i64 0, .slice none 0 0, .slice none 0 0, .int .i64 0, .int .i64 0] 28 := XQ.out.set_ 0 (.string t1)
      have bx1 : Box _ w.heap.size #[.string t1, (.int .u64 (t2 : Nat)), .string ⟨#[]⟩, .string ⟨#[]⟩, .int .i64 0, .int .i64 0, .int .i64 0, .slice none 0 0, .slice none 0 0, .int .i64 0, .int .i64 0] 28 := bx0.set_ 1 ((.int .u64 (t2 : Nat)))
      have bx2 : Box _ w.heap.size #[.string t1, (.int .u64 (t2 : Nat)), .string t3, .string ⟨#[]⟩, .int .i64 0, .int .i64 0, .int .i64 0, .slice none 0 0, .slice none 0 0, .int .i64 0, .int .i64 0] 28 := bx1.set_ 2 (.string t3)
      have bx3 : Box _ w.heap.size #[.string t1, (.int .u64 (t2 : Nat)), .string t3, .string t4, .int .i64 0, .int .i64 0, .int .i64 0, .slice none 0 0, .slice none 0 0, .int .i64 0, .int .i64 0] 28 := bx2.set_ 3 (.string t4)
      have bx4 : Box _ w.heap.size #[.string t1, (.int .u64 (t2 : Nat)), .string t3, .string t4, .int .i64 t5, .int .i64 0, .int .i64 0, .slice none 0 0, .slice none 0 0, .int .i64 0, .int .i64 0] 28 := bx3.set_ 4 (.int .i64 t5)
      have bx5 : Box _ w.heap.size #[.string t1, (.int .u64 (t2 : Nat)), .string t3, .string t4, .int .i64 t5, .int .i64 t6, .int .i64 0, .slice none 0 0, .slice none 0 0, .int .i64 0, .int .i64 0] 28 := bx4.set_ 5 (.int .i64 t6)
      have bx6 : Box _ w.heap.size #[.string t1, (.int .u64 (t2 : Nat)), .string t3, .string t4, .int .i64 t5, .int .i64 t6, .int .i64 t7, .slice none 0 0, .slice none 0 0, .int .i64 0, .int .i64 0] 28 := bx5.set_ 6 (.int .i64 t7)
      have bx7 : Box _ w.heap.size #[.string t1, (.int .u64 (t2 : Nat)), .string t3, .string t4, .int .i64 t5, .int .i64 t6, .int .i64 t7, .slice PA7 t8.length pc7, .slice none 0 0, .int .i64 0, .int .i64 0] 28 := bx6.set_ 7 (.slice PA7 t8.length pc7)
      have bx8 : Box _ w.heap.size #[.string t1, (.int .u64 (t2 : Nat)), .string t3, .string t4, .int .i64 t5, .int .i64 t6, .int .i64 t7, .slice PA7 t8.length pc7, .slice PA8 t9.length pc8, .int .i64 0, .int .i64 0] 28 := bx7.set_ 8 (.slice PA8 t9.length pc8)
      have bx9 : Box _ w.heap.size #[.string t1, (.int .u64 (t2 : Nat)), .string t3, .string t4, .int .i64 t5, .int .i64 t6, .int .i64 t7, .slice PA7 t8.length pc7, .slice PA8 t9.length pc8, .int .i64 t10, .int .i64 0] 28 := bx8.set_ 9 (.int .i64 t10)
      have bx10 : Box _ w.heap.size #[.string t1, (.int .u64 (t2 : Nat)), .string t3, .string t4, .int .i64 t5, .int .i64 t6, .int .i64 t7, .slice PA7 t8.length pc7, .slice PA8 t9.length pc8, .int .i64 t10, .int .i64 t11] 28 := bx9.set_ 10 (.int .i64 t11)
      refine refDec_ret (g := w.heap.size) (v0 := .string t1) (v1 := (.int .u64 (t2 : Nat))) (v2 := .string t3) (v3 := .string t4) (v4 := .int .i64 t5) (v5 := .int .i64 t6) (v6 := .int .i64 t7) (v7 := .slice PA7 t8.length pc7) (v8 := .slice PA8 t9.length pc8) (v9 := .int .i64 t10) (va := .int .i64 t11) (e := 0) rfl rfl rfl bx10 ?_
      have hr := HR.out
      subst hr
      refine ⟨.slice PA7 t8.length pc7, .slice PA8 t9.length pc8, rfl, ?_, ?_, ?_⟩
      · refine P7.out.growBox XQ.out (by decide) (Nat.zero_le _) (by decide) ?_
        (iterate 11 (refine grown_setC ?_)); exact grown_refl _ _
      · refine P8.out.growBox XQ.out (by decide) (Nat.zero_le _) (by decide) ?_
        (iterate 11 (refine grown_setC ?_)); exact grown_refl _ _
      · (iterate 11 (refine below_setC ?_ (Nat.le_refl _))); exact HB.out

end Go.Proofs.YtbgficaboolgiaaGreatDoor

/-
  Walk of StoreDecodes.
-/
import Derived.Test.YtbgficaboolgiaaDoorStoHg
import Derived.Test.YtbgficaboolgiaaDoorStoW
namespace Go.Proofs.YtbgficaboolgiaaDoor
open Go.RowKit Go.WideShapes Go.ChangeShapes Go.Deep
set_option linter.unusedVariables false
set_option linter.unusedSimpArgs false

theorem dec_other {s : ByteArray} (h : (decT s).2 ≠ 0) : (decT s).1 = res0 := by
  unfold decT at h ⊢
  split
  · rfl
  · rename_i h1
    rw [if_neg h1] at h
    unfold decB at h ⊢
    split
    · rename_i h2
      rw [if_pos h2] at h
      exact absurd rfl h
    · rfl
/-- The lists of what was decoded are short. -/
theorem decT_small {s : ByteArray} (hs : s.size ≤ 9223372036854775807) : ((decT s).1.pts.length ≤ 9223372036854775807 ∧ ∀ c ∈ (decT s).1.pts, c.length ≤ 9223372036854775807) ∧ ((decT s).1.crs.length ≤ 9223372036854775807 ∧ ∀ c ∈ (decT s).1.crs, c.length ≤ 9223372036854775807) := by
  by_cases h : (decT s).2 = 0
  · obtain ⟨-, h2, -⟩ := decT_back hs h
    obtain ⟨-, -, h3, h4, -⟩ := sto_parts h2
    obtain ⟨a1, a2⟩ := lst_parts h3
    obtain ⟨b1, b2⟩ := lst_parts h4
    exact ⟨⟨by omega, fun c hc => by have := (a2 c hc).1; omega⟩, by omega, fun c hc => by have := (b2 c hc).1; omega⟩
  · rw [dec_other h]
    exact ⟨⟨by decide, fun c hc => by cases hc⟩, by decide, fun c hc => by cases hc⟩

set_option maxRecDepth 100000 in
set_option maxHeartbeats 16000000 in
theorem walkStoreDecodes (s : ByteArray) (hs : s.size ≤ maxLen) (w : World) (ht : Tab w) :
    Calls Tryd.prog 4 #[.string s] w fun e w' => e = .returned (.bool true) ∧ Below w.heap.size w w' := by
  have CD := Lib.hid (fun W => stoDecode s hs W)
  have CR := Lib.hid (fun W => refDecode s hs W)
  have CW := Lib.hid (fun W (hW : Below w.heap.size w W) => lawAwake W (ht.below hW))
  obtain ⟨d1, d2⟩ := decT_small (s := s) (by unfold maxLen at hs; exact hs)
  unfold DEC at CD CR
  generalize decT s = d at *
  obtain ⟨r, er⟩ := d
  simp only at CD CR d1 d2
  have CS := Lib.hid (fun W p q p' q' h1 h2 h3 h4 => refSameR W p q p' q' r h1 h2 h3 h4 d1 d2)
  clear d1 d2 ht
  have e3 : (er == er) = true := by simp
  have hs' := Lib.hid hs
  clear hs
  go_enter Tryd.func4, Tryd.ntmps4
  go_wp2_with fail
  refine (CD.out _).mono ?_; rintro e w2 ⟨p1, q1, rfl, ho1, ho2, hb⟩
  have HB := Lib.hid hb
  have P1 := Lib.hid ho1.any
  have Q1 := Lib.hid ho2.any
  obtain ⟨A1, c1, rfl⟩ := ho1.slice
  obtain ⟨A2, c2, rfl⟩ := ho2.slice
  clear ho1 ho2 hb CD
  obtain ⟨te, se, de, si, cy, sn, gt, ps, cs, sm, il⟩ := r
  simp only [resV] at CS CR P1 Q1 ⊢
  obtain ⟨M, hM⟩ : ∃ M, M = ps.length := ⟨_, rfl⟩
  obtain ⟨N, hN⟩ : ∃ N, N = cs.length := ⟨_, rfl⟩
  rw [← hM] at P1 ⊢
  rw [← hN] at Q1 ⊢
  have HM := Lib.hid hM
  have HN := Lib.hid hN
  clear hM hN
  go_upto_region 2 with fail
  have XA := Lib.hid (box_new (W := w2) (g := w2.heap.size) 27 #[.string te, .int .u64 se, .string de, .string si, .int .i64 cy, .int .i64 sn, .int .i64 gt, .slice A1 M c1, .slice A2 N c2, .int .i64 sm, .int .i64 il] (by simp))
  have hba := (below_alloc w2 (.cells #[.string te, .int .u64 se, .string de, .string si, .int .i64 cy, .int .i64 sn, .int .i64 gt, .slice A1 M c1, .slice A2 N c2, .int .i64 sm, .int .i64 il] 27))
  replace P1 := Lib.hid (P1.out.below hba)
  replace Q1 := Lib.hid (Q1.out.below hba)
  replace HB := Lib.hid (below_step HB.out hba)
  clear hba
  generalize w2.alloc (.cells #[.string te, .int .u64 se, .string de, .string si, .int .i64 cy, .int .i64 sn, .int .i64 gt, .slice A1 M c1, .slice A2 N c2, .int .i64 sm, .int .i64 il] 27) = w3 at *
  obtain ⟨gA, hgA⟩ : ∃ g, g = w2.heap.size := ⟨_, rfl⟩
  rw [← hgA] at XA ⊢
  clear hgA
  go_wp2_with fail
  refine (CR.out _).mono ?_; rintro e w4 ⟨p2, q2, rfl, ho1, ho2, hb⟩
  replace P1 := Lib.hid (P1.out.below hb)
  replace Q1 := Lib.hid (Q1.out.below hb)
  replace XA := Lib.hid (XA.out.below hb)
  replace HB := Lib.hid (below_step HB.out hb)
  clear hb
  have P2 := Lib.hid ho1.any
  have Q2 := Lib.hid ho2.any
  obtain ⟨A3, c3, rfl⟩ := ho1.slice
  obtain ⟨A4, c4, rfl⟩ := ho2.slice
  rw [← HM.out] at P2 ⊢
  rw [← HN.out] at Q2 ⊢
  clear ho1 ho2 CR
  go_upto_region 3 with fail
  have XB := Lib.hid (box_new (W := w4) (g := w4.heap.size) 27 #[.string te, .int .u64 se, .string de, .string si, .int .i64 cy, .int .i64 sn, .int .i64 gt, .slice A3 M c3, .slice A4 N c4, .int .i64 sm, .int .i64 il] (by simp))
  have hba := (below_alloc w4 (.cells #[.string te, .int .u64 se, .string de, .string si, .int .i64 cy, .int .i64 sn, .int .i64 gt, .slice A3 M c3, .slice A4 N c4, .int .i64 sm, .int .i64 il] 27))
  replace P1 := Lib.hid (P1.out.below hba)
  replace Q1 := Lib.hid (Q1.out.below hba)
  replace XA := Lib.hid (XA.out.below hba)
  replace P2 := Lib.hid (P2.out.below hba)
  replace Q2 := Lib.hid (Q2.out.below hba)
  replace HB := Lib.hid (below_step HB.out hba)
  clear hba
  generalize w4.alloc (.cells #[.string te, .int .u64 se, .string de, .string si, .int .i64 cy, .int .i64 sn, .int .i64 gt, .slice A3 M c3, .slice A4 N c4, .int .i64 sm, .int .i64 il] 27) = w5 at *
  have XA_0 := XA.out.at_ 0 _ rfl
  have XA_1 := XA.out.at_ 1 _ rfl
  have XA_2 := XA.out.at_ 2 _ rfl
  have XA_3 := XA.out.at_ 3 _ rfl
  have XA_4 := XA.out.at_ 4 _ rfl
  have XA_5 := XA.out.at_ 5 _ rfl
  have XA_6 := XA.out.at_ 6 _ rfl
  have XA_7 := XA.out.at_ 7 _ rfl
  have XA_8 := XA.out.at_ 8 _ rfl
  have XA_9 := XA.out.at_ 9 _ rfl
  have XA_a := XA.out.at_ 10 _ rfl
  have XB_0 := XB.out.at_ 0 _ rfl
  have XB_1 := XB.out.at_ 1 _ rfl
  have XB_2 := XB.out.at_ 2 _ rfl
  have XB_3 := XB.out.at_ 3 _ rfl
  have XB_4 := XB.out.at_ 4 _ rfl
  have XB_5 := XB.out.at_ 5 _ rfl
  have XB_6 := XB.out.at_ 6 _ rfl
  have XB_7 := XB.out.at_ 7 _ rfl
  have XB_8 := XB.out.at_ 8 _ rfl
  have XB_9 := XB.out.at_ 9 _ rfl
  have XB_a := XB.out.at_ 10 _ rfl
  go_wp2_with fail
  refine (CS.out _ _ _ _ _ P1.out Q1.out P2.out Q2.out).mono ?_; rintro e w6 ⟨rfl, hb⟩
  clear XA_0 XA_1 XA_2 XA_3 XA_4 XA_5 XA_6 XA_7 XA_8 XA_9 XA_a XB_0 XB_1 XB_2 XB_3 XB_4 XB_5 XB_6 XB_7 XB_8 XB_9 XB_a
  replace P1 := Lib.hid (P1.out.below hb)
  replace Q1 := Lib.hid (Q1.out.below hb)
  replace XA := Lib.hid (XA.out.below hb)
  replace P2 := Lib.hid (P2.out.below hb)
  replace Q2 := Lib.hid (Q2.out.below hb)
  replace XB := Lib.hid (XB.out.below hb)
  replace HB := Lib.hid (below_step HB.out hb)
  clear hb
  clear CS
  go_wp2_with fail
  refine (CW.out _ HB.out).mono ?_; rintro e w7 ⟨rfl, hb⟩
  replace P1 := Lib.hid (P1.out.below hb)
  replace Q1 := Lib.hid (Q1.out.below hb)
  replace XA := Lib.hid (XA.out.below hb)
  replace P2 := Lib.hid (P2.out.below hb)
  replace Q2 := Lib.hid (Q2.out.below hb)
  replace XB := Lib.hid (XB.out.below hb)
  replace HB := Lib.hid (below_step HB.out hb)
  clear hb
  go_wp2_with fail
  go_ret
  exact ⟨rfl, HB.out⟩

end Go.Proofs.YtbgficaboolgiaaDoor

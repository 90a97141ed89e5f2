/-
  Contract of the reference's Set.
-/
import Derived.Test.YtbjcbndmafddoaaDoorTxnN
namespace Go.Proofs.YtbjcbndmafddoaaDoor
open Go.RowKit
set_option linter.unusedVariables false
set_option linter.unusedSimpArgs false

theorem set_take {zs : List Int} {k j : Nat} {v : Int} (hj : j < zs.length) : (zs.set k v).take (j + 1) = (zs.set k v).take j ++ [if j = k then v else zs.getD j 0] := by
  rw [take_snocD _ j 0 (by simpa using hj), set_getD _ _ _ _ hj]

set_option maxRecDepth 100000 in
set_option maxHeartbeats 8000000 in
theorem refSet (w : World) (v1 v2 : Value) (ns : List ByteArray) (zs : List Int) (s : ByteArray) (v : Int) (h1 : SL w v1 ns) (h2 : IL w v2 zs) (hsz : ∀ s ∈ ns, s.size ≤ 2000000) (hn : ns.length * 16 ≤ 140737488355328) (hz : zs.length * 8 ≤ 140737488355328) :
    Calls Tryd.prog 26 #[.agg #[v1, v2], .string s, .int .i64 v] w fun e w' => RET e w w' (setT ns zs s v) := by
  have HQ1 := Lib.hid h1
  have HQ2 := Lib.hid h2
  have CI := Lib.hid (fun W h => refPlace W v1 ns s h (by omega))
  have CV := Lib.hid (fun W h1 h2 => refValidT W v1 v2 ns zs h1 h2 hsz (by omega) (by omega))
  have hways := set_ways ns zs s v
  generalize setT ns zs s v = r at *
  clear h1 h2 hsz
  rcases hways with ⟨hv, hr⟩ | ⟨hv, hi, hr⟩ | ⟨hv, hi, hw, hr⟩ | ⟨k, hv, hi, hk, hkz, hw, hr⟩
  · rw [hv] at CV
    have HR := Lib.hid hr
    clear hv hr hn hz CI
    go_enter Tryd.func26, Tryd.ntmps26
    go_wp2_with fail
    have XA := Lib.hid ((box_new (W := w) (g := w.heap.size) 25 #[v1, v2] (by simp)).below (below_alloc _ (.cells #[.slice none 0 0, .slice none 0 0] 25)))
    have XR := Lib.hid (box_new (W := (w.alloc (.cells #[v1, v2] 25))) (g := w.heap.size + 1) 25 #[.slice none 0 0, .slice none 0 0] (by simp))
    have HB := Lib.hid (below_step (below_alloc w (.cells #[v1, v2] 25)) (below_alloc (w.alloc (.cells #[v1, v2] 25)) (.cells #[.slice none 0 0, .slice none 0 0] 25)))
    generalize (w.alloc (.cells #[v1, v2] 25)).alloc (.cells #[.slice none 0 0, .slice none 0 0] 25) = w1 at *
    refine (CV.out _ (HQ1.out.below HB.out) (HQ2.out.below HB.out)).mono ?_; rintro e w3 ⟨rfl, hb⟩
    replace XA := Lib.hid (XA.out.below hb)
    replace XR := Lib.hid (XR.out.below hb)
    replace HB := Lib.hid (below_step HB.out hb)
    clear hb
    have XR_0 := XR.out.at_ 0 _ rfl
    have XR_1 := XR.out.at_ 1 _ rfl
    have XR_l := XR.out.lt
    have XR_z0 := XR.out.frozen 0
    have XR_z1 := XR.out.frozen 1
    go_wp2_with fail
    refine bodyPost_ret (v := .tuple #[.agg #[.slice none 0 0, .slice none 0 0], .int .i64 1]) (by simp [results, Tryd.results26, go_sem, XR_0, XR_1, XR_l]) rfl ?_
    rw [HR.out]
    exact RET.no (below_r2 HB.out _ _)
  · rw [hv] at CV
    have HR := Lib.hid hr
    generalize Lib.idxOfS ns s = i at *
    clear hv hr hn hz
    go_enter Tryd.func26, Tryd.ntmps26
    go_wp2_with fail
    have XA := Lib.hid ((box_new (W := w) (g := w.heap.size) 25 #[v1, v2] (by simp)).below (below_alloc _ (.cells #[.slice none 0 0, .slice none 0 0] 25)))
    have XR := Lib.hid (box_new (W := (w.alloc (.cells #[v1, v2] 25))) (g := w.heap.size + 1) 25 #[.slice none 0 0, .slice none 0 0] (by simp))
    have HB := Lib.hid (below_step (below_alloc w (.cells #[v1, v2] 25)) (below_alloc (w.alloc (.cells #[v1, v2] 25)) (.cells #[.slice none 0 0, .slice none 0 0] 25)))
    generalize (w.alloc (.cells #[v1, v2] 25)).alloc (.cells #[.slice none 0 0, .slice none 0 0] 25) = w1 at *
    refine (CV.out _ (HQ1.out.below HB.out) (HQ2.out.below HB.out)).mono ?_; rintro e w3 ⟨rfl, hb⟩
    replace XA := Lib.hid (XA.out.below hb)
    replace XR := Lib.hid (XR.out.below hb)
    replace HB := Lib.hid (below_step HB.out hb)
    clear hb
    have XA_0 := XA.out.at_ 0 _ rfl
    go_wp2_with fail
    refine (CI.out _ (HQ1.out.below HB.out)).mono ?_; rintro e w4 ⟨rfl, rfl⟩
    have XR_0 := XR.out.at_ 0 _ rfl
    have XR_1 := XR.out.at_ 1 _ rfl
    have XR_l := XR.out.lt
    have XR_z0 := XR.out.frozen 0
    have XR_z1 := XR.out.frozen 1
    go_wp2_with fail
    refine bodyPost_ret (v := .tuple #[.agg #[.slice none 0 0, .slice none 0 0], .int .i64 7]) (by simp [results, Tryd.results26, go_sem, XR_0, XR_1, XR_l]) rfl ?_
    rw [HR.out]
    exact RET.no (below_r2 HB.out _ _)
  · rw [hv] at CV
    have HR := Lib.hid hr
    generalize Lib.idxOfS ns s = i at *
    have f1 : ¬ i < 0 := by omega
    have f2 : v < 0 ∨ 65535 < v := by unfold wordB at hw; have := of_decide_eq_false hw; omega
    clear hv hr hn hz hi hw
    rcases f2 with f2 | f2
    all_goals
      go_enter Tryd.func26, Tryd.ntmps26
      go_wp2_with fail
      have XA := Lib.hid ((box_new (W := w) (g := w.heap.size) 25 #[v1, v2] (by simp)).below (below_alloc _ (.cells #[.slice none 0 0, .slice none 0 0] 25)))
      have XR := Lib.hid (box_new (W := (w.alloc (.cells #[v1, v2] 25))) (g := w.heap.size + 1) 25 #[.slice none 0 0, .slice none 0 0] (by simp))
      have HB := Lib.hid (below_step (below_alloc w (.cells #[v1, v2] 25)) (below_alloc (w.alloc (.cells #[v1, v2] 25)) (.cells #[.slice none 0 0, .slice none 0 0] 25)))
      generalize (w.alloc (.cells #[v1, v2] 25)).alloc (.cells #[.slice none 0 0, .slice none 0 0] 25) = w1 at *
      refine (CV.out _ (HQ1.out.below HB.out) (HQ2.out.below HB.out)).mono ?_; rintro e w3 ⟨rfl, hb⟩
      replace XA := Lib.hid (XA.out.below hb)
      replace XR := Lib.hid (XR.out.below hb)
      replace HB := Lib.hid (below_step HB.out hb)
      clear hb
      have XA_0 := XA.out.at_ 0 _ rfl
      go_wp2_with fail
      refine (CI.out _ (HQ1.out.below HB.out)).mono ?_; rintro e w4 ⟨rfl, rfl⟩
      have XR_0 := XR.out.at_ 0 _ rfl
      have XR_1 := XR.out.at_ 1 _ rfl
      have XR_l := XR.out.lt
      have XR_z0 := XR.out.frozen 0
      have XR_z1 := XR.out.frozen 1
      try have f3 : ¬ v < 0 := by omega
      go_wp2_with fail
      refine bodyPost_ret (v := .tuple #[.agg #[.slice none 0 0, .slice none 0 0], .int .i64 3]) (by simp [results, Tryd.results26, go_sem, XR_0, XR_1, XR_l]) rfl ?_
      rw [HR.out]
      exact RET.no (below_r2 HB.out _ _)
  · rw [hv] at CV
    rw [hi] at CI
    have HR := Lib.hid hr
    have hwb : 0 ≤ v ∧ v ≤ 65535 := by unfold wordB at hw; exact of_decide_eq_true hw
    have g1 : ¬ v < 0 := by omega
    have g2 : ¬ 65535 < v := by omega
    have f1 : ¬ (k : Int) < 0 := by omega
    obtain ⟨i0, hi0, hz0, hz1, hz2⟩ := info_parts istr
    have HI := Lib.hid hi0
    have HZ0 := Lib.hid hz0
    have HZ1 := Lib.hid hz1
    have HZ2 := Lib.hid hz2
    clear hi0 hz0 hz1 hz2
    obtain ⟨i1, hi0, hz0, hz1, hz2⟩ := info_parts iint
    have JI := Lib.hid hi0
    have JZ0 := Lib.hid hz0
    have JZ1 := Lib.hid hz1
    have JZ2 := Lib.hid hz2
    clear hi0 hz0 hz1 hz2
    rcases HQ1.out.form with ⟨_, _, _, h0⟩ | ⟨b, o, c1, rfl, hc1, hpos, hlt, hcl⟩
    · rw [h0] at hk; simp at hk
    obtain ⟨A2, c2, rfl, hc2, hs2⟩ := HQ2.out
    have HS2 := Lib.hid hs2
    obtain ⟨N, hN⟩ : ∃ N, N = ns.length := ⟨_, rfl⟩
    obtain ⟨M, hM⟩ : ∃ M, M = zs.length := ⟨_, rfl⟩
    rw [← hN] at CI CV HQ1 hcl hn ⊢
    rw [← hM] at CV HQ2 hkz HS2 hz ⊢
    have HCL := Lib.hid hcl
    have HN := Lib.hid hN
    have HMM := Lib.hid hM
    have HTK := Lib.hid (fun j (h : j < zs.length) => set_take (k := k) (v := v) h)
    clear hv hr hi hw hk hN hM hcl hs2 hc1 hc2 hpos hwb
    go_enter Tryd.func26, Tryd.ntmps26
    go_wp2_with fail
    have XA := Lib.hid ((box_new (W := w) (g := w.heap.size) 25 #[.slice (some ⟨b, o, none⟩) N c1, .slice A2 M c2] (by simp)).below (below_alloc _ (.cells #[.slice none 0 0, .slice none 0 0] 25)))
    have XR := Lib.hid (box_new (W := (w.alloc (.cells #[.slice (some ⟨b, o, none⟩) N c1, .slice A2 M c2] 25))) (g := w.heap.size + 1) 25 #[.slice none 0 0, .slice none 0 0] (by simp))
    have HB := Lib.hid (below_step (below_alloc w (.cells #[.slice (some ⟨b, o, none⟩) N c1, .slice A2 M c2] 25)) (below_alloc (w.alloc (.cells #[.slice (some ⟨b, o, none⟩) N c1, .slice A2 M c2] 25)) (.cells #[.slice none 0 0, .slice none 0 0] 25)))
    generalize (w.alloc (.cells #[.slice (some ⟨b, o, none⟩) N c1, .slice A2 M c2] 25)).alloc (.cells #[.slice none 0 0, .slice none 0 0] 25) = w1 at *
    refine (CV.out _ (HQ1.out.below HB.out) (HQ2.out.below HB.out)).mono ?_; rintro e w3 ⟨rfl, hb⟩
    replace XA := Lib.hid (XA.out.below hb)
    replace XR := Lib.hid (XR.out.below hb)
    replace HB := Lib.hid (below_step HB.out hb)
    clear hb
    have XA_0 := XA.out.at_ 0 _ rfl
    go_wp2_with fail
    refine (CI.out _ (HQ1.out.below HB.out)).mono ?_; rintro e w4 ⟨rfl, rfl⟩
    have XA_l := XA.out.lt
    have HBIG := Lib.hid XR.out.lt
    have hq : ∀ W, Below w.heap.size w W → ∀ j u, (scells ns)[j]? = some u → W.cell? ((⟨b, o, none⟩ : Addr).add j) = some u := fun W hb j u hu => by
      have hj : j < ns.length := by
        have := (List.getElem?_eq_some_iff.1 hu).1
        simpa [scells] using this
      rw [add_none, hb.cell (p := ⟨b, o + j, none⟩) hlt, HCL.out j (by rw [HN.out]; exact hj), ← hu]
      simp [scells, List.getD_eq_getElem?_getD, List.getElem?_eq_getElem hj]
    have HQN := Lib.hid hq
    clear hq
    go_wp2_with (at_builtin; refine wpList_append_own _ rfl _ _ 22 rfl (w3.heap.size + 1) 9 i0 (.string ⟨#[]⟩) 1 16 Tryd.underlying22 HI.out HZ0.out HZ1.out HZ2.out rfl (by decide) (.slice none 0 0) 0 [] rfl (World.ownsRow_nil _ _ _ _) ⟨b, o, none⟩ N c1 (scells ns) rfl (by simp [scells, HN.out]) ?c1 ?c2 ?c3 ?c4 ?c5 ?_)
    case c1 => exact HQN.out _ (below_step HB.out (below_alloc _ _))
    case c2 => intro u hu; simp [scells] at hu; obtain ⟨_, _, rfl⟩ := hu; rfl
    case c3 => unfold maxLen; omega
    case c4 => omega
    case c5 => simp
    intro q3 w5 hown5 hgrow _
    clear XA_0 XA_l
    have on := World.ownsRow_nil (w3.alloc (.cells #[.slice none 0 0, .slice none 0 0] 25)) (w3.heap.size + 1) 9 1
    have XO := Lib.hid ((Box.new w3 25 #[.slice none 0 0, .slice none 0 0]).grown0 on (Nat.lt_succ_self _) hgrow)
    have hbig := HBIG.out
    replace XA := Lib.hid ((XA.out.below (below_alloc _ _)).grown0 on (by omega) hgrow)
    replace XR := Lib.hid ((XR.out.below (below_alloc _ _)).grown0 on (by omega) hgrow)
    have hb0 := below_step HB.out (below_alloc w3 (.cells #[.slice none 0 0, .slice none 0 0] 25))
    replace HB := Lib.hid (below_grown0 hb0 hb0.size (by omega) on hgrow)
    have O1 := Lib.hid hown5
    obtain ⟨A1, c5, rfl⟩ := own_slice hown5
    clear hown5 hgrow hb0 on
    have XO_0 := XO.out.at_ 0 _ rfl
    have XO_1 := XO.out.at_ 1 _ rfl
    have XO_l := XO.out.lt
    have XO_z0 := XO.out.frozen 0
    have XO_z1 := XO.out.frozen 1
    go_wp2_with fail
    clear XO_0 XO_1 XO_l XO_z0 XO_z1
    go_loopw [10] (fun i wr => ∃ (j : Nat) (u : Value), j ≤ M ∧ i = .int .i64 j ∧ Box wr w.heap.size #[.slice (some ⟨b, o, none⟩) N c1, .slice A2 M c2] 25 ∧ Box wr (w.heap.size + 1) #[.slice none 0 0, .slice none 0 0] 25 ∧ Box wr w3.heap.size #[.slice A1 N c5, u] 25 ∧ wr.ownsRow (w3.heap.size + 1) 9 1 (.slice A1 N c5) N (scells ns) ∧ wr.ownsRow (w3.heap.size + 1) 3 1 u j (icells ((zs.set k v).take j)) ∧ Below w.heap.size w wr) (fun i _ => M - (intOf i).toNat)
    case atStart =>
      exact ⟨0, _, Nat.zero_le _, rfl, XA.out.setNe (p := ⟨w3.heap.size, 0, none⟩) (by show w3.heap.size ≠ w.heap.size; omega) _, XR.out.setNe (p := ⟨w3.heap.size, 0, none⟩) (by show w3.heap.size ≠ w.heap.size + 1; omega) _, XO.out.set_ 0 _,
        own_setNe (g := w3.heap.size) (a := ⟨w3.heap.size, 0, none⟩) O1.out rfl (Nat.lt_succ_self _), World.ownsRow_nil _ _ _ _, HB.out.setCell (p := ⟨w3.heap.size, 0, none⟩) (by show w.heap.size ≤ w3.heap.size; omega) _⟩
    case round =>
      obtain ⟨j, u, hj, rfl, hxa, hxr, hxo, ho1, ho2, hb⟩ := hrel
      clear XA XR XO O1 HB
      have XA := Lib.hid hxa
      have XR := Lib.hid hxr
      have XO := Lib.hid hxo
      have O1 := Lib.hid ho1
      have O2 := Lib.hid ho2
      have HB := Lib.hid hb
      clear hxa hxr hxo ho1 ho2 hb
      by_cases hltj : j < M
      · have hlt2 : (j : Int) < M := by omega
        have hj0 : (0 : Int) ≤ (j : Int) := by omega
        have htk := HTK.out j (by rw [← HMM.out]; exact hltj)
        obtain ⟨x2, rfl, hx2, hr2⟩ := HS2.out (by omega)
        have q2 : wr.cell? (x2.add j) = some (.int .i64 (zs.getD j 0)) := by
          rw [HB.out.cell (p := x2.add j) (by rw [block_of_add]; exact hx2)]
          exact hr2 j hltj
        have hcase : (j = k ∧ (zs.set k v).take (j + 1) = (zs.set k v).take j ++ [v]) ∨ (j ≠ k ∧ (zs.set k v).take (j + 1) = (zs.set k v).take j ++ [zs.getD j 0]) := by
          by_cases e : j = k
          · left; exact ⟨e, by rw [htk, if_pos e]⟩
          · right; exact ⟨e, by rw [htk, if_neg e]⟩
        clear htk hr2
        generalize (zs.set k v).take j = pre at *
        generalize zs.getD j 0 = z at *
        rcases hcase with ⟨heq, ht⟩ | ⟨hne, ht⟩
        · have HTK2 := Lib.hid ht
          have n1 : ((j : Int) == (k : Int)) = true := by simp; omega
          have n2 : (j == k) = true := by simpa using heq
          clear ht heq
          have XA_1 := XA.out.at_ 1 _ rfl
          have XO_1 := XO.out.at_ 1 _ rfl
          have XO_l := XO.out.lt
          go_wp2_with (at_builtin; refine wpList_append_own _ rfl _ _ 23 rfl (w3.heap.size + 1) 3 i1 (.int .i64 0) 1 8 Tryd.underlying23 JI.out JZ0.out JZ1.out JZ2.out rfl (by decide) u j (icells pre) rfl (O2.out.alloc _) ⟨wr.heap.size, 0, none⟩ 1 1 [.int .i64 v] rfl rfl ?c1 ?c2 ?c3 ?c4 ?c5 ?_)
          case c1 => exact news1
          case c2 => intro u hu; simp at hu; subst hu; rfl
          case c3 => unfold maxLen; omega
          case c4 => omega
          case c5 => have := XO.out.lt; simp; omega
          intro v4 w7 hown7 hgrow _
          clear XA_1 XO_1 XO_l
          clear q2
          replace XA := Lib.hid (XA.out.keptB O2.out (by omega) hgrow)
          replace XR := Lib.hid (XR.out.keptB O2.out (by omega) hgrow)
          replace XO := Lib.hid (XO.out.keptB O2.out (by omega) hgrow)
          replace O1 := Lib.hid (own_keptT O1.out O2.out (by decide) hgrow)
          replace HB := Lib.hid (below_grownB HB.out HB.out.size (by omega) O2.out hgrow)
          have O4 : Hid (w7.ownsRow (w3.heap.size + 1) 3 1 v4 (j + 1) (icells ((zs.set k v).take (j + 1)))) := Lib.hid (by rw [HTK2.out, show icells (pre ++ [v]) = icells pre ++ [.int .i64 v] by simp [icells]]; exact hown7)
          clear hown7 hgrow O2
          obtain ⟨A4, c4, rfl⟩ := own_slice O4.out
          have XO_1 := XO.out.at_ 1 _ rfl
          have XO_l := XO.out.lt
          have XO_z1 := XO.out.frozen 1
          go_wp2_with fail
          clear XO_1 XO_l XO_z1
          go_roundw
          case rel =>
            exact ⟨j + 1, _, by omega, by go_num, XA.out.setNe (p := ⟨w3.heap.size, 1, none⟩) (by show w3.heap.size ≠ w.heap.size; omega) _, XR.out.setNe (p := ⟨w3.heap.size, 1, none⟩) (by show w3.heap.size ≠ w.heap.size + 1; omega) _, XO.out.set_ 1 (.slice A4 (j + 1) c4),
              own_setNe (g := w3.heap.size) (a := ⟨w3.heap.size, 1, none⟩) O1.out rfl (Nat.lt_succ_self _), own_setNe (g := w3.heap.size) (a := ⟨w3.heap.size, 1, none⟩) O4.out rfl (Nat.lt_succ_self _), HB.out.setCell (p := ⟨w3.heap.size, 1, none⟩) (by show w.heap.size ≤ w3.heap.size; omega) _⟩
          case measure => simp [intOf]; omega
        · have HTK2 := Lib.hid ht
          have n1 : ((j : Int) == (k : Int)) = false := by simp; omega
          have n2 : (j == k) = false := by simpa using hne
          have n3 : ¬ (j : Int) = k := by omega
          clear ht hne
          have XA_1 := XA.out.at_ 1 _ rfl
          have XO_1 := XO.out.at_ 1 _ rfl
          have XO_l := XO.out.lt
          go_wp2_with (at_builtin; refine wpList_append_own _ rfl _ _ 23 rfl (w3.heap.size + 1) 3 i1 (.int .i64 0) 1 8 Tryd.underlying23 JI.out JZ0.out JZ1.out JZ2.out rfl (by decide) u j (icells pre) rfl (O2.out.alloc _) ⟨wr.heap.size, 0, none⟩ 1 1 [.int .i64 z] rfl rfl ?c1 ?c2 ?c3 ?c4 ?c5 ?_)
          case c1 => exact news1
          case c2 => intro u hu; simp at hu; subst hu; rfl
          case c3 => unfold maxLen; omega
          case c4 => omega
          case c5 => have := XO.out.lt; simp; omega
          intro v4 w7 hown7 hgrow _
          clear XA_1 XO_1 XO_l
          clear q2
          replace XA := Lib.hid (XA.out.keptB O2.out (by omega) hgrow)
          replace XR := Lib.hid (XR.out.keptB O2.out (by omega) hgrow)
          replace XO := Lib.hid (XO.out.keptB O2.out (by omega) hgrow)
          replace O1 := Lib.hid (own_keptT O1.out O2.out (by decide) hgrow)
          replace HB := Lib.hid (below_grownB HB.out HB.out.size (by omega) O2.out hgrow)
          have O4 : Hid (w7.ownsRow (w3.heap.size + 1) 3 1 v4 (j + 1) (icells ((zs.set k v).take (j + 1)))) := Lib.hid (by rw [HTK2.out, show icells (pre ++ [z]) = icells pre ++ [.int .i64 z] by simp [icells]]; exact hown7)
          clear hown7 hgrow O2
          obtain ⟨A4, c4, rfl⟩ := own_slice O4.out
          have XO_1 := XO.out.at_ 1 _ rfl
          have XO_l := XO.out.lt
          have XO_z1 := XO.out.frozen 1
          go_wp2_with fail
          clear XO_1 XO_l XO_z1
          go_roundw
          case rel =>
            exact ⟨j + 1, _, by omega, by go_num, XA.out.setNe (p := ⟨w3.heap.size, 1, none⟩) (by show w3.heap.size ≠ w.heap.size; omega) _, XR.out.setNe (p := ⟨w3.heap.size, 1, none⟩) (by show w3.heap.size ≠ w.heap.size + 1; omega) _, XO.out.set_ 1 (.slice A4 (j + 1) c4),
              own_setNe (g := w3.heap.size) (a := ⟨w3.heap.size, 1, none⟩) O1.out rfl (Nat.lt_succ_self _), own_setNe (g := w3.heap.size) (a := ⟨w3.heap.size, 1, none⟩) O4.out rfl (Nat.lt_succ_self _), HB.out.setCell (p := ⟨w3.heap.size, 1, none⟩) (by show w.heap.size ≤ w3.heap.size; omega) _⟩
          case measure => simp [intOf]; omega
      · have hlt2 : ¬ (j : Int) < M := by omega
        obtain rfl : j = M := by omega
        have htl : (zs.set k v).take j = zs.set k v := List.take_of_length_le (by rw [List.length_set, ← HMM.out]; exact Nat.le_refl _)
        rw [htl] at O2
        obtain ⟨A6, c6, rfl⟩ := own_slice O2.out
        clear htl hj
        have XA_1 := XA.out.at_ 1 _ rfl
        have XR_0 := XR.out.at_ 0 _ rfl
        have XR_1 := XR.out.at_ 1 _ rfl
        have XR_l := XR.out.lt
        have XR_z0 := XR.out.frozen 0
        have XR_z1 := XR.out.frozen 1
        have XO_0 := XO.out.at_ 0 _ rfl
        have XO_1 := XO.out.at_ 1 _ rfl
        go_wp2_with fail
        refine bodyPost_ret (v := .tuple #[.agg #[.slice A1 N c5, .slice A6 j c6], .int .i64 0]) (by simp [results, Tryd.results26, go_sem, XR_0, XR_1, XR_l]) rfl ?_
        rw [HR.out]
        refine ⟨_, _, rfl, ?_, ?_, below_r2 HB.out _ _⟩
        · exact SL.of_own (own_setNe (g := w.heap.size + 1) (a := ⟨w.heap.size + 1, 1, none⟩) (own_setNe (g := w.heap.size + 1) (a := ⟨w.heap.size + 1, 0, none⟩) O1.out rfl (by omega)) rfl (by omega))
        · exact IL.of_own (own_setNe (g := w.heap.size + 1) (a := ⟨w.heap.size + 1, 1, none⟩) (own_setNe (g := w.heap.size + 1) (a := ⟨w.heap.size + 1, 0, none⟩) O2.out rfl (by omega)) rfl (by omega))

end Go.Proofs.YtbjcbndmafddoaaDoor

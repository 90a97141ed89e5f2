/-
  Contract of txn.Parse.
-/
import Derived.Test.YtbjcbndmafddoaaDoorTxnN
namespace Go.Proofs.YtbjcbndmafddoaaDoor
open Go.RowKit
set_option linter.unusedVariables false
set_option linter.unusedSimpArgs false

def RET (e : Ending) (w w' : World) (r : List ByteArray × List Int × Int) : Prop :=
  ∃ v1 v2, e = .returned (.tuple #[.agg #[v1, v2], .int .i64 r.2.2]) ∧ (SL w' v1 r.1 ∧ IL w' v2 r.2.1 ∧ Below w.heap.size w w')
theorem RET.no {w w' : World} {c : Int} (h : Below w.heap.size w w') : RET (.returned (.tuple #[.agg #[.slice none 0 0, .slice none 0 0], .int .i64 c])) w w' ([], [], c) :=
  ⟨_, _, rfl, SL.nil _, IL.nil _, h⟩
theorem prs_step {WS : List ByteArray} {k : Nat} (h : k < WS.length) {ns : List ByteArray} {zs : List Int} {r : List ByteArray × List Int × Int} (hr : r = prsRun (WS.drop k) ns zs) : r = prsRun (WS.getD k ⟨#[]⟩ :: WS.drop (k + 1)) ns zs := by
  rw [hr, List.drop_eq_getElem_cons h]
  simp [List.getD_eq_getElem?_getD, List.getElem?_eq_getElem h]

theorem below_z2 {w w4 : World} (h : Below w.heap.size w w4) (o : Obj) : Below w.heap.size w (((w4.setCell ⟨w.heap.size, 0, none⟩ (.slice none 0 0)).setCell ⟨w.heap.size, 1, none⟩ (.slice none 0 0)).alloc o) := by
  have h5 := (h.setCell (p := ⟨w.heap.size, 0, none⟩) (Nat.le_refl _) (.slice none 0 0)).setCell (p := ⟨w.heap.size, 1, none⟩) (Nat.le_refl _) (.slice none 0 0)
  exact h5.alloc h5.size _
theorem partT_size {x : ByteArray} (h : x.size ≤ 2000000) : (partT x).1.size ≤ 2000000 := by
  have h1 := preB_size 61 x
  have h2 := ix_le (b := 61) x.data.toList
  rw [← Lib.size_eq] at h2
  rcases part_ways x with ⟨_, hr⟩ | ⟨_, _, hr⟩ | ⟨_, _, _, hr⟩ | ⟨_, _, _, _, hr⟩ | ⟨_, _, _, _, hr⟩ <;> rw [hr]
  all_goals first | (show (ByteArray.mk #[]).size ≤ 2000000; decide) | (show (preB 61 x).size ≤ 2000000; omega)

set_option maxRecDepth 100000 in
set_option maxHeartbeats 8000000 in
theorem txnParse (s : ByteArray) (w : World) (hs : s.size ≤ 2000000) (hk : KW w) (hm : MLen w) :
    Calls Tryd.prog 14 #[.string s] w fun e w' => RET e w w' (parseT s) := by
  have HK := Lib.hid hk
  have HM := Lib.hid hm
  have C0 := Lib.hid (fun w h => strSplitB 32 s w hs h)
  obtain ⟨i0, hi, hz0, hz1, hz2⟩ := info_parts istr
  have HI := Lib.hid hi
  have HZ0 := Lib.hid hz0
  have HZ1 := Lib.hid hz1
  have HZ2 := Lib.hid hz2
  clear hi hz0 hz1 hz2
  obtain ⟨i1, hi, hz0, hz1, hz2⟩ := info_parts iint
  have JI := Lib.hid hi
  have JZ0 := Lib.hid hz0
  have JZ1 := Lib.hid hz1
  have JZ2 := Lib.hid hz2
  clear hi hz0 hz1 hz2 hk hm
  by_cases hempty : s.size = 0
  · have HR : Hid (parseT s = ([], [], 0)) := Lib.hid (by unfold parseT; rw [if_pos hempty])
    have f1 : s.toList = [] := (str_empty2 s).2.2.2 hempty
    have f2 : s.toList.isEmpty = true := by rw [f1]; rfl
    clear hempty
    go_enter Tryd.func14, Tryd.ntmps14
    go_wp2_with fail
    refine bodyPost_ret (v := .tuple #[.agg #[.slice none 0 0, .slice none 0 0], .int .i64 0]) (by simp [results, Tryd.results14, go_sem]) rfl ?_
    rw [HR.out]
    exact RET.no (below_step (below_alloc _ _) (below_alloc _ _))
  · have g1 : s.toList.isEmpty = false := by rw [(str_empty2 s).1]; exact decide_eq_false hempty
    have g2 : ¬ s.toList = [] := fun h => hempty ((str_empty2 s).2.2.1 h)
    have hmm := @run_makeMap Tryd.prog
    go_enter Tryd.func14, Tryd.ntmps14
    go_wp2_with fail
    clear hmm g1 g2
    have hw2 : ((w.alloc (.cells #[.slice none 0 0, .slice none 0 0] 25)).alloc (.cells #[.slice none 0 0, .slice none 0 0] 25)).heap.size = w.heap.size + 1 + 1 := by simp
    have XR := Lib.hid ((box_new (W := w) (g := w.heap.size) 25 #[.slice none 0 0, .slice none 0 0] (by simp)).below (below_alloc _ (.cells #[.slice none 0 0, .slice none 0 0] 25)))
    have XT := Lib.hid (box_new (W := (w.alloc (.cells #[.slice none 0 0, .slice none 0 0] 25))) (g := w.heap.size + 1) 25 #[.slice none 0 0, .slice none 0 0] (by simp))
    have HB := Lib.hid (below_step (below_alloc w (.cells #[.slice none 0 0, .slice none 0 0] 25)) (below_alloc (w.alloc (.cells #[.slice none 0 0, .slice none 0 0] 25)) (.cells #[.slice none 0 0, .slice none 0 0] 25)))
    generalize (w.alloc (.cells #[.slice none 0 0, .slice none 0 0] 25)).alloc (.cells #[.slice none 0 0, .slice none 0 0] 25) = w1 at *
    have SE : Hid (Seen (w1.alloc (.map #[] 0)) (w.heap.size + 1 + 1) []) := Lib.hid (by have := Seen.new w1; rwa [hw2] at this)
    have HZ : Hid ((w1.alloc (.map #[] 0)).heap.size = w.heap.size + 1 + 1 + 1) := Lib.hid (by simp [hw2])
    replace XR := Lib.hid (XR.out.below (below_alloc _ (.map #[] 0)))
    replace XT := Lib.hid (XT.out.below (below_alloc _ (.map #[] 0)))
    replace HB := Lib.hid (below_step HB.out (below_alloc w1 (.map #[] 0)))
    generalize w1.alloc (.map #[] 0) = w2 at *
    clear hw2
    refine (C0.out _ (HM.out.below HB.out)).mono ?_; rintro e w3 ⟨c, rfl, hbx, hb⟩
    rw [HZ.out] at hbx ⊢
    have XW := Lib.hid hbx
    replace XR := Lib.hid (XR.out.below hb)
    replace XT := Lib.hid (XT.out.below hb)
    replace SE := Lib.hid (SE.out.below hb)
    replace HB := Lib.hid (below_step HB.out hb)
    clear hb hbx C0 HZ
    obtain ⟨a, ha⟩ : ∃ a : Addr, a = ⟨w.heap.size + 1 + 1 + 1, 0, none⟩ := ⟨_, rfl⟩
    rw [← ha]
    have HA := Lib.hid ha
    have HR : Hid (parseT s = if (prsRun (words 32 s) [] []).2.2 = 0 ∧ 128 < (prsRun (words 32 s) [] []).1.length then ([], [], 2) else prsRun (words 32 s) [] []) := Lib.hid (by unfold parseT; rw [if_neg hempty])
    have HSZ : Hid (∀ p ∈ words 32 s, p.size ≤ 2000000) := Lib.hid fun p hp => Nat.le_trans (words_size 32 s.size s (Nat.le_refl _) p hp) hs
    have hlen : (words 32 s).length ≤ 2000001 := Nat.le_trans (words_le 32 s) (by omega)
    generalize words 32 s = WS at *
    obtain ⟨N, hN⟩ : ∃ N, N = WS.length := ⟨_, rfl⟩
    rw [← hN] at hlen ⊢
    have HN := Lib.hid hN
    clear hN ha hempty hs
    go_wp2_with fail
    go_loopw [18] (fun i wr => ∃ (k : Nat) (v1 v2 : Value) (ns : List ByteArray) (zs : List Int), k ≤ N ∧ i = .int .i64 k ∧ Hid (ns.length = k ∧ zs.length = k) ∧ Hid (prsRun WS [] [] = prsRun (WS.drop k) ns zs) ∧ Box wr w.heap.size #[.slice none 0 0, .slice none 0 0] 25 ∧ Box wr (w.heap.size + 1) #[v1, v2] 25 ∧ Seen wr (w.heap.size + 1 + 1) ns ∧ Box wr (w.heap.size + 1 + 1 + 1) (scells WS).toArray 9 ∧ wr.ownsRow (w.heap.size + 1 + 1 + 1 + 1) 9 1 v1 k (scells ns) ∧ wr.ownsRow (w.heap.size + 1 + 1 + 1 + 1) 3 1 v2 k (icells zs) ∧ Below w.heap.size w wr) (fun i _ => N - (intOf i).toNat)
    case atStart => exact ⟨0, _, _, [], [], Nat.zero_le _, rfl, Lib.hid ⟨rfl, rfl⟩, Lib.hid rfl, XR.out, XT.out, SE.out, XW.out, World.ownsRow_nil _ _ _ _, World.ownsRow_nil _ _ _ _, HB.out⟩
    case round =>
      obtain ⟨k, v1, v2, ns, zs, hk, rfl, HL, HP, hxr, hxt, hse, hxw, ho1, ho2, hb⟩ := hrel
      clear XR XT SE XW HB
      have XR := Lib.hid hxr
      have XT := Lib.hid hxt
      have SE := Lib.hid hse
      have XW := Lib.hid hxw
      have O1 := Lib.hid ho1
      have O2 := Lib.hid ho2
      have HB := Lib.hid hb
      clear hxr hxt hse hxw ho1 ho2 hb
      by_cases hlt : k < N
      · have hlt2 : (k : Int) < N := by omega
        have hkn : k < WS.length := by rw [← HN.out]; exact hlt
        have hr1 : RS wr a WS := by rw [HA.out]; exact RS.of_box XW.out
        have q1 := hr1.cells k hkn
        have HP2 := Lib.hid (prs_step hkn HP.out)
        have hxs := HSZ.out _ (getD_mem ⟨#[]⟩ hkn)
        have CP := Lib.hid (fun w h h' => txnPart (WS.getD k ⟨#[]⟩) w hxs h h')
        have HBAD := Lib.hid (@prs_bad (WS.getD k ⟨#[]⟩) (WS.drop (k + 1)) ns zs)
        have HDUP := Lib.hid (@prs_dup (WS.getD k ⟨#[]⟩) (WS.drop (k + 1)) ns zs)
        have HGO := Lib.hid (@prs_go (WS.getD k ⟨#[]⟩) (WS.drop (k + 1)) ns zs)
        have hns := partT_size hxs
        generalize partT (WS.getD k ⟨#[]⟩) = pr at *
        generalize WS.getD k ⟨#[]⟩ = x at *
        clear hr1 hkn HP hxs
        obtain ⟨n, v, er⟩ := pr
        simp only [ret3p] at CP HBAD HDUP HGO hns
        have hlk := fun W (h : Seen W (w.heap.size + 1 + 1) ns) => h.lookup n (by unfold maxLen; omega) rfl
        have HLK := Lib.hid hlk
        have hup : Hid (∀ W, Seen W (w.heap.size + 1 + 1) ns → ∃ w', (Instr.mapUpdate 52 (.map (some (w.heap.size + 1 + 1))) (.string n) (.bool true)).run Tryd.prog W = .ok () w' ∧ Seen w' (w.heap.size + 1 + 1) (ns ++ [n]) ∧ W.grownBy w' (some (w.heap.size + 1 + 1))) :=
          Lib.hid fun W h => h.update n (by unfold maxLen; omega) (by rw [HL.out.1]; unfold maxLen; omega)
        clear hlk
        generalize Lib.containsS ns n = dup at *
        by_cases her : er = 0
        case neg =>
          have HRR : Hid (parseT s = ([], [], er)) := Lib.hid (by rw [HR.out, HP2.out, HBAD.out her]; exact if_neg (fun h => her h.1))
          have f1 : (er == 0) = false := by simpa using her
          have f2 : (er != 0) = true := by simpa using her
          clear HBAD HDUP HGO her hup HLK
          go_wp2_with fail
          clear q1
          refine (CP.out _ (HK.out.below HB.out) (HM.out.below HB.out)).mono ?_; rintro e w4 ⟨rfl, hb⟩
          replace XR := Lib.hid (XR.out.below hb)
          replace XT := Lib.hid (XT.out.below hb)
          replace HB := Lib.hid (below_step HB.out hb)
          clear hb
          have XR_0 := XR.out.at_ 0 _ rfl
          have XR_1 := XR.out.at_ 1 _ rfl
          have XR_l := XR.out.lt
          have XR_z0 := XR.out.frozen 0
          have XR_z1 := XR.out.frozen 1
          go_wp2_with fail
          refine bodyPost_ret (v := .tuple #[.agg #[.slice none 0 0, .slice none 0 0], .int .i64 er]) (by simp [results, Tryd.results14, go_sem, XR_0, XR_1, XR_l]) rfl ?_
          rw [HRR.out]
          exact RET.no (below_z2 HB.out _)
        subst her
        cases dup
        case true =>
          have HRR : Hid (parseT s = ([], [], 8)) := Lib.hid (by rw [HR.out, HP2.out, HDUP.out rfl rfl]; exact if_neg (fun h => absurd h.1 (by decide)))
          clear HBAD HDUP HGO hup
          go_wp2_with fail
          clear q1
          refine (CP.out _ (HK.out.below HB.out) (HM.out.below HB.out)).mono ?_; rintro e w4 ⟨rfl, hb⟩
          replace XR := Lib.hid (XR.out.below hb)
          replace XT := Lib.hid (XT.out.below hb)
          replace SE := Lib.hid (SE.out.below hb)
          replace HB := Lib.hid (below_step HB.out hb)
          clear hb
          have hlk := HLK.out (w4.alloc (.cells #[.string n, .int .i64 v] 55)) (SE.out.below (below_alloc _ _))
          have XR_0 := XR.out.at_ 0 _ rfl
          have XR_1 := XR.out.at_ 1 _ rfl
          have XR_l := XR.out.lt
          have XR_z0 := XR.out.frozen 0
          have XR_z1 := XR.out.frozen 1
          go_wp2_with fail
          refine bodyPost_ret (v := .tuple #[.agg #[.slice none 0 0, .slice none 0 0], .int .i64 8]) (by simp [results, Tryd.results14, go_sem, XR_0, XR_1, XR_l]) rfl ?_
          rw [HRR.out]
          exact RET.no (below_z2 HB.out _)
        · have HP3 := Lib.hid (HP2.out.trans (HGO.out rfl rfl))
          clear HBAD HDUP HGO HP2
          go_wp2_with fail
          clear q1
          refine (CP.out _ (HK.out.below HB.out) (HM.out.below HB.out)).mono ?_; rintro e w4 ⟨rfl, hb⟩
          replace O1 := Lib.hid (own_below O1.out hb)
          replace O2 := Lib.hid (own_below O2.out hb)
          replace XR := Lib.hid (XR.out.below hb)
          replace XT := Lib.hid (XT.out.below hb)
          replace SE := Lib.hid (SE.out.below hb)
          replace XW := Lib.hid (XW.out.below hb)
          replace HB := Lib.hid (below_step HB.out hb)
          clear hb
          have hlk := HLK.out (w4.alloc (.cells #[.string n, .int .i64 v] 55)) (SE.out.below (below_alloc _ _))
          obtain ⟨w5, hu, hs5, hg5⟩ := hup.out (w4.alloc (.cells #[.string n, .int .i64 v] 55)) (SE.out.below (below_alloc _ _))
          have hbig : w.heap.size + 1 + 1 + 1 < w4.heap.size := XW.out.lt
          have XP := Lib.hid ((Box.new w4 55 #[.string n, .int .i64 v]).grown hg5 (by omega))
          replace XR := Lib.hid ((XR.out.below (below_alloc _ _)).grown hg5 (by omega))
          replace XT := Lib.hid ((XT.out.below (below_alloc _ _)).grown hg5 (by omega))
          replace XW := Lib.hid ((XW.out.below (below_alloc _ _)).grown hg5 (by omega))
          replace O1 := Lib.hid (own_keptM (O1.out.alloc _) (by omega) hg5)
          replace O2 := Lib.hid (own_keptM (O2.out.alloc _) (by omega) hg5)
          replace HB := Lib.hid (below_up (HB.out.alloc HB.out.size _) hg5 (by omega))
          replace SE := Lib.hid hs5
          have HBIG := Lib.hid hbig
          clear hs5 hg5 hup HLK hbig
          have XT_0 := XT.out.at_ 0 _ rfl
          have XP_0 := XP.out.at_ 0 _ rfl
          go_wp2_with (at_builtin; refine wpList_append_own _ rfl _ _ 22 rfl (w.heap.size + 1 + 1 + 1 + 1) 9 i0 (.string ⟨#[]⟩) 1 16 Tryd.underlying22 HI.out HZ0.out HZ1.out HZ2.out rfl (by decide) v1 k (scells ns) rfl (O1.out.alloc _) ⟨w5.heap.size, 0, none⟩ 1 1 [.string n] rfl rfl ?c1 ?c2 ?c3 ?c4 ?c5 ?_)
          case c1 => exact news1
          case c2 => intro u hu; simp at hu; subst hu; rfl
          case c3 => unfold maxLen; omega
          case c4 => omega
          case c5 => have := HBIG.out; have := HB.out.size; have := XP.out.lt; simp; omega
          intro v3 w6 hown6 hgrow _
          clear XT_0 XP_0
          have O3 : Hid (w6.ownsRow (w.heap.size + 1 + 1 + 1 + 1) 9 1 v3 (k + 1) (scells (ns ++ [n]))) := Lib.hid (by rw [show scells (ns ++ [n]) = scells ns ++ [.string n] by simp [scells]]; exact hown6)
          replace XR := Lib.hid (XR.out.keptB O1.out (by omega) hgrow)
          replace XT := Lib.hid (XT.out.keptB O1.out (by omega) hgrow)
          replace XW := Lib.hid (XW.out.keptB O1.out (by omega) hgrow)
          replace SE := Lib.hid (SE.out.keptB O1.out (by omega) hgrow)
          replace XP := Lib.hid (XP.out.keptT O1.out (by decide) hgrow)
          replace O2 := Lib.hid (own_keptT O2.out O1.out (by decide) hgrow)
          replace HB := Lib.hid (below_grownB HB.out HB.out.size (by omega) O1.out hgrow)
          clear hown6 hgrow hu hlk O1
          obtain ⟨A3, c3, rfl, _, _⟩ := SL.of_own O3.out
          have hlen3 : (ns ++ [n]).length = k + 1 := by simp [HL.out.1]
          rw [hlen3] at O3 ⊢
          have z1 : (w6.setCell ⟨w.heap.size + 1, 0, none⟩ (.slice A3 (k + 1) c3)).cell? ⟨w4.heap.size, 1, none⟩ = some (.int .i64 v) := (XP.out.setNe (p := ⟨w.heap.size + 1, 0, none⟩) (by have := HBIG.out; show w.heap.size + 1 ≠ w4.heap.size; omega) _).at_ 1 _ rfl
          have XT_0 := XT.out.at_ 0 _ rfl
          have XT_1 := XT.out.at_ 1 _ rfl
          have XT_l := XT.out.lt
          have XT_z0 := XT.out.frozen 0
          have XT_z1 := XT.out.frozen 1
          have O2A := Lib.hid ((own_setNe (g := w.heap.size + 1) (a := ⟨w.heap.size + 1, 0, none⟩) (u := .slice A3 (k + 1) c3) O2.out rfl (by omega)).alloc (.cells #[.int .i64 v] 3))
          go_wp2_with (at_builtin; refine wpList_append_own _ rfl _ _ 23 rfl (w.heap.size + 1 + 1 + 1 + 1) 3 i1 (.int .i64 0) 1 8 Tryd.underlying23 JI.out JZ0.out JZ1.out JZ2.out rfl (by decide) v2 k (icells zs) rfl O2A.out _ 1 1 [.int .i64 v] rfl rfl ?c1 ?c2 ?c3 ?c4 ?c5 ?_)
          case c1 =>
            have := @news1 (w6.setCell ⟨w.heap.size + 1, 0, none⟩ (.slice A3 (k + 1) c3)) 3 (.int .i64 v)
            rwa [show (w6.setCell ⟨w.heap.size + 1, 0, none⟩ (.slice A3 (k + 1) c3)).heap.size = w6.heap.size by simp [World.setCell]] at this
          case c2 => intro u hu; simp at hu; subst hu; rfl
          case c3 => unfold maxLen; omega
          case c4 => omega
          case c5 => have := HBIG.out; have := XP.out.lt; simp [World.setCell]; omega
          intro v4 w7 hown7 hgrow _
          clear XT_0 XT_1 XT_l XT_z0 XT_z1
          clear z1
          have hne4 : w.heap.size + 1 ≠ w4.heap.size := by have := HBIG.out; omega
          have O2S : (w6.setCell ⟨w.heap.size + 1, 0, none⟩ (.slice A3 (k + 1) c3)).ownsRow (w.heap.size + 1 + 1 + 1 + 1) 3 1 v2 k (icells zs) := own_setNe (g := w.heap.size + 1) (a := ⟨w.heap.size + 1, 0, none⟩) (u := .slice A3 (k + 1) c3) O2.out rfl (by omega)
          replace XR := Lib.hid ((XR.out.setNe (p := ⟨w.heap.size + 1, 0, none⟩) (by show w.heap.size + 1 ≠ w.heap.size; omega) (.slice A3 (k + 1) c3)).keptB O2S (by omega) hgrow)
          replace XT := Lib.hid ((XT.out.set_ 0 (.slice A3 (k + 1) c3)).keptB O2S (by omega) hgrow)
          replace XW := Lib.hid ((XW.out.setNe (p := ⟨w.heap.size + 1, 0, none⟩) (by show w.heap.size + 1 ≠ w.heap.size + 1 + 1 + 1; omega) (.slice A3 (k + 1) c3)).keptB O2S (by omega) hgrow)
          replace SE := Lib.hid ((SE.out.setNe (a := ⟨w.heap.size + 1, 0, none⟩) (g := w.heap.size + 1) rfl (by omega) (.slice A3 (k + 1) c3)).keptB O2S (by omega) hgrow)
          replace O3 := Lib.hid (own_keptT (own_setNe (g := w.heap.size + 1) (a := ⟨w.heap.size + 1, 0, none⟩) (u := .slice A3 (k + 1) c3) O3.out rfl (by omega)) O2S (by decide) hgrow)
          have O4 : Hid (w7.ownsRow (w.heap.size + 1 + 1 + 1 + 1) 3 1 v4 (k + 1) (icells (zs ++ [v]))) := Lib.hid (by rw [show icells (zs ++ [v]) = icells zs ++ [.int .i64 v] by simp [icells]]; exact hown7)
          have hb6 := HB.out.setCell (p := ⟨w.heap.size + 1, 0, none⟩) (Nat.le_succ _) (.slice A3 (k + 1) c3)
          replace HB := Lib.hid (below_grownB hb6 hb6.size (by omega) O2S hgrow)
          clear hown7 hgrow O2 O2S O2A hb6 XP
          obtain ⟨A4, c4, rfl, _, _⟩ := IL.of_own O4.out
          have hlen4 : (zs ++ [v]).length = k + 1 := by simp [HL.out.2]
          rw [hlen4] at O4 ⊢
          replace XT : Hid (Box w7 (w.heap.size + 1) #[.slice A3 (k + 1) c3, v2] 25) := XT
          have XT_1 := XT.out.at_ 1 _ rfl
          have XT_l := XT.out.lt
          have XT_z1 := XT.out.frozen 1
          go_wp2_with fail
          clear XT_1 XT_l XT_z1
          go_roundw
          case rel =>
            exact ⟨k + 1, _, _, ns ++ [n], zs ++ [v], by omega, by go_num, Lib.hid ⟨hlen3, hlen4⟩, HP3, XR.out.setNe (p := ⟨w.heap.size + 1, 1, none⟩) (by show w.heap.size + 1 ≠ w.heap.size; omega) (.slice A4 (k + 1) c4), XT.out.set_ 1 (.slice A4 (k + 1) c4), SE.out.setNe (a := ⟨w.heap.size + 1, 1, none⟩) (g := w.heap.size + 1) rfl (by omega) (.slice A4 (k + 1) c4), XW.out.setNe (p := ⟨w.heap.size + 1, 1, none⟩) (by show w.heap.size + 1 ≠ w.heap.size + 1 + 1 + 1; omega) (.slice A4 (k + 1) c4),
              own_setNe (g := w.heap.size + 1) (a := ⟨w.heap.size + 1, 1, none⟩) (u := (.slice A4 (k + 1) c4)) O3.out rfl (by omega), own_setNe (g := w.heap.size + 1) (a := ⟨w.heap.size + 1, 1, none⟩) (u := (.slice A4 (k + 1) c4)) O4.out rfl (by omega), HB.out.setCell (p := ⟨w.heap.size + 1, 1, none⟩) (Nat.le_succ _) (.slice A4 (k + 1) c4)⟩
          case measure => simp [intOf]; omega
      · have hkn : k = N := by omega
        have hlt2 : ¬ (k : Int) < N := by omega
        have HPE : Hid (prsRun WS [] [] = (ns, zs, 0)) := Lib.hid (by rw [HP.out, List.drop_of_length_le (by rw [hkn, HN.out]; exact Nat.le_refl _), prs_nil])
        obtain ⟨A1, c1, rfl, hc1, hz1⟩ := SL.of_own O1.out
        obtain ⟨A2, c2, rfl, hc2, hz2⟩ := IL.of_own O2.out
        rw [HL.out.1] at O1
        rw [HL.out.2] at O2
        rw [HL.out.1, HL.out.2] at XT
        clear hz1 hz2 hc1 hc2
        by_cases hbig : 128 < k
        · have HRR : Hid (parseT s = ([], [], 2)) := Lib.hid (by rw [HR.out, HPE.out]; exact if_pos ⟨rfl, by show 128 < ns.length; rw [HL.out.1]; exact hbig⟩)
          have f1 : (128 : Int) < k := by omega
          clear hbig HP HPE hkn
          have XT_0 := XT.out.at_ 0 _ rfl
          have XT_1 := XT.out.at_ 1 _ rfl
          have XR_0 := XR.out.at_ 0 _ rfl
          have XR_1 := XR.out.at_ 1 _ rfl
          have XR_l := XR.out.lt
          have XR_z0 := XR.out.frozen 0
          have XR_z1 := XR.out.frozen 1
          go_wp2_with fail
          refine bodyPost_ret (v := .tuple #[.agg #[.slice none 0 0, .slice none 0 0], .int .i64 2]) (by simp [results, Tryd.results14, go_sem, XR_0, XR_1, XR_l]) rfl ?_
          rw [HRR.out]
          exact RET.no ((HB.out.setCell (p := ⟨w.heap.size, 0, none⟩) (Nat.le_refl _) (.slice none 0 0)).setCell (p := ⟨w.heap.size, 1, none⟩) (Nat.le_refl _) (.slice none 0 0))
        · have HRR : Hid (parseT s = (ns, zs, 0)) := Lib.hid (by rw [HR.out, HPE.out]; exact if_neg (fun h => by have h2 : 128 < ns.length := h.2; rw [HL.out.1] at h2; exact hbig h2))
          have f1 : ¬ (128 : Int) < k := by omega
          clear hbig HP HPE hkn
          have XT_0 := XT.out.at_ 0 _ rfl
          have XT_1 := XT.out.at_ 1 _ rfl
          have XR_0 := XR.out.at_ 0 _ rfl
          have XR_1 := XR.out.at_ 1 _ rfl
          have XR_l := XR.out.lt
          have XR_z0 := XR.out.frozen 0
          have XR_z1 := XR.out.frozen 1
          go_wp2_with fail
          refine bodyPost_ret (v := .tuple #[.agg #[.slice A1 k c1, .slice A2 k c2], .int .i64 0]) (by simp [results, Tryd.results14, go_sem, XR_0, XR_1, XR_l]) rfl ?_
          rw [HRR.out]
          refine ⟨_, _, rfl, ?_, ?_, (HB.out.setCell (p := ⟨w.heap.size, 0, none⟩) (Nat.le_refl _) (.slice A1 k c1)).setCell (p := ⟨w.heap.size, 1, none⟩) (Nat.le_refl _) (.slice A2 k c2)⟩
          · exact SL.of_own (own_setNe (g := w.heap.size) (a := ⟨w.heap.size, 1, none⟩) (u := .slice A2 k c2) (own_setNe (g := w.heap.size) (a := ⟨w.heap.size, 0, none⟩) (u := .slice A1 k c1) O1.out rfl (by omega)) rfl (by omega))
          · exact IL.of_own (own_setNe (g := w.heap.size) (a := ⟨w.heap.size, 1, none⟩) (u := .slice A2 k c2) (own_setNe (g := w.heap.size) (a := ⟨w.heap.size, 0, none⟩) (u := .slice A1 k c1) O2.out rfl (by omega)) rfl (by omega))

end Go.Proofs.YtbjcbndmafddoaaDoor

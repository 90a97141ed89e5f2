/-
  Walk of the law TxnParses.
-/
import Derived.Test.YtbjcbndmafddoaaDoorTxD
import Derived.Test.YtbjcbndmafddoaaDoorTxE
namespace Go.Proofs.YtbjcbndmafddoaaDoor
section
open Go.RowKit
set_option linter.unusedVariables false
set_option linter.unusedSimpArgs false

theorem part_back {x n : ByteArray} {v : Int} (h : partT x = (n, v, 0)) : (n ++ ⟨#[61]⟩) ++ fmtS v = x ∧ varB n = true ∧ wordB v = true := by
  rcases part_ways x with ⟨_, hr⟩ | ⟨_, _, hr⟩ | ⟨_, _, he, hr⟩ | ⟨_, _, _, _, hr⟩ | ⟨h1, h2, h3, h4, hr⟩
  · rw [hr] at h; simp at h
  · rw [hr] at h; simp at h
  · rw [hr] at h; simp at h; exact absurd h.2.2 he
  · rw [hr] at h; simp at h
  · rw [hr] at h
    simp only [Prod.mk.injEq, and_true] at h
    obtain ⟨rfl, rfl⟩ := h
    refine ⟨?_, h2, h4⟩
    rw [(fmt_par _ h3).1]
    have hp := ix_parts x.data.toList (of_decide_eq_true h1)
    apply ba_eq
    conv => rhs; rw [hp]
    have e1 : (preB 61 x).data.toList = x.data.toList.take (ix 61 x.data.toList) := by unfold preB; simp
    have e2 : (posB 61 x).data.toList = x.data.toList.drop (ix 61 x.data.toList + 1) := by unfold posB; simp
    rw [← e1, ← e2]
    simp
/-- Names, values and words of a run without an error. -/
theorem run_back : ∀ (l ns : List ByteArray) (zs : List Int) (ms : List ByteArray) (ys : List Int), prsRun l ns zs = (ms, ys, 0) → ns.length = zs.length → ns.Nodup → (∀ s ∈ ns, varB s = true) → (∀ z ∈ zs, wordB z = true) →
    ms.length = ys.length ∧ ms.length = ns.length + l.length ∧ ms.Nodup ∧ (∀ s ∈ ms, varB s = true) ∧ (∀ z ∈ ys, wordB z = true) ∧ (prs ms ys).map pstr = (prs ns zs).map pstr ++ l
  | [], ns, zs, ms, ys, h, hl, h1, h2, h3 => by
    rw [prs_nil] at h
    simp only [Prod.mk.injEq, and_true] at h
    obtain ⟨rfl, rfl⟩ := h
    exact ⟨hl, by simp, h1, h2, h3, by simp⟩
  | x :: l, ns, zs, ms, ys, h, hl, h1, h2, h3 => by
    by_cases he : (partT x).2.2 = 0
    · cases hd : Lib.containsS ns (partT x).1
      · rw [prs_go he hd] at h
        have hb := part_back (x := x) (n := (partT x).1) (v := (partT x).2.1) (by rw [← he])
        have hno : (partT x).1 ∉ ns := fun hm => by rw [(Lib.containsS_iff _ _).2 hm] at hd; cases hd
        obtain ⟨a, b, c, d, e, f⟩ := run_back l _ _ ms ys h (by simp [hl]) (by
          rw [List.nodup_append]
          exact ⟨h1, by simp, fun p hp q hq => by simp at hq; subst hq; exact fun hh => hno (hh ▸ hp)⟩) (fun s hs => by
          rcases List.mem_append.1 hs with hs | hs
          · exact h2 s hs
          · simp at hs; rw [hs]; exact hb.2.1) (fun z hz => by
          rcases List.mem_append.1 hz with hz | hz
          · exact h3 z hz
          · simp at hz; rw [hz]; exact hb.2.2)
        refine ⟨a, by rw [b]; simp; omega, c, d, e, ?_⟩
        rw [f]
        have : prs (ns ++ [(partT x).1]) (zs ++ [(partT x).2.1]) = prs ns zs ++ [((partT x).1, (partT x).2.1)] := by
          unfold prs; rw [List.zip_append hl]; rfl
        rw [this, List.map_append, List.append_assoc]
        congr 1
        show pstr ((partT x).1, (partT x).2.1) :: l = x :: l
        unfold pstr
        rw [hb.1]
      · rw [prs_dup he hd] at h
        simp at h
    · rw [prs_bad he] at h
      simp at h
      exact absurd h.2.2 he
theorem joinL_join (b : UInt8) : ∀ ps : List (List UInt8), Lib.join ps [b] = joinL b ps
  | [] => rfl
  | [p] => Lib.join_one p [b]
  | p :: q :: r => by
    rw [Lib.join_cons, joinL, ← joinL_join b (q :: r), Lib.join_cons]
    simp [Lib.joinTail]
theorem join_words (s : ByteArray) : joinP (words 32 s) = s.data.toList := by
  unfold joinP words
  rw [List.map_map, joinL_join]
  have : (List.map ((fun x => x.data.toList) ∘ mkB) (partsL 32 s.data.toList)) = partsL 32 s.data.toList := by
    conv => rhs; rw [← List.map_id (partsL 32 s.data.toList)]
    congr 1
  rw [this, join_parts]
/-- The text of what Parse gives. -/
theorem parse_back {s : ByteArray} {ns : List ByteArray} {zs : List Int} (h : parseT s = (ns, zs, 0)) : txV ns zs = true ∧ printT ns zs = s ∧ joinP ((prs ns zs).map pstr) = s.data.toList := by
  unfold parseT at h
  by_cases h0 : s.size = 0
  · rw [if_pos h0] at h
    simp only [Prod.mk.injEq, and_true] at h
    obtain ⟨rfl, rfl⟩ := h
    have hv : txV [] [] = true := by decide
    have hs : s.data.toList = [] := List.eq_nil_of_length_eq_zero (by rw [← Lib.size_eq]; exact h0)
    have hj : joinP ((prs [] []).map pstr) = s.data.toList := by rw [hs]; rfl
    exact ⟨hv, by unfold printT; rw [if_pos hv, hj], hj⟩
  · rw [if_neg h0] at h
    by_cases h1 : (prsRun (words 32 s) [] []).2.2 = 0 ∧ 128 < (prsRun (words 32 s) [] []).1.length
    · rw [if_pos h1] at h; simp at h
    · rw [if_neg h1] at h
      obtain ⟨a, b, c, d, e, f⟩ := run_back _ _ _ ns zs h rfl (by simp) (by simp) (by simp)
      rw [h] at h1
      have hv : txV ns zs = true := decide_eq_true ⟨a, by
        by_cases hh : 128 < ns.length
        · exact absurd ⟨rfl, hh⟩ h1
        · omega, c, d, e⟩
      have hj : joinP ((prs ns zs).map pstr) = s.data.toList := by rw [f, ← join_words]; rfl
      exact ⟨hv, by unfold printT; rw [if_pos hv, hj], hj⟩
end
open Go.RowKit
set_option linter.unusedVariables false
set_option linter.unusedSimpArgs false

theorem run_len : ∀ (l ns : List ByteArray) (zs : List Int), (prsRun l ns zs).1.length ≤ ns.length + l.length ∧ (prsRun l ns zs).2.1.length ≤ zs.length + l.length ∧ ((∀ n ∈ ns, n.size ≤ 3000) → (∀ x ∈ l, x.size ≤ 3000) → ∀ n ∈ (prsRun l ns zs).1, n.size ≤ 3000)
  | [], ns, zs => by rw [prs_nil]; exact ⟨by simp, by simp, fun h _ => h⟩
  | x :: l, ns, zs => by
    by_cases he : (partT x).2.2 = 0
    · cases hd : Lib.containsS ns (partT x).1
      · rw [prs_go he hd]
        obtain ⟨a, b, c⟩ := run_len l (ns ++ [(partT x).1]) (zs ++ [(partT x).2.1])
        simp only [List.length_append, List.length_cons, List.length_nil] at a b ⊢
        refine ⟨by omega, by omega, fun h1 h2 => c (fun n hn => ?_) (fun y hy => h2 y (List.mem_cons_of_mem _ hy))⟩
        rcases List.mem_append.1 hn with hn | hn
        · exact h1 n hn
        · simp at hn
          rw [hn]
          have hx := h2 x (List.mem_cons_self ..)
          have k1 := preB_size 61 x
          have k2 := ix_le (b := 61) x.data.toList
          rw [← Lib.size_eq] at k2
          rcases part_ways x with ⟨_, hr⟩ | ⟨_, _, hr⟩ | ⟨_, _, _, hr⟩ | ⟨_, _, _, _, hr⟩ | ⟨_, _, _, _, hr⟩ <;> rw [hr]
          all_goals first | (show (ByteArray.mk #[]).size ≤ 3000; decide) | (show (preB 61 x).size ≤ 3000; omega)
      · rw [prs_dup he hd]; exact ⟨by simp, by simp, fun _ _ => by simp⟩
    · rw [prs_bad he]; exact ⟨by simp, by simp, fun _ _ => by simp⟩
theorem parse_len (s : ByteArray) (h : s.size ≤ 3000) : (parseT s).1.length ≤ 1000000 ∧ (parseT s).2.1.length ≤ 1000000 ∧ ((parseT s).2.2 = 0 → ∀ n ∈ (parseT s).1, n.size ≤ 2000000) := by
  obtain ⟨a, b, c⟩ := run_len (words 32 s) [] []
  have hw := words_le 32 s
  simp only [List.length_nil, Nat.zero_add] at a b
  unfold parseT
  split
  · exact ⟨by simp, by simp, fun _ => by simp⟩
  · split
    · exact ⟨by simp, by simp, fun _ => by simp⟩
    · exact ⟨by omega, by omega, fun _ n hn => Nat.le_trans (c (by simp) (fun x hx => Nat.le_trans (words_size 32 s.size s (Nat.le_refl _) x hx) h) n hn) (by decide)⟩
theorem sameT_rfl (ns : List ByteArray) (zs : List Int) : sameT ns zs ns zs = true := by simp [sameT]
set_option maxRecDepth 100000 in
set_option maxHeartbeats 8000000 in
theorem walkTxnParses (s : ByteArray) (hs : s.size ≤ maxLen) (w : World) (ht : Tab w) (hm : MLen w) (hk : KW w) :
    Calls Tryd.prog 4 #[.string s] w fun e w' => e = .returned (.bool true) ∧ Below w.heap.size w w' := by
  have HK := Lib.hid hk
  have HM := Lib.hid hm
  have HT := Lib.hid ht
  have CW := Lib.hid (fun W h h' h'' => lawAwake W h h' h'')
  clear hk hm ht
  by_cases hbig : 3000 < s.size
  · have f1 : (3000 : Int) < s.size := by omega
    clear hbig
    go_enter Tryd.func4, Tryd.ntmps4
    go_wp2_with fail
    refine (CW.out _ HK.out HM.out HT.out).mono ?_; rintro e w3 ⟨rfl, hb⟩
    have HB := Lib.hid hb
    clear hb
    go_wp2_with fail
    go_ret
    exact ⟨rfl, HB.out⟩
  have f1 : ¬ (3000 : Int) < s.size := by omega
  have h3 : s.size ≤ 3000 := by omega
  obtain ⟨l1, l2, l3⟩ := parse_len s h3
  have C1 := Lib.hid (fun w h h' => txnParse s w (by omega) h h')
  have C2 := Lib.hid (fun w => refParseT s w (by omega))
  have HBK := Lib.hid (fun ns zs (h : parseT s = (ns, zs, 0)) => parse_back h)
  unfold RET at C1 C2
  generalize parseT s = r at *
  obtain ⟨ns, zs, er⟩ := r
  simp only at C1 C2 l1 l2 l3
  have CS := Lib.hid (fun W v1 v2 v3 v4 h1 h2 h3 h4 => refSame W v1 v2 v3 v4 ns zs ns zs h1 h2 h3 h4 (by omega) (by omega) (by omega) (by omega))
  rw [sameT_rfl] at CS
  have b0 : (er == er) = true := by simp
  have hjl : er = 0 → (joinP ((prs ns zs).map pstr)).length ≤ 140737488355328 := fun h => by
    have := (HBK.out ns zs (by rw [h])).2.2
    rw [this, ← Lib.size_eq]; omega
  have CP := Lib.hid (fun (h0 : er = 0) W v1 v2 h1 h2 hk hm ht => (show Calls Tryd.prog 17 #[.agg #[v1, v2]] W (fun e w' => e = .returned (.string s) ∧ Below W.heap.size W w') from by
    have := txnPrint W v1 v2 ns zs h1 h2 (l3 h0) (by omega) (by omega) (hjl h0) hk hm ht
    rwa [(HBK.out ns zs (by rw [h0])).2.1] at this))
  clear hbig h3 hjl HBK
  go_enter Tryd.func4, Tryd.ntmps4
  go_wp2_with fail
  refine (C1.out _ HK.out HM.out).mono ?_; rintro e w1 ⟨v1, v2, rfl, h1, h2, hb⟩
  have HB := Lib.hid hb
  have HS1 := Lib.hid h1
  have HS2 := Lib.hid h2
  obtain ⟨A1, c1, rfl, _, _⟩ := h1
  obtain ⟨A2, c2, rfl, _, _⟩ := h2
  clear hb
  go_wp2_with fail
  have XA := Lib.hid (box_new (W := w1) (g := w1.heap.size) 25 #[.slice A1 ns.length c1, .slice A2 zs.length c2] (by simp))
  have hba := (below_alloc w1 (.cells #[.slice A1 ns.length c1, .slice A2 zs.length c2] 25))
  replace HS1 := Lib.hid (HS1.out.below hba)
  replace HS2 := Lib.hid (HS2.out.below hba)
  replace HB := Lib.hid (below_step HB.out hba)
  clear hba
  generalize w1.alloc (.cells #[.slice A1 ns.length c1, .slice A2 zs.length c2] 25) = w2 at *
  refine (C2.out _).mono ?_; rintro e w3 ⟨v3, v4, rfl, h3, h4, hb⟩
  replace HS1 := Lib.hid (HS1.out.below hb)
  replace HS2 := Lib.hid (HS2.out.below hb)
  replace XA := Lib.hid (XA.out.below hb)
  replace HB := Lib.hid (below_step HB.out hb)
  clear hb
  have HS3 := Lib.hid h3
  have HS4 := Lib.hid h4
  obtain ⟨A3, c3, rfl, _, _⟩ := h3
  obtain ⟨A4, c4, rfl, _, _⟩ := h4
  have bs : (s.toList == s.toList) = true := by simp
  by_cases her : er = 0
  · subst her
    have XA_0 := XA.out.at_ 0 _ rfl
    have XA_1 := XA.out.at_ 1 _ rfl
    have XA_l := XA.out.lt
    go_wp2_with fail
    clear XA_0 XA_1 XA_l
    have XB := Lib.hid (box_new (W := w3) (g := w3.heap.size) 25 #[.slice A3 ns.length c3, .slice A4 zs.length c4] (by simp))
    have hba := (below_alloc w3 (.cells #[.slice A3 ns.length c3, .slice A4 zs.length c4] 25))
    replace XA := Lib.hid (XA.out.below hba)
    replace HS1 := Lib.hid (HS1.out.below hba)
    replace HS2 := Lib.hid (HS2.out.below hba)
    replace HS3 := Lib.hid (HS3.out.below hba)
    replace HS4 := Lib.hid (HS4.out.below hba)
    replace HB := Lib.hid (below_step HB.out hba)
    clear hba
    generalize w3.alloc (.cells #[.slice A3 ns.length c3, .slice A4 zs.length c4] 25) = w4 at *
    refine (CS.out _ _ _ _ _ HS1.out HS2.out HS3.out HS4.out).mono ?_; rintro e w5 ⟨rfl, hb⟩
    replace XA := Lib.hid (XA.out.below hb)
    replace HS1 := Lib.hid (HS1.out.below hb)
    replace HS2 := Lib.hid (HS2.out.below hb)
    replace HS3 := Lib.hid (HS3.out.below hb)
    replace HS4 := Lib.hid (HS4.out.below hb)
    replace XB := Lib.hid (XB.out.below hb)
    replace HB := Lib.hid (below_step HB.out hb)
    clear hb
    have XA_0 := XA.out.at_ 0 _ rfl
    have XA_1 := XA.out.at_ 1 _ rfl
    go_wp2_with fail
    clear XA_0 XA_1
    refine (CP.out (by first | trivial | rfl) _ _ _ HS1.out HS2.out (HK.out.below HB.out) (HM.out.below HB.out) (HT.out.below HB.out)).mono ?_; rintro e w6 ⟨rfl, hb⟩
    replace XA := Lib.hid (XA.out.below hb)
    replace HS1 := Lib.hid (HS1.out.below hb)
    replace HS2 := Lib.hid (HS2.out.below hb)
    replace HS3 := Lib.hid (HS3.out.below hb)
    replace HS4 := Lib.hid (HS4.out.below hb)
    replace XB := Lib.hid (XB.out.below hb)
    replace HB := Lib.hid (below_step HB.out hb)
    clear hb
    go_wp2_with fail
    refine (CW.out _ (HK.out.below HB.out) (HM.out.below HB.out) (HT.out.below HB.out)).mono ?_; rintro e w7 ⟨rfl, hb⟩
    replace XA := Lib.hid (XA.out.below hb)
    replace HS1 := Lib.hid (HS1.out.below hb)
    replace HS2 := Lib.hid (HS2.out.below hb)
    replace HS3 := Lib.hid (HS3.out.below hb)
    replace HS4 := Lib.hid (HS4.out.below hb)
    replace XB := Lib.hid (XB.out.below hb)
    replace HB := Lib.hid (below_step HB.out hb)
    clear hb
    go_wp2_with fail
    go_ret
    exact ⟨rfl, HB.out⟩
  · have f2 : (er != 0) = true := by simpa using her
    have XA_0 := XA.out.at_ 0 _ rfl
    have XA_1 := XA.out.at_ 1 _ rfl
    have XA_l := XA.out.lt
    go_wp2_with fail
    clear XA_0 XA_1 XA_l
    have XB := Lib.hid (box_new (W := w3) (g := w3.heap.size) 25 #[.slice A3 ns.length c3, .slice A4 zs.length c4] (by simp))
    have hba := (below_alloc w3 (.cells #[.slice A3 ns.length c3, .slice A4 zs.length c4] 25))
    replace XA := Lib.hid (XA.out.below hba)
    replace HS1 := Lib.hid (HS1.out.below hba)
    replace HS2 := Lib.hid (HS2.out.below hba)
    replace HS3 := Lib.hid (HS3.out.below hba)
    replace HS4 := Lib.hid (HS4.out.below hba)
    replace HB := Lib.hid (below_step HB.out hba)
    clear hba
    generalize w3.alloc (.cells #[.slice A3 ns.length c3, .slice A4 zs.length c4] 25) = w4 at *
    refine (CS.out _ _ _ _ _ HS1.out HS2.out HS3.out HS4.out).mono ?_; rintro e w5 ⟨rfl, hb⟩
    replace XA := Lib.hid (XA.out.below hb)
    replace HS1 := Lib.hid (HS1.out.below hb)
    replace HS2 := Lib.hid (HS2.out.below hb)
    replace HS3 := Lib.hid (HS3.out.below hb)
    replace HS4 := Lib.hid (HS4.out.below hb)
    replace XB := Lib.hid (XB.out.below hb)
    replace HB := Lib.hid (below_step HB.out hb)
    clear hb
    go_wp2_with fail
    refine (CW.out _ (HK.out.below HB.out) (HM.out.below HB.out) (HT.out.below HB.out)).mono ?_; rintro e w7 ⟨rfl, hb⟩
    replace XA := Lib.hid (XA.out.below hb)
    replace HS1 := Lib.hid (HS1.out.below hb)
    replace HS2 := Lib.hid (HS2.out.below hb)
    replace HS3 := Lib.hid (HS3.out.below hb)
    replace HS4 := Lib.hid (HS4.out.below hb)
    replace XB := Lib.hid (XB.out.below hb)
    replace HB := Lib.hid (below_step HB.out hb)
    clear hb
    go_wp2_with fail
    go_ret
    exact ⟨rfl, HB.out⟩

end Go.Proofs.YtbjcbndmafddoaaDoor

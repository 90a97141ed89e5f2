/-
  Walk of WaveParses.
-/
import Derived.Test.YthpioaboekpjoaaDoorWawA
import Derived.Test.YthpioaboekpjoaaDoorWavY
import Derived.Test.YthpioaboekpjoaaDoorWavG
import Derived.Test.YthpioaboekpjoaaDoorWavP
namespace Go.Proofs.YthpioaboekpjoaaDoor
open Go.RowKit
set_option linter.unusedVariables false
set_option linter.unusedSimpArgs false

theorem parseW_two (s : ByteArray) : (parseW s).2.2 = 0 ∨ ∃ c : Int, c ≠ 0 ∧ parseW s = ([], [], c) := by
  unfold parseW
  by_cases h1 : endB s = true
  · rw [if_pos h1]
    by_cases h2 : hdrT (lineW ((words 10 (cutS s)).getD 0 ⟨#[]⟩)) = 0
    · rw [if_pos h2]
      by_cases h3 : (rowsR (lineW ((words 10 (cutS s)).getD 0 ⟨#[]⟩)).length (words 10 (cutS s)).tail []).2 = 0
      · rw [if_pos h3]; exact .inl rfl
      · rw [if_neg h3]; exact .inr ⟨_, h3, rfl⟩
    · rw [if_neg h2]; exact .inr ⟨_, h2, rfl⟩
  · rw [if_neg h1]; exact .inr ⟨5, by decide, rfl⟩
theorem wz_valid {ns : List ByteArray} {rs : List (List Int)} (h : WvV ns rs) : WZ ns rs := by
  obtain ⟨h1, h2, h3, h4⟩ := h
  exact ⟨by omega, by omega, fun s hs => by have := var_size (h3.2 s hs); omega, fun r hr => by rw [(h4 r hr).1]; omega⟩
set_option maxRecDepth 100000 in
set_option maxHeartbeats 16000000 in
theorem walkWaveParses (s : ByteArray) (hs : s.size ≤ maxLen) (w : World) (ht : Tab w) (hm : MLen w) (hk : KW w) :
    Calls Tryd.prog 3 #[.string s] w fun e w' => e = .returned (.bool true) ∧ Below w.heap.size w w' := by
  have CW := Lib.hid (fun W (hW : Below w.heap.size w W) => lawAwakeW W (hk.below hW) (hm.below hW) (ht.below hW))
  by_cases hbig : 4000 < s.size
  · have f1 : (4000 : Int) < s.size := by omega
    have HB0 := Lib.hid (Below.refl w.heap.size w)
    clear hbig
    go_enter Tryd.func3, Tryd.ntmps3
    go_wp2_with fail
    refine (CW.out _ HB0.out).mono ?_; rintro e w3 ⟨rfl, hb⟩
    have HB := Lib.hid hb
    clear hb
    go_wp2_with fail
    go_ret
    exact ⟨rfl, HB.out⟩
  have f1 : ¬ (4000 : Int) < s.size := by omega
  have h3 : s.size ≤ 4000 := by omega
  have C1 := Lib.hid (wavParse s w (by omega) hk hm)
  have C2 := Lib.hid (fun W => refParseW s W (by omega))
  have hway := parseW_two s
  have HV : Hid ((parseW s).2.2 = 0 → WZ (parseW s).1 (parseW s).2.1 ∧ printW (parseW s).1 (parseW s).2.1 = s ∧ (printL (parseW s).1 (parseW s).2.1).length ≤ 140737488355328) := Lib.hid fun h => ⟨wz_valid (parseW_valid h), parseW_print h, by rw [parseW_back h, ← Lib.size_eq]; omega⟩
  generalize parseW s = r at *
  clear hbig
  unfold PARW at C1 C2
  have B1 : (r.2.2 == r.2.2) = true := by simp
  rcases hway with h0 | ⟨c, hc, rfl⟩
  · obtain ⟨hz, hpr, hpl⟩ := HV.out h0
    have CS := Lib.hid (fun W u1 u2 u3 u4 a b c d => same_par (W := W) (r := r) (u1 := u1) (u2 := u2) (u3 := u3) (u4 := u4) a b c d hz)
    have CP := Lib.hid (fun W (hW : Below w.heap.size w W) v1 v2 h1 h2 => (show Calls Tryd.prog 15 #[.agg #[v1, v2]] W (fun e w' => e = .returned (.string s) ∧ Below W.heap.size W w') from by
      have := wavPrint W v1 v2 r.1 r.2.1 h1 h2 hz (fun _ => hpl) (hk.below hW) (hm.below hW) (ht.below hW)
      rwa [hpr] at this))
    have bs : (s.toList == s.toList) = true := by simp
    rw [h0] at C1 C2 B1
    have B2 : ((0 : Int) != 0) = false := rfl
    clear HV hz hpr hpl h3 hk hm ht h0
    go_enter Tryd.func3, Tryd.ntmps3
    go_wp2_with fail
    refine C1.out.mono ?_; rintro e w1 ⟨u1, u2, rfl, s1, s2, hb⟩
    have HB := Lib.hid hb
    have S1 := Lib.hid s1
    have S2 := Lib.hid s2
    obtain ⟨B1', d1, rfl, -⟩ := id s1
    obtain ⟨B2', d2, rfl, -⟩ := s2.slice
    clear s1 s2 C1 hb
    generalize r.1.length = L1 at *
    generalize r.2.1.length = L2 at *
    go_upto_region 4 with fail
    have X7 := Lib.hid (box_new (W := w1) (g := w1.heap.size) 26 #[.slice B1' L1 d1, .slice B2' L2 d2] (by simp))
    have hba := (below_alloc w1 (.cells #[.slice B1' L1 d1, .slice B2' L2 d2] 26))
    replace S1 := Lib.hid (S1.out.below hba)
    replace S2 := Lib.hid (S2.out.below hba)
    replace HB := Lib.hid (below_step HB.out hba)
    clear hba
    generalize w1.alloc (.cells #[.slice B1' L1 d1, .slice B2' L2 d2] 26) = w2 at *
    go_wp2_with fail
    refine (C2.out _).mono ?_; rintro e w3 ⟨u3, u4, rfl, s3, s4, hb⟩
    have S3 := Lib.hid s3
    have S4 := Lib.hid s4
    obtain ⟨B3', d3, rfl, -⟩ := id s3
    obtain ⟨B4', d4, rfl, -⟩ := s4.slice
    clear s3 s4 C2
    replace S1 := Lib.hid (S1.out.below hb)
    replace S2 := Lib.hid (S2.out.below hb)
    replace X7 := Lib.hid (X7.out.below hb)
    replace HB := Lib.hid (below_step HB.out hb)
    clear hb
    generalize r.1.length = L3 at *
    generalize r.2.1.length = L4 at *
    go_upto_region 5 with fail
    have X9 := Lib.hid (box_new (W := w3) (g := w3.heap.size) 26 #[.slice B3' L3 d3, .slice B4' L4 d4] (by simp))
    have hba := (below_alloc w3 (.cells #[.slice B3' L3 d3, .slice B4' L4 d4] 26))
    replace X7 := Lib.hid (X7.out.below hba)
    replace S1 := Lib.hid (S1.out.below hba)
    replace S2 := Lib.hid (S2.out.below hba)
    replace S3 := Lib.hid (S3.out.below hba)
    replace S4 := Lib.hid (S4.out.below hba)
    replace HB := Lib.hid (below_step HB.out hba)
    clear hba
    generalize w3.alloc (.cells #[.slice B3' L3 d3, .slice B4' L4 d4] 26) = w4 at *
    have X7_0 := X7.out.at_ 0 _ rfl
    have X7_1 := X7.out.at_ 1 _ rfl
    have X9_0 := X9.out.at_ 0 _ rfl
    have X9_1 := X9.out.at_ 1 _ rfl
    go_wp2_with fail
    clear X7_0 X7_1 X9_0 X9_1
    refine (CS.out _ _ _ _ _ S1.out S2.out S3.out S4.out).mono ?_; rintro e w5 ⟨rfl, hb⟩
    replace X7 := Lib.hid (X7.out.below hb)
    replace S1 := Lib.hid (S1.out.below hb)
    replace S2 := Lib.hid (S2.out.below hb)
    replace HB := Lib.hid (below_step HB.out hb)
    clear hb
    have X7_0 := X7.out.at_ 0 _ rfl
    have X7_1 := X7.out.at_ 1 _ rfl
    go_wp2_with fail
    clear X7_0 X7_1
    refine (CP.out _ HB.out _ _ S1.out S2.out).mono ?_; rintro e w6 ⟨rfl, hb⟩
    replace HB := Lib.hid (below_step HB.out hb)
    clear hb
    go_wp2_with fail
    refine (CW.out _ HB.out).mono ?_; rintro e w8 ⟨rfl, hb⟩
    replace HB := Lib.hid (below_step HB.out hb)
    clear hb
    go_wp2_with fail
    go_ret
    exact ⟨rfl, HB.out⟩
  · have CS := Lib.hid (fun W u1 u2 u3 u4 a b d e => same_par (W := W) (r := ([], [], c)) (u1 := u1) (u2 := u2) (u3 := u3) (u4 := u4) a b d e wz_nil)
    have B2 : (c != 0) = true := by simpa using hc
    simp only at C1 C2 B1
    clear HV h3 hk hm ht hc
    go_enter Tryd.func3, Tryd.ntmps3
    go_wp2_with fail
    refine C1.out.mono ?_; rintro e w1 ⟨u1, u2, rfl, s1, s2, hb⟩
    have HB := Lib.hid hb
    have S1 := Lib.hid s1
    have S2 := Lib.hid s2
    obtain ⟨B1', d1, rfl, -⟩ := id s1
    obtain ⟨B2', d2, rfl, -⟩ := s2.slice
    clear s1 s2 C1 hb
    simp only [List.length_nil] at S1 S2 ⊢
    go_upto_region 4 with fail
    have X7 := Lib.hid (box_new (W := w1) (g := w1.heap.size) 26 #[.slice B1' 0 d1, .slice B2' 0 d2] (by simp))
    have hba := (below_alloc w1 (.cells #[.slice B1' 0 d1, .slice B2' 0 d2] 26))
    replace S1 := Lib.hid (S1.out.below hba)
    replace S2 := Lib.hid (S2.out.below hba)
    replace HB := Lib.hid (below_step HB.out hba)
    clear hba
    generalize w1.alloc (.cells #[.slice B1' 0 d1, .slice B2' 0 d2] 26) = w2 at *
    go_wp2_with fail
    refine (C2.out _).mono ?_; rintro e w3 ⟨u3, u4, rfl, s3, s4, hb⟩
    have S3 := Lib.hid s3
    have S4 := Lib.hid s4
    obtain ⟨B3', d3, rfl, -⟩ := id s3
    obtain ⟨B4', d4, rfl, -⟩ := s4.slice
    clear s3 s4 C2
    simp only [List.length_nil] at S3 S4 ⊢
    replace S1 := Lib.hid (S1.out.below hb)
    replace S2 := Lib.hid (S2.out.below hb)
    replace X7 := Lib.hid (X7.out.below hb)
    replace HB := Lib.hid (below_step HB.out hb)
    clear hb
    go_upto_region 5 with fail
    have X9 := Lib.hid (box_new (W := w3) (g := w3.heap.size) 26 #[.slice B3' 0 d3, .slice B4' 0 d4] (by simp))
    have hba := (below_alloc w3 (.cells #[.slice B3' 0 d3, .slice B4' 0 d4] 26))
    replace X7 := Lib.hid (X7.out.below hba)
    replace S1 := Lib.hid (S1.out.below hba)
    replace S2 := Lib.hid (S2.out.below hba)
    replace S3 := Lib.hid (S3.out.below hba)
    replace S4 := Lib.hid (S4.out.below hba)
    replace HB := Lib.hid (below_step HB.out hba)
    clear hba
    generalize w3.alloc (.cells #[.slice B3' 0 d3, .slice B4' 0 d4] 26) = w4 at *
    have X7_0 := X7.out.at_ 0 _ rfl
    have X7_1 := X7.out.at_ 1 _ rfl
    have X9_0 := X9.out.at_ 0 _ rfl
    have X9_1 := X9.out.at_ 1 _ rfl
    go_wp2_with fail
    clear X7_0 X7_1 X9_0 X9_1
    refine (CS.out _ _ _ _ _ S1.out S2.out S3.out S4.out).mono ?_; rintro e w5 ⟨rfl, hb⟩
    replace HB := Lib.hid (below_step HB.out hb)
    clear hb
    go_wp2_with fail
    refine (CW.out _ HB.out).mono ?_; rintro e w8 ⟨rfl, hb⟩
    replace HB := Lib.hid (below_step HB.out hb)
    clear hb
    go_wp2_with fail
    go_ret
    exact ⟨rfl, HB.out⟩

end Go.Proofs.YthpioaboekpjoaaDoor

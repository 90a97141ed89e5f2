/-
  The contract of num.Parse.
-/
import Derived.Test.YtbjcbndmafddoaaDoorNumE
import Derived.Test.YtbjcbndmafddoaaDoorParseSpec
import Derived.Lib.ConvBytes
import Derived.Lib.Strings
import Derived.Below
namespace Go.Proofs.YtbjcbndmafddoaaDoor
open Go.RowKit

/-- The conversion of a string to bytes: a new row of cells, all else as before. -/
theorem conv_bytes (w : World) (d : ByteArray) : ∃ (C : Nat) (W1 : World), (convert 9 73 (.string d)).run Tryd.prog w = .ok (.slice (some ⟨w.heap.size, 0, none⟩) d.size C) W1 ∧
    (∀ j, j < d.size → W1.cell? ⟨w.heap.size, j, none⟩ = some (.int .u8 (byt d j))) ∧ Below w.heap.size w W1 := by
  refine ⟨_, _, Lib.run_convert_string_bytes w 9 73 5 d Tryd.underlying9 Tryd.underlying73 Tryd.underlying5, fun j hj => ?_, ?_⟩
  · exact Lib.bytesWorld_cell w _ d j hj
  · exact ⟨rfl, rfl, rfl, by rw [Lib.bytesWorld_size]; omega, fun k hk => Lib.bytesWorld_at_old w _ d k hk⟩

theorem toList_empty (d : ByteArray) : d.toList.isEmpty = decide (d.size = 0) := by
  obtain ⟨⟨l⟩⟩ := d
  have e : (ByteArray.mk ⟨l⟩).toList = l := by simp
  have e2 : (ByteArray.mk ⟨l⟩).size = l.length := rfl
  rw [e, e2]
  cases l <;> simp
theorem toList_nil {d : ByteArray} (h : d.size = 0) : d.toList = [] := by
  have := toList_empty d
  rw [h] at this
  simpa using this

set_option maxRecDepth 100000 in
set_option maxHeartbeats 4000000 in
theorem numParse (s : ByteArray) (w : World) (hs : s.size ≤ maxLen) :
    Calls Tryd.prog 59 #[.string s] w fun e w' => e = .returned (.tuple #[.int .i64 (parV s), .int .i64 (parE s)]) ∧ Below w.heap.size w w' := by
  unfold maxLen at hs
  obtain ⟨d, hd⟩ : ∃ d, d = body s := ⟨_, rfl⟩
  have hbs := body_size s
  rw [← hd] at hbs
  obtain ⟨C, W1, hconv, hcell, hbel⟩ := conv_bytes w d
  have hne : d.toList.isEmpty = decide (d.size = 0) := toList_empty d
  have hb0 := byt_bd d 0
  have HB := Lib.hid hbel
  have HC := Lib.hid hcell
  have HCV := Lib.hid hconv
  have HD := Lib.hid hd
  clear hbel hcell hconv
  have hcase : (isNeg s = true ∧ 0 < s.size ∧ byt s 0 = 45 ∧ s.extract 1 s.size = d ∧ d.size < s.size) ∨ (isNeg s = false ∧ s.size = 0 ∧ d = s) ∨ (isNeg s = false ∧ 0 < s.size ∧ byt s 0 ≠ 45 ∧ d = s) := by
    cases hn : isNeg s
    · have e := hbs.2 hn
      unfold isNeg at hn
      simp at hn
      by_cases h : s.size = 0
      · exact .inr (.inl ⟨rfl, h, e⟩)
      · exact .inr (.inr ⟨rfl, by omega, hn (by omega), e⟩)
    · have e := hbs.1 hn
      have e2 : s.extract 1 s.size = d := by rw [hd]; unfold body; rw [hn]; rfl
      unfold isNeg at hn
      simp at hn
      exact .inl ⟨rfl, hn.1, hn.2, e2, by omega⟩
  clear hbs hd
  by_cases hlead : d.size = 0 ∨ (byt d 0 = 48 ∧ (1 < d.size ∨ isNeg s = true))
  · have hbad : badForm s := by
      rcases hlead with h | h
      · exact .inl (by rw [← HD.out]; exact h)
      · exact .inr (.inr (by rw [← HD.out]; exact h))
    have HR := Lib.hid (par_bad hbad)
    clear hbad hb0
    rcases hcase with ⟨hneg, hpos, hb, hex, hlt⟩ | ⟨hneg, hz, hds⟩ | ⟨hneg, hpos, hb, hds⟩
    · rw [byt_at s 0 hpos] at hb
      have fb : ((s[0].toNat : Int) == 45) = true := by simpa using hb
      clear hb hneg
      by_cases hz : d.size = 0
      · have f1 : d.toList = [] := toList_nil hz
        clear hne hlead
        go_enter Tryd.func59, Tryd.ntmps59
        go_wp2_with fail
        go_step3
        go_wp2_with fail
        rw [Exit.noGoto_ret]
        go_ret2
        exact ⟨HR.out, Below.refl _ _⟩
      · have h8 : byt d 0 = 48 := by
          rcases hlead with h | h
          · exact absurd h hz
          · exact h.1
        rw [byt_at d 0 (by omega)] at h8
        have f8 : ((d[0].toNat : Int) == 48) = true := by simpa using h8
        have hz' : 0 < d.size := by omega
        have f1 : d.toList.isEmpty = false := by rw [hne]; simpa using hz
        have f2 : ¬ d.toList = [] := by intro e; rw [e] at f1; cases f1
        clear hne hlead h8
        by_cases h1 : 1 < d.size
        all_goals
          go_enter Tryd.func59, Tryd.ntmps59
          go_wp2_with fail
          go_step3
          go_wp2_with fail
          try rw [Exit.noGoto_ret]
          go_ret2
          exact ⟨HR.out, Below.refl _ _⟩
    · subst hds
      have hz := hz
      have f1 : d.toList = [] := toList_nil hz
      clear hne hlead
      go_enter Tryd.func59, Tryd.ntmps59
      go_wp2_with fail
      go_step3
      go_wp2_with fail
      try rw [Exit.noGoto_ret]
      go_ret2
      exact ⟨HR.out, Below.refl _ _⟩
    · subst hds
      have h8 : byt d 0 = 48 ∧ 1 < d.size := by
        rcases hlead with h | h
        · omega
        · rw [hneg] at h; simpa using h
      have h9 := h8.2
      have h8 := h8.1
      rw [byt_at d 0 hpos] at hb h8
      have fb : ((d[0].toNat : Int) == 45) = false := by simpa using hb
      have f8 : ((d[0].toNat : Int) == 48) = true := by simpa using h8
      have f1 : d.toList.isEmpty = false := by rw [hne]; exact decide_eq_false (by omega)
      have f2 : ¬ d.toList = [] := by intro e; rw [e] at f1; cases f1
      clear hne hlead h8 hb
      go_enter Tryd.func59, Tryd.ntmps59
      go_wp2_with fail
      go_step3
      go_wp2_with fail
      try rw [Exit.noGoto_ret]
      go_ret2
      exact ⟨HR.out, Below.refl _ _⟩
  · have hz : 0 < d.size := by
      apply Classical.byContradiction; intro h; exact hlead (.inl (by omega))
    have hgood : digs d d.size → ¬ badForm s := by
      intro hg hb
      unfold badForm at hb
      rw [← HD.out] at hb
      rcases hb with h | h | h
      · exact hlead (.inl h)
      · exact h hg
      · exact hlead (.inr h)
    have hbadn : ¬ digs d d.size → badForm s := fun h => .inr (.inl (by rw [← HD.out]; exact h))
    have hden : den s = if isNeg s then -(dvl d d.size : Int) else dvl d d.size := by unfold den; rw [← HD.out]
    have HG := Lib.hid hgood
    have HBN := Lib.hid hbadn
    have HDEN := Lib.hid hden
    have f1 : d.toList.isEmpty = false := by rw [hne]; exact decide_eq_false (by omega)
    have f2 : ¬ d.toList = [] := by intro e; rw [e] at f1; cases f1
    clear hgood hbadn hden hne hb0
    have hthree : (isNeg s = true ∧ 0 < s.size ∧ byt s 0 = 45 ∧ s.extract 1 s.size = d ∧ d.size < s.size ∧ byt d 0 ≠ 48) ∨ (isNeg s = false ∧ d = s ∧ byt d 0 ≠ 45 ∧ byt d 0 = 48 ∧ d.size = 1) ∨ (isNeg s = false ∧ d = s ∧ byt d 0 ≠ 45 ∧ byt d 0 ≠ 48) := by
      rcases hcase with ⟨hneg, hpos, hb, hex, hlt⟩ | ⟨hneg, hz, hds⟩ | ⟨hneg, hpos, hb, hds⟩
      · exact .inl ⟨hneg, hpos, hb, hex, hlt, fun h => hlead (.inr ⟨h, .inr hneg⟩)⟩
      · subst hds; omega
      · by_cases h : byt d 0 = 48
        · refine .inr (.inl ⟨hneg, hds, by rw [hds]; exact hb, h, ?_⟩)
          by_cases h1 : 1 < d.size
          · exact absurd (.inr ⟨h, .inl h1⟩) hlead
          · omega
        · exact .inr (.inr ⟨hneg, hds, by rw [hds]; exact hb, h⟩)
    clear hcase hlead
    have hsz : d.size ≤ s.size := by
      rcases hthree with h | h | h
      · omega
      · rw [h.2.1]; omega
      · rw [h.2.1]; omega
    have hov : ∀ k, k ≤ d.size → digs d d.size → 9223372036854775808 < dvl d k → Ending.returned (.tuple #[.int .i64 0, .int .i64 3]) = .returned (.tuple #[.int .i64 (parV s), .int .i64 (parE s)]) := fun k hk hg hv => by
      refine par_over (HG.out hg) ?_
      rw [← HD.out]; have := dvl_mono d hk; omega
    have HOV := Lib.hid hov
    have HN := Lib.hid (show isNeg s = decide (d.size < s.size) by
      rcases hthree with h | h | h
      · rw [h.1]; simp; omega
      · rw [h.1, h.2.1]; simp
      · rw [h.1, h.2.1]; simp)
    clear hov
    rcases hthree with ⟨hneg, hpos, hb, hex, hlt, hb8⟩ | ⟨hneg, hds, hb, hb8, h1⟩ | ⟨hneg, hds, hb, hb8⟩
    · rw [byt_at s 0 hpos] at hb
      rw [byt_at d 0 hz] at hb8
      have fb : ((s[0].toNat : Int) == 45) = true := by simpa using hb
      have f8 : ((d[0].toNat : Int) == 48) = false := by simpa using hb8
      clear hb hb8 hneg
      have hconv := HCV.out
      go_enter Tryd.func59, Tryd.ntmps59
      go_wp2_with fail
      go_step3
      go_wp2_with fail
      go_step3
      go_wp2_with fail
      clear hconv
      go_loop [6, 7, 8, 45] (fun n L r c => ∃ k : Nat, k ≤ d.size ∧ digs d k ∧ c = .int .i64 k ∧ r = .int .i64 k ∧ ∃ (m : Nat) (b : Bool), n = .int .u64 m ∧ L = .bool b ∧ m < 18446744073709551616 ∧ (b = false → m = dvl d k) ∧ (b = true → 1844674407370955160 < m ∧ 9223372036854775808 < dvl d k)) (fun _ _ _ c => d.size - (intOf c).toNat)
      case atStart => exact ⟨0, Nat.zero_le _, digs_zero d, rfl, rfl, 0, false, rfl, rfl, by omega, fun _ => rfl, fun h => by cases h⟩
      case round =>
        obtain ⟨k, hk, hg, rfl, rfl, m, b, rfl, rfl, hm, hbf, hbt⟩ := hrel
        clear fb f8 f1 f2
        have HM := Lib.hid hm
        have HBF := Lib.hid hbf
        have HBT := Lib.hid hbt
        clear hbf hbt hm
        have hmono := dvl_succ d k
        have HS := Lib.hid hmono
        clear hmono
        by_cases hlt' : k < d.size
        · have hc := HC.out k hlt'
          have hb := byt_bd d k
          obtain ⟨hb0, hb1⟩ := hb
          by_cases hd0 : 48 ≤ byt d k
          · by_cases hd1 : byt d k ≤ 57
            · have hg' := digs_succ hg hd0 hd1
              have HG' := Lib.hid hg'
              clear hg'
              by_cases hbig : (1844674407370955160 : Int) < m
              · go_wp2_with fail
                go_round
                case rel => exact ⟨k + 1, by omega, HG'.out, by go_num, by go_num, m, true, rfl, rfl, HM.out, (fun h => by cases h), (fun _ => ⟨by omega, by
                  rw [HS.out]
                  cases b
                  · have := HBF.out rfl; omega
                  · have := HBT.out rfl; omega⟩)⟩
                case measure => simp [intOf]; omega
              · have hbf : b = false := by
                  cases b
                  · rfl
                  · exact absurd (HBT.out rfl).1 (by omega)
                subst hbf
                go_wp2_with fail
                go_round
                case rel => exact ⟨k + 1, by omega, HG'.out, by go_num, by go_num, 10 * m + (byt d k - 48).toNat, false, by congr 1; omega, rfl, by omega, (fun _ => by rw [HS.out, HBF.out rfl]), (fun h => by cases h)⟩
                case measure => simp [intOf]; omega
            · have hbad : ¬ digs d d.size := fun h => by have := h k hlt'; omega
              have HR := Lib.hid (par_bad (HBN.out hbad))
              clear hbad
              go_wp2_with fail
              try rw [Exit.noGoto_ret]
              go_ret2
              exact ⟨HR.out, HB.out⟩
          · have hbad : ¬ digs d d.size := fun h => by have := h k hlt'; omega
            have HR := Lib.hid (par_bad (HBN.out hbad))
            clear hbad
            go_wp2_with fail
            try rw [Exit.noGoto_ret]
            go_ret2
            exact ⟨HR.out, HB.out⟩
        · obtain rfl : k = d.size := by omega
          cases b
          · have HMM : Hid (m = dvl d d.size) := HBF.out rfl
            go_wp2_with fail
            have hm := HM.out
            refine (numSigned _ _ _ (by omega) (by omega)).mono ?_; clear hm; rintro e w' ⟨rfl, rfl⟩
            go_wp2_with fail
            try rw [Exit.noGoto_ret]
            go_ret2
            obtain ⟨p1, p2⟩ := par_good (HG.out hg)
            refine ⟨?_, HB.out⟩
            rw [p1, p2, HDEN.out, HN.out, ← HMM.out]
            simp [hlt]
          · have hv := (HBT.out rfl).2
            have HR := Lib.hid (HOV.out d.size (Nat.le_refl _) hg hv)
            clear hv
            go_wp2_with fail
            try rw [Exit.noGoto_ret]
            go_ret2
            exact ⟨HR.out, HB.out⟩
    · subst hds
      rw [byt_at d 0 hz] at hb8 hb
      have fb : ((d[0].toNat : Int) == 45) = false := by simpa using hb
      have f8 : ((d[0].toNat : Int) == 48) = true := by simpa using hb8
      have h1' : ¬ (1 < d.size) := by omega
      clear hb hb8 hneg h1
      have hconv := HCV.out
      go_enter Tryd.func59, Tryd.ntmps59
      go_wp2_with fail
      go_step3
      go_wp2_with fail
      go_step3
      go_wp2_with fail
      clear hconv
      go_loop [6, 7, 8, 45] (fun n L r c => ∃ k : Nat, k ≤ d.size ∧ digs d k ∧ c = .int .i64 k ∧ r = .int .i64 k ∧ ∃ (m : Nat) (b : Bool), n = .int .u64 m ∧ L = .bool b ∧ m < 18446744073709551616 ∧ (b = false → m = dvl d k) ∧ (b = true → 1844674407370955160 < m ∧ 9223372036854775808 < dvl d k)) (fun _ _ _ c => d.size - (intOf c).toNat)
      case atStart => exact ⟨0, Nat.zero_le _, digs_zero d, rfl, rfl, 0, false, rfl, rfl, by omega, fun _ => rfl, fun h => by cases h⟩
      case round =>
        obtain ⟨k, hk, hg, rfl, rfl, m, b, rfl, rfl, hm, hbf, hbt⟩ := hrel
        clear fb f8 f1 f2
        have HM := Lib.hid hm
        have HBF := Lib.hid hbf
        have HBT := Lib.hid hbt
        clear hbf hbt hm
        have hmono := dvl_succ d k
        have HS := Lib.hid hmono
        clear hmono
        by_cases hlt' : k < d.size
        · have hc := HC.out k hlt'
          have hb := byt_bd d k
          obtain ⟨hb0, hb1⟩ := hb
          by_cases hd0 : 48 ≤ byt d k
          · by_cases hd1 : byt d k ≤ 57
            · have hg' := digs_succ hg hd0 hd1
              have HG' := Lib.hid hg'
              clear hg'
              by_cases hbig : (1844674407370955160 : Int) < m
              · go_wp2_with fail
                go_round
                case rel => exact ⟨k + 1, by omega, HG'.out, by go_num, by go_num, m, true, rfl, rfl, HM.out, (fun h => by cases h), (fun _ => ⟨by omega, by
                  rw [HS.out]
                  cases b
                  · have := HBF.out rfl; omega
                  · have := HBT.out rfl; omega⟩)⟩
                case measure => simp [intOf]; omega
              · have hbf : b = false := by
                  cases b
                  · rfl
                  · exact absurd (HBT.out rfl).1 (by omega)
                subst hbf
                go_wp2_with fail
                go_round
                case rel => exact ⟨k + 1, by omega, HG'.out, by go_num, by go_num, 10 * m + (byt d k - 48).toNat, false, by congr 1; omega, rfl, by omega, (fun _ => by rw [HS.out, HBF.out rfl]), (fun h => by cases h)⟩
                case measure => simp [intOf]; omega
            · have hbad : ¬ digs d d.size := fun h => by have := h k hlt'; omega
              have HR := Lib.hid (par_bad (HBN.out hbad))
              clear hbad
              go_wp2_with fail
              try rw [Exit.noGoto_ret]
              go_ret2
              exact ⟨HR.out, HB.out⟩
          · have hbad : ¬ digs d d.size := fun h => by have := h k hlt'; omega
            have HR := Lib.hid (par_bad (HBN.out hbad))
            clear hbad
            go_wp2_with fail
            try rw [Exit.noGoto_ret]
            go_ret2
            exact ⟨HR.out, HB.out⟩
        · obtain rfl : k = d.size := by omega
          cases b
          · have HMM : Hid (m = dvl d d.size) := HBF.out rfl
            go_wp2_with fail
            have hm := HM.out
            refine (numSigned _ _ _ (by omega) (by omega)).mono ?_; clear hm; rintro e w' ⟨rfl, rfl⟩
            go_wp2_with fail
            try rw [Exit.noGoto_ret]
            go_ret2
            obtain ⟨p1, p2⟩ := par_good (HG.out hg)
            refine ⟨?_, HB.out⟩
            rw [p1, p2, HDEN.out, HN.out, ← HMM.out]
            simp
          · have hv := (HBT.out rfl).2
            have HR := Lib.hid (HOV.out d.size (Nat.le_refl _) hg hv)
            clear hv
            go_wp2_with fail
            try rw [Exit.noGoto_ret]
            go_ret2
            exact ⟨HR.out, HB.out⟩
    · subst hds
      rw [byt_at d 0 hz] at hb8 hb
      have fb : ((d[0].toNat : Int) == 45) = false := by simpa using hb
      have f8 : ((d[0].toNat : Int) == 48) = false := by simpa using hb8
      clear hb hb8 hneg
      have hconv := HCV.out
      go_enter Tryd.func59, Tryd.ntmps59
      go_wp2_with fail
      go_step3
      go_wp2_with fail
      go_step3
      go_wp2_with fail
      clear hconv
      go_loop [6, 7, 8, 45] (fun n L r c => ∃ k : Nat, k ≤ d.size ∧ digs d k ∧ c = .int .i64 k ∧ r = .int .i64 k ∧ ∃ (m : Nat) (b : Bool), n = .int .u64 m ∧ L = .bool b ∧ m < 18446744073709551616 ∧ (b = false → m = dvl d k) ∧ (b = true → 1844674407370955160 < m ∧ 9223372036854775808 < dvl d k)) (fun _ _ _ c => d.size - (intOf c).toNat)
      case atStart => exact ⟨0, Nat.zero_le _, digs_zero d, rfl, rfl, 0, false, rfl, rfl, by omega, fun _ => rfl, fun h => by cases h⟩
      case round =>
        obtain ⟨k, hk, hg, rfl, rfl, m, b, rfl, rfl, hm, hbf, hbt⟩ := hrel
        clear fb f8 f1 f2
        have HM := Lib.hid hm
        have HBF := Lib.hid hbf
        have HBT := Lib.hid hbt
        clear hbf hbt hm
        have hmono := dvl_succ d k
        have HS := Lib.hid hmono
        clear hmono
        by_cases hlt' : k < d.size
        · have hc := HC.out k hlt'
          have hb := byt_bd d k
          obtain ⟨hb0, hb1⟩ := hb
          by_cases hd0 : 48 ≤ byt d k
          · by_cases hd1 : byt d k ≤ 57
            · have hg' := digs_succ hg hd0 hd1
              have HG' := Lib.hid hg'
              clear hg'
              by_cases hbig : (1844674407370955160 : Int) < m
              · go_wp2_with fail
                go_round
                case rel => exact ⟨k + 1, by omega, HG'.out, by go_num, by go_num, m, true, rfl, rfl, HM.out, (fun h => by cases h), (fun _ => ⟨by omega, by
                  rw [HS.out]
                  cases b
                  · have := HBF.out rfl; omega
                  · have := HBT.out rfl; omega⟩)⟩
                case measure => simp [intOf]; omega
              · have hbf : b = false := by
                  cases b
                  · rfl
                  · exact absurd (HBT.out rfl).1 (by omega)
                subst hbf
                go_wp2_with fail
                go_round
                case rel => exact ⟨k + 1, by omega, HG'.out, by go_num, by go_num, 10 * m + (byt d k - 48).toNat, false, by congr 1; omega, rfl, by omega, (fun _ => by rw [HS.out, HBF.out rfl]), (fun h => by cases h)⟩
                case measure => simp [intOf]; omega
            · have hbad : ¬ digs d d.size := fun h => by have := h k hlt'; omega
              have HR := Lib.hid (par_bad (HBN.out hbad))
              clear hbad
              go_wp2_with fail
              try rw [Exit.noGoto_ret]
              go_ret2
              exact ⟨HR.out, HB.out⟩
          · have hbad : ¬ digs d d.size := fun h => by have := h k hlt'; omega
            have HR := Lib.hid (par_bad (HBN.out hbad))
            clear hbad
            go_wp2_with fail
            try rw [Exit.noGoto_ret]
            go_ret2
            exact ⟨HR.out, HB.out⟩
        · obtain rfl : k = d.size := by omega
          cases b
          · have HMM : Hid (m = dvl d d.size) := HBF.out rfl
            go_wp2_with fail
            have hm := HM.out
            refine (numSigned _ _ _ (by omega) (by omega)).mono ?_; clear hm; rintro e w' ⟨rfl, rfl⟩
            go_wp2_with fail
            try rw [Exit.noGoto_ret]
            go_ret2
            obtain ⟨p1, p2⟩ := par_good (HG.out hg)
            refine ⟨?_, HB.out⟩
            rw [p1, p2, HDEN.out, HN.out, ← HMM.out]
            simp
          · have hv := (HBT.out rfl).2
            have HR := Lib.hid (HOV.out d.size (Nat.le_refl _) hg hv)
            clear hv
            go_wp2_with fail
            try rw [Exit.noGoto_ret]
            go_ret2
            exact ⟨HR.out, HB.out⟩

end Go.Proofs.YtbjcbndmafddoaaDoor

/-
  The contract of num.Parse.
  The contract of num.Format, and that the examples of awake hold.
  The contracts of the reference's digits and Parse.
  The contract of the reference's Format.
  Plain laws of decimal forms: parsing the form of a number gives the number; what parses is the form of the number.
-/
import Derived.Test.YtbgficaboolgiaaGreatDoorNum
import Derived.Test.YtbgficaboolgiaaGreatDoorBase
import Derived.Lib.ConvBytes
import Derived.Lib.Strings
import Derived.Below
import Derived.WalkSmall
import Derived.Laws.IdiomStrings
import Derived.Lib.ItoaLen
namespace Go.Proofs.YtbgficaboolgiaaGreatDoor
section
open Go.RowKit

/-- The conversion of a string to bytes: a new row of cells, all else as before. -/
theorem conv_bytes (w : World) (d : ByteArray) : ∃ (C : Nat) (W1 : World), (convert 9 90 (.string d)).run Tryz.prog w = .ok (.slice (some ⟨w.heap.size, 0, none⟩) d.size C) W1 ∧
    (∀ j, j < d.size → W1.cell? ⟨w.heap.size, j, none⟩ = some (.int .u8 (byt d j))) ∧ Below w.heap.size w W1 := by
  refine ⟨_, _, Lib.run_convert_string_bytes w 9 90 5 d Tryz.underlying9 Tryz.underlying90 Tryz.underlying5, fun j hj => ?_, ?_⟩
  · exact Lib.bytesWorld_cell w _ d j hj
  · exact ⟨rfl, rfl, rfl, by rw [Lib.bytesWorld_size]; omega, fun k hk => Lib.bytesWorld_at_old w _ d k hk⟩

theorem toList_empty (d : ByteArray) : d.toList.isEmpty = decide (d.size = 0) := by
  obtain ⟨⟨l⟩⟩ := d
  have e : (ByteArray.mk ⟨l⟩).toList = l := by simp
  have e2 : (ByteArray.mk ⟨l⟩).size = l.length := rfl
  rw [e, e2]
  cases l <;> simp
theorem toList_nil {d : ByteArray} (h : d.size = 0) : d.toList = [] := by
  have := toList_empty d
  rw [h] at this
  simpa using this

set_option maxRecDepth 100000 in
set_option maxHeartbeats 4000000 in
theorem numParse (s : ByteArray) (w : World) (hs : s.size ≤ maxLen) :
    Calls Tryz.prog 91 #[.string s] w fun e w' => e = .returned (.tuple #[.int .i64 (parV s), .int .i64 (parE s)]) ∧ Below w.heap.size w w' := by
  unfold maxLen at hs
  obtain ⟨d, hd⟩ : ∃ d, d = body s := ⟨_, rfl⟩
  have hbs := body_size s
  rw [← hd] at hbs
  obtain ⟨C, W1, hconv, hcell, hbel⟩ := conv_bytes w d
  have hne : d.toList.isEmpty = decide (d.size = 0) := toList_empty d
  have hb0 := byt_bd d 0
  have HB := Lib.hid hbel
  have HC := Lib.hid hcell
  have HCV := Lib.hid hconv
  have HD := Lib.hid hd
  clear hbel hcell hconv
  have hcase : (isNeg s = true ∧ 0 < s.size ∧ byt s 0 = 45 ∧ s.extract 1 s.size = d ∧ d.size < s.size) ∨ (isNeg s = false ∧ s.size = 0 ∧ d = s) ∨ (isNeg s = false ∧ 0 < s.size ∧ byt s 0 ≠ 45 ∧ d = s) := by
    cases hn : isNeg s
    · have e := hbs.2 hn
      unfold isNeg at hn
      simp at hn
      by_cases h : s.size = 0
      · exact .inr (.inl ⟨rfl, h, e⟩)
      · exact .inr (.inr ⟨rfl, by omega, hn (by omega), e⟩)
    · have e := hbs.1 hn
      have e2 : s.extract 1 s.size = d := by rw [hd]; unfold body; rw [hn]; rfl
      unfold isNeg at hn
      simp at hn
      exact .inl ⟨rfl, hn.1, hn.2, e2, by omega⟩
  clear hbs hd
  by_cases hlead : d.size = 0 ∨ (byt d 0 = 48 ∧ (1 < d.size ∨ isNeg s = true))
  · have hbad : badForm s := by
      rcases hlead with h | h
      · exact .inl (by rw [← HD.out]; exact h)
      · exact .inr (.inr (by rw [← HD.out]; exact h))
    have HR := Lib.hid (par_bad hbad)
    clear hbad hb0
    rcases hcase with ⟨hneg, hpos, hb, hex, hlt⟩ | ⟨hneg, hz, hds⟩ | ⟨hneg, hpos, hb, hds⟩
    · rw [byt_at s 0 hpos] at hb
      have fb : ((s[0].toNat : Int) == 45) = true := by simpa using hb
      clear hb hneg
      by_cases hz : d.size = 0
      · have f1 : d.toList = [] := toList_nil hz
        clear hne hlead
        go_enter Tryz.func91, Tryz.ntmps91
        go_wp2_with fail
        go_step3
        go_wp2_with fail
        rw [Exit.noGoto_ret]
        go_ret2
        exact ⟨HR.out, Below.refl _ _⟩
      · have h8 : byt d 0 = 48 := by
          rcases hlead with h | h
          · exact absurd h hz
          · exact h.1
        rw [byt_at d 0 (by omega)] at h8
        have f8 : ((d[0].toNat : Int) == 48) = true := by simpa using h8
        have hz' : 0 < d.size := by omega
        have f1 : d.toList.isEmpty = false := by rw [hne]; simpa using hz
        have f2 : ¬ d.toList = [] := by intro e; rw [e] at f1; cases f1
        clear hne hlead h8
        by_cases h1 : 1 < d.size
        all_goals
          go_enter Tryz.func91, Tryz.ntmps91
          go_wp2_with fail
          go_step3
          go_wp2_with fail
          try rw [Exit.noGoto_ret]
          go_ret2
          exact ⟨HR.out, Below.refl _ _⟩
    · subst hds
      have hz := hz
      have f1 : d.toList = [] := toList_nil hz
      clear hne hlead
      go_enter Tryz.func91, Tryz.ntmps91
      go_wp2_with fail
      go_step3
      go_wp2_with fail
      try rw [Exit.noGoto_ret]
      go_ret2
      exact ⟨HR.out, Below.refl _ _⟩
    · subst hds
      have h8 : byt d 0 = 48 ∧ 1 < d.size := by
        rcases hlead with h | h
        · omega
        · rw [hneg] at h; simpa using h
      have h9 := h8.2
      have h8 := h8.1
      rw [byt_at d 0 hpos] at hb h8
      have fb : ((d[0].toNat : Int) == 45) = false := by simpa using hb
      have f8 : ((d[0].toNat : Int) == 48) = true := by simpa using h8
      have f1 : d.toList.isEmpty = false := by rw [hne]; exact decide_eq_false (by omega)
      have f2 : ¬ d.toList = [] := by intro e; rw [e] at f1; cases f1
      clear hne hlead h8 hb
      go_enter Tryz.func91, Tryz.ntmps91
      go_wp2_with fail
      go_step3
      go_wp2_with fail
      try rw [Exit.noGoto_ret]
      go_ret2
      exact ⟨HR.out, Below.refl _ _⟩
  · have hz : 0 < d.size := by
      apply Classical.byContradiction; intro h; exact hlead (.inl (by omega))
    have hgood : digs d d.size → ¬ badForm s := by
      intro hg hb
      unfold badForm at hb
      rw [← HD.out] at hb
      rcases hb with h | h | h
      · exact hlead (.inl h)
      · exact h hg
      · exact hlead (.inr h)
    have hbadn : ¬ digs d d.size → badForm s := fun h => .inr (.inl (by rw [← HD.out]; exact h))
    have hden : den s = if isNeg s then -(dvl d d.size : Int) else dvl d d.size := by unfold den; rw [← HD.out]
    have HG := Lib.hid hgood
    have HBN := Lib.hid hbadn
    have HDEN := Lib.hid hden
    have f1 : d.toList.isEmpty = false := by rw [hne]; exact decide_eq_false (by omega)
    have f2 : ¬ d.toList = [] := by intro e; rw [e] at f1; cases f1
    clear hgood hbadn hden hne hb0
    have hthree : (isNeg s = true ∧ 0 < s.size ∧ byt s 0 = 45 ∧ s.extract 1 s.size = d ∧ d.size < s.size ∧ byt d 0 ≠ 48) ∨ (isNeg s = false ∧ d = s ∧ byt d 0 ≠ 45 ∧ byt d 0 = 48 ∧ d.size = 1) ∨ (isNeg s = false ∧ d = s ∧ byt d 0 ≠ 45 ∧ byt d 0 ≠ 48) := by
      rcases hcase with ⟨hneg, hpos, hb, hex, hlt⟩ | ⟨hneg, hz, hds⟩ | ⟨hneg, hpos, hb, hds⟩
      · exact .inl ⟨hneg, hpos, hb, hex, hlt, fun h => hlead (.inr ⟨h, .inr hneg⟩)⟩
      · subst hds; omega
      · by_cases h : byt d 0 = 48
        · refine .inr (.inl ⟨hneg, hds, by rw [hds]; exact hb, h, ?_⟩)
          by_cases h1 : 1 < d.size
          · exact absurd (.inr ⟨h, .inl h1⟩) hlead
          · omega
        · exact .inr (.inr ⟨hneg, hds, by rw [hds]; exact hb, h⟩)
    clear hcase hlead
    have hsz : d.size ≤ s.size := by
      rcases hthree with h | h | h
      · omega
      · rw [h.2.1]; omega
      · rw [h.2.1]; omega
    have hov : ∀ k, k ≤ d.size → digs d d.size → 9223372036854775808 < dvl d k → Ending.returned (.tuple #[.int .i64 0, .int .i64 3]) = .returned (.tuple #[.int .i64 (parV s), .int .i64 (parE s)]) := fun k hk hg hv => by
      refine par_over (HG.out hg) ?_
      rw [← HD.out]; have := dvl_mono d hk; omega
    have HOV := Lib.hid hov
    have HN := Lib.hid (show isNeg s = decide (d.size < s.size) by
      rcases hthree with h | h | h
      · rw [h.1]; simp; omega
      · rw [h.1, h.2.1]; simp
      · rw [h.1, h.2.1]; simp)
    clear hov
    rcases hthree with ⟨hneg, hpos, hb, hex, hlt, hb8⟩ | ⟨hneg, hds, hb, hb8, h1⟩ | ⟨hneg, hds, hb, hb8⟩
    · rw [byt_at s 0 hpos] at hb
      rw [byt_at d 0 hz] at hb8
      have fb : ((s[0].toNat : Int) == 45) = true := by simpa using hb
      have f8 : ((d[0].toNat : Int) == 48) = false := by simpa using hb8
      clear hb hb8 hneg
      have hconv := HCV.out
      go_enter Tryz.func91, Tryz.ntmps91
      go_wp2_with fail
      go_step3
      go_wp2_with fail
      go_step3
      go_wp2_with fail
      clear hconv
      go_loop [6, 7, 8, 45] (fun n L r c => ∃ k : Nat, k ≤ d.size ∧ digs d k ∧ c = .int .i64 k ∧ r = .int .i64 k ∧ ∃ (m : Nat) (b : Bool), n = .int .u64 m ∧ L = .bool b ∧ m < 18446744073709551616 ∧ (b = false → m = dvl d k) ∧ (b = true → 1844674407370955160 < m ∧ 9223372036854775808 < dvl d k)) (fun _ _ _ c => d.size - (intOf c).toNat)
      case atStart => exact ⟨0, Nat.zero_le _, digs_zero d, rfl, rfl, 0, false, rfl, rfl, by omega, fun _ => rfl, fun h => by cases h⟩
      case round =>
        obtain ⟨k, hk, hg, rfl, rfl, m, b, rfl, rfl, hm, hbf, hbt⟩ := hrel
        clear fb f8 f1 f2
        have HM := Lib.hid hm
        have HBF := Lib.hid hbf
        have HBT := Lib.hid hbt
        clear hbf hbt hm
        have hmono := dvl_succ d k
        have HS := Lib.hid hmono
        clear hmono
        by_cases hlt' : k < d.size
        · have hc := HC.out k hlt'
          have hb := byt_bd d k
          obtain ⟨hb0, hb1⟩ := hb
          by_cases hd0 : 48 ≤ byt d k
          · by_cases hd1 : byt d k ≤ 57
            · have hg' := digs_succ hg hd0 hd1
              have HG' := Lib.hid hg'
              clear hg'
              by_cases hbig : (1844674407370955160 : Int) < m
              · go_wp2_with fail
                go_round
                case rel => exact ⟨k + 1, by omega, HG'.out, by go_num, by go_num, m, true, rfl, rfl, HM.out, (fun h => by cases h), (fun _ => ⟨by omega, by
                  rw [HS.out]
                  cases b
                  · have := HBF.out rfl; omega
                  · have := HBT.out rfl; omega⟩)⟩
                case measure => simp [intOf]; omega
              · have hbf : b = false := by
                  cases b
                  · rfl
                  · exact absurd (HBT.out rfl).1 (by omega)
                subst hbf
                go_wp2_with fail
                go_round
                case rel => exact ⟨k + 1, by omega, HG'.out, by go_num, by go_num, 10 * m + (byt d k - 48).toNat, false, by congr 1; omega, rfl, by omega, (fun _ => by rw [HS.out, HBF.out rfl]), (fun h => by cases h)⟩
                case measure => simp [intOf]; omega
            · have hbad : ¬ digs d d.size := fun h => by have := h k hlt'; omega
              have HR := Lib.hid (par_bad (HBN.out hbad))
              clear hbad
              go_wp2_with fail
              try rw [Exit.noGoto_ret]
              go_ret2
              exact ⟨HR.out, HB.out⟩
          · have hbad : ¬ digs d d.size := fun h => by have := h k hlt'; omega
            have HR := Lib.hid (par_bad (HBN.out hbad))
            clear hbad
            go_wp2_with fail
            try rw [Exit.noGoto_ret]
            go_ret2
            exact ⟨HR.out, HB.out⟩
        · obtain rfl : k = d.size := by omega
          cases b
          · have HMM : Hid (m = dvl d d.size) := HBF.out rfl
            go_wp2_with fail
            have hm := HM.out
            refine (numSigned _ _ _ (by omega) (by omega)).mono ?_; clear hm; rintro e w' ⟨rfl, rfl⟩
            go_wp2_with fail
            try rw [Exit.noGoto_ret]
            go_ret2
            obtain ⟨p1, p2⟩ := par_good (HG.out hg)
            refine ⟨?_, HB.out⟩
            rw [p1, p2, HDEN.out, HN.out, ← HMM.out]
            simp [hlt]
          · have hv := (HBT.out rfl).2
            have HR := Lib.hid (HOV.out d.size (Nat.le_refl _) hg hv)
            clear hv
            go_wp2_with fail
            try rw [Exit.noGoto_ret]
            go_ret2
            exact ⟨HR.out, HB.out⟩
    · subst hds
      rw [byt_at d 0 hz] at hb8 hb
      have fb : ((d[0].toNat : Int) == 45) = false := by simpa using hb
      have f8 : ((d[0].toNat : Int) == 48) = true := by simpa using hb8
      have h1' : ¬ (1 < d.size) := by omega
      clear hb hb8 hneg h1
      have hconv := HCV.out
      go_enter Tryz.func91, Tryz.ntmps91
      go_wp2_with fail
      go_step3
      go_wp2_with fail
      go_step3
      go_wp2_with fail
      clear hconv
      go_loop [6, 7, 8, 45] (fun n L r c => ∃ k : Nat, k ≤ d.size ∧ digs d k ∧ c = .int .i64 k ∧ r = .int .i64 k ∧ ∃ (m : Nat) (b : Bool), n = .int .u64 m ∧ L = .bool b ∧ m < 18446744073709551616 ∧ (b = false → m = dvl d k) ∧ (b = true → 1844674407370955160 < m ∧ 9223372036854775808 < dvl d k)) (fun _ _ _ c => d.size - (intOf c).toNat)
      case atStart => exact ⟨0, Nat.zero_le _, digs_zero d, rfl, rfl, 0, false, rfl, rfl, by omega, fun _ => rfl, fun h => by cases h⟩
      case round =>
        obtain ⟨k, hk, hg, rfl, rfl, m, b, rfl, rfl, hm, hbf, hbt⟩ := hrel
        clear fb f8 f1 f2
        have HM := Lib.hid hm
        have HBF := Lib.hid hbf
        have HBT := Lib.hid hbt
        clear hbf hbt hm
        have hmono := dvl_succ d k
        have HS := Lib.hid hmono
        clear hmono
        by_cases hlt' : k < d.size
        · have hc := HC.out k hlt'
          have hb := byt_bd d k
          obtain ⟨hb0, hb1⟩ := hb
          by_cases hd0 : 48 ≤ byt d k
          · by_cases hd1 : byt d k ≤ 57
            · have hg' := digs_succ hg hd0 hd1
              have HG' := Lib.hid hg'
              clear hg'
              by_cases hbig : (1844674407370955160 : Int) < m
              · go_wp2_with fail
                go_round
                case rel => exact ⟨k + 1, by omega, HG'.out, by go_num, by go_num, m, true, rfl, rfl, HM.out, (fun h => by cases h), (fun _ => ⟨by omega, by
                  rw [HS.out]
                  cases b
                  · have := HBF.out rfl; omega
                  · have := HBT.out rfl; omega⟩)⟩
                case measure => simp [intOf]; omega
              · have hbf : b = false := by
                  cases b
                  · rfl
                  · exact absurd (HBT.out rfl).1 (by omega)
                subst hbf
                go_wp2_with fail
                go_round
                case rel => exact ⟨k + 1, by omega, HG'.out, by go_num, by go_num, 10 * m + (byt d k - 48).toNat, false, by congr 1; omega, rfl, by omega, (fun _ => by rw [HS.out, HBF.out rfl]), (fun h => by cases h)⟩
                case measure => simp [intOf]; omega
            · have hbad : ¬ digs d d.size := fun h => by have := h k hlt'; omega
              have HR := Lib.hid (par_bad (HBN.out hbad))
              clear hbad
              go_wp2_with fail
              try rw [Exit.noGoto_ret]
              go_ret2
              exact ⟨HR.out, HB.out⟩
          · have hbad : ¬ digs d d.size := fun h => by have := h k hlt'; omega
            have HR := Lib.hid (par_bad (HBN.out hbad))
            clear hbad
            go_wp2_with fail
            try rw [Exit.noGoto_ret]
            go_ret2
            exact ⟨HR.out, HB.out⟩
        · obtain rfl : k = d.size := by omega
          cases b
          · have HMM : Hid (m = dvl d d.size) := HBF.out rfl
            go_wp2_with fail
            have hm := HM.out
            refine (numSigned _ _ _ (by omega) (by omega)).mono ?_; clear hm; rintro e w' ⟨rfl, rfl⟩
            go_wp2_with fail
            try rw [Exit.noGoto_ret]
            go_ret2
            obtain ⟨p1, p2⟩ := par_good (HG.out hg)
            refine ⟨?_, HB.out⟩
            rw [p1, p2, HDEN.out, HN.out, ← HMM.out]
            simp
          · have hv := (HBT.out rfl).2
            have HR := Lib.hid (HOV.out d.size (Nat.le_refl _) hg hv)
            clear hv
            go_wp2_with fail
            try rw [Exit.noGoto_ret]
            go_ret2
            exact ⟨HR.out, HB.out⟩
    · subst hds
      rw [byt_at d 0 hz] at hb8 hb
      have fb : ((d[0].toNat : Int) == 45) = false := by simpa using hb
      have f8 : ((d[0].toNat : Int) == 48) = false := by simpa using hb8
      clear hb hb8 hneg
      have hconv := HCV.out
      go_enter Tryz.func91, Tryz.ntmps91
      go_wp2_with fail
      go_step3
      go_wp2_with fail
      go_step3
      go_wp2_with fail
      clear hconv
      go_loop [6, 7, 8, 45] (fun n L r c => ∃ k : Nat, k ≤ d.size ∧ digs d k ∧ c = .int .i64 k ∧ r = .int .i64 k ∧ ∃ (m : Nat) (b : Bool), n = .int .u64 m ∧ L = .bool b ∧ m < 18446744073709551616 ∧ (b = false → m = dvl d k) ∧ (b = true → 1844674407370955160 < m ∧ 9223372036854775808 < dvl d k)) (fun _ _ _ c => d.size - (intOf c).toNat)
      case atStart => exact ⟨0, Nat.zero_le _, digs_zero d, rfl, rfl, 0, false, rfl, rfl, by omega, fun _ => rfl, fun h => by cases h⟩
      case round =>
        obtain ⟨k, hk, hg, rfl, rfl, m, b, rfl, rfl, hm, hbf, hbt⟩ := hrel
        clear fb f8 f1 f2
        have HM := Lib.hid hm
        have HBF := Lib.hid hbf
        have HBT := Lib.hid hbt
        clear hbf hbt hm
        have hmono := dvl_succ d k
        have HS := Lib.hid hmono
        clear hmono
        by_cases hlt' : k < d.size
        · have hc := HC.out k hlt'
          have hb := byt_bd d k
          obtain ⟨hb0, hb1⟩ := hb
          by_cases hd0 : 48 ≤ byt d k
          · by_cases hd1 : byt d k ≤ 57
            · have hg' := digs_succ hg hd0 hd1
              have HG' := Lib.hid hg'
              clear hg'
              by_cases hbig : (1844674407370955160 : Int) < m
              · go_wp2_with fail
                go_round
                case rel => exact ⟨k + 1, by omega, HG'.out, by go_num, by go_num, m, true, rfl, rfl, HM.out, (fun h => by cases h), (fun _ => ⟨by omega, by
                  rw [HS.out]
                  cases b
                  · have := HBF.out rfl; omega
                  · have := HBT.out rfl; omega⟩)⟩
                case measure => simp [intOf]; omega
              · have hbf : b = false := by
                  cases b
                  · rfl
                  · exact absurd (HBT.out rfl).1 (by omega)
                subst hbf
                go_wp2_with fail
                go_round
                case rel => exact ⟨k + 1, by omega, HG'.out, by go_num, by go_num, 10 * m + (byt d k - 48).toNat, false, by congr 1; omega, rfl, by omega, (fun _ => by rw [HS.out, HBF.out rfl]), (fun h => by cases h)⟩
                case measure => simp [intOf]; omega
            · have hbad : ¬ digs d d.size := fun h => by have := h k hlt'; omega
              have HR := Lib.hid (par_bad (HBN.out hbad))
              clear hbad
              go_wp2_with fail
              try rw [Exit.noGoto_ret]
              go_ret2
              exact ⟨HR.out, HB.out⟩
          · have hbad : ¬ digs d d.size := fun h => by have := h k hlt'; omega
            have HR := Lib.hid (par_bad (HBN.out hbad))
            clear hbad
            go_wp2_with fail
            try rw [Exit.noGoto_ret]
            go_ret2
            exact ⟨HR.out, HB.out⟩
        · obtain rfl : k = d.size := by omega
          cases b
          · have HMM : Hid (m = dvl d d.size) := HBF.out rfl
            go_wp2_with fail
            have hm := HM.out
            refine (numSigned _ _ _ (by omega) (by omega)).mono ?_; clear hm; rintro e w' ⟨rfl, rfl⟩
            go_wp2_with fail
            try rw [Exit.noGoto_ret]
            go_ret2
            obtain ⟨p1, p2⟩ := par_good (HG.out hg)
            refine ⟨?_, HB.out⟩
            rw [p1, p2, HDEN.out, HN.out, ← HMM.out]
            simp
          · have hv := (HBT.out rfl).2
            have HR := Lib.hid (HOV.out d.size (Nat.le_refl _) hg hv)
            clear hv
            go_wp2_with fail
            try rw [Exit.noGoto_ret]
            go_ret2
            exact ⟨HR.out, HB.out⟩
end

section
open Go.RowKit

/-- The table that strconv reads is as the library's text lays it. -/
def Tab (w : World) : Prop := Lib.TabIs Tryz.prog w "internal/strconv.uint64pow10" .u64 Lib.pow10Tab
theorem gPow : Tryz.prog.globalNamed "internal/strconv.uint64pow10" = some 0 := by kernel_rfl
theorem Tab.lt {w : World} (h : Tab w) : 0 < w.heap.size := by
  have := Lib.TabIs.cell h gPow 0 (by decide)
  exact World.block_lt_of_cell? _ _ this
theorem Tab.below {w w' : World} (h : Tab w) (hb : Below w.heap.size w w') : Tab w' :=
  var?_below hb gPow h.lt h
theorem Tab.drewN {w : World} (h : Tab w) (n : Nat) : Tab (w.drewN n) := h
theorem below_grow (w : World) (n : Nat) (os : Array Obj) : Below w.heap.size w (Go.Sort.grow (w.drewN n) os) :=
  ⟨rfl, rfl, rfl, by show w.heap.size ≤ (w.heap ++ os).size; simp, fun k hk => by show (w.heap ++ os)[k]? = _; rw [Array.getElem?_append_left hk]⟩

/-- The decimal form of a number, as a string. -/
def fmtS (n : Int) : ByteArray := ⟨(Lib.itoa n).toArray⟩

theorem numFormat (n : Int) (w : World) (h0 : -9223372036854775808 ≤ n) (h1 : n ≤ 9223372036854775807) (ht : Tab w) :
    Calls Tryz.prog 77 #[.int .i64 n] w fun e w' => e = .returned (.string (fmtS n)) ∧ Below w.heap.size w w' := by
  have H := Lib.hid ht
  clear ht
  go_enter Tryz.func77, Tryz.ntmps77
  go_wp2_with fail
  refine (Tryz.strconv_Itoa n h0 h1 _ H.out).mono ?_; rintro e w' ⟨rfl, k, os, rfl⟩
  go_wp2_with fail
  go_ret
  exact ⟨rfl, below_grow w k os⟩

theorem twelve : parV ⟨#[45, 49, 50]⟩ = -12 ∧ parE ⟨#[45, 49, 50]⟩ = 0 := by
  have hb : body ⟨#[45, 49, 50]⟩ = ⟨#[49, 50]⟩ := by decide
  have hn : isNeg ⟨#[45, 49, 50]⟩ = true := by decide
  have hg : ¬ badForm ⟨#[45, 49, 50]⟩ := by
    unfold badForm
    rw [hb]
    intro h
    rcases h with h | h | h
    · exact absurd h (by decide)
    · refine h ?_
      have : ∀ j, j < 2 → 48 ≤ byt ⟨#[49, 50]⟩ j ∧ byt ⟨#[49, 50]⟩ j ≤ 57 := by decide
      exact this
    · exact absurd h.1 (by decide)
  obtain ⟨p1, p2⟩ := par_good hg
  have hd : den ⟨#[45, 49, 50]⟩ = -12 := by unfold den; rw [hn, hb]; decide
  rw [p1, p2, hd]
  exact ⟨by decide, by decide⟩
end

section
open Go.RowKit

theorem toList_one (s : ByteArray) : (s.toList == [48]) = decide (s.size = 1 ∧ byt s 0 = 48) := by
  obtain ⟨⟨l⟩⟩ := s
  have e : (ByteArray.mk ⟨l⟩).toList = l := by simp
  have e2 : (ByteArray.mk ⟨l⟩).size = l.length := rfl
  have e3 : byt (ByteArray.mk ⟨l⟩) 0 = ((l.getD 0 0).toNat : Int) := rfl
  rw [e, e2, e3]
  match l with
  | [] => simp
  | [x] =>
    simp only [List.length_singleton, List.getD_cons_zero, true_and]
    rw [Bool.eq_iff_iff]
    simp only [beq_iff_eq, List.cons.injEq, and_true, decide_eq_true_eq]
    constructor
    · rintro rfl; rfl
    · intro h
      exact UInt8.toNat_inj.1 (by simpa using (by omega : x.toNat = 48))
  | x :: y :: r => simp
end

section
open Go.RowKit

theorem bytes_eq {b c : ByteArray} (h : b.data.toList = c.data.toList) : b = c := by
  obtain ⟨⟨l⟩⟩ := b
  obtain ⟨⟨m⟩⟩ := c
  simp at h
  rw [h]
theorem fmtS_data (n : Int) : (fmtS n).data.toList = Lib.itoa n := by simp [fmtS]
theorem dec_len {u : Nat} (h : u ≤ 9223372036854775808) : (Lib.decDigits u).length ≤ 21 := by
  by_cases hz : u = 0
  · subst hz
    rw [Lib.decDigits, dif_pos (by decide)]; simp
  · have h1 := Lib.itoa_neg u (by omega)
    have h2 := Lib.itoa_length_le (-(u : Int)) (by omega) (by omega)
    rw [h1] at h2
    simp at h2; omega
end

section
open Go.RowKit

/-- The value of a list of digits. -/
def lval (l : List UInt8) : Nat := l.foldl (fun a b => 10 * a + (b.toNat - 48)) 0
theorem lval_snoc (l : List UInt8) (c : UInt8) : lval (l ++ [c]) = 10 * lval l + (c.toNat - 48) := by simp [lval]
theorem take_snoc' (l : List UInt8) (k : Nat) (h : k < l.length) : l.take (k + 1) = l.take k ++ [l.getD k 0] := by
  rw [List.take_succ_eq_append_getElem h, List.getD_eq_getElem?_getD, List.getElem?_eq_getElem h]; rfl
theorem dvl_take (d : ByteArray) (k : Nat) (h : k ≤ d.size) : dvl d k = lval (d.data.toList.take k) := by
  induction k with
  | zero => rfl
  | succ k ih =>
    rw [take_snoc' _ _ (by rw [Lib.size_eq] at h; omega), lval_snoc, dvl_succ, ih (by omega)]
    unfold byt; omega
theorem dvl_all (d : ByteArray) : dvl d d.size = lval d.data.toList := by
  rw [dvl_take d d.size (Nat.le_refl _), List.take_of_length_le (by rw [Lib.size_eq]; exact Nat.le_refl _)]

/-- All are digits. -/
def ldig (l : List UInt8) : Prop := ∀ b ∈ l, 48 ≤ b.toNat ∧ b.toNat ≤ 57
theorem digs_list (d : ByteArray) : digs d d.size ↔ ldig d.data.toList := by
  constructor
  · intro h b hb
    obtain ⟨i, hi, rfl⟩ := List.mem_iff_getElem.1 hb
    have := h i (by rw [Lib.size_eq]; exact hi)
    unfold byt at this
    rw [List.getD_eq_getElem?_getD, List.getElem?_eq_getElem hi] at this
    simp only [Option.getD_some] at this
    omega
  · intro h j hj
    have hj' : j < d.data.toList.length := by rw [← Lib.size_eq]; exact hj
    have := h _ (List.getElem_mem hj')
    unfold byt
    rw [List.getD_eq_getElem?_getD, List.getElem?_eq_getElem hj']
    simp only [Option.getD_some]
    omega

theorem dec_ldig (u : Nat) : ldig (Lib.decDigits u) := by
  induction u using Nat.strongRecOn with
  | ind u ih =>
    rw [Lib.decDigits]
    split
    · intro b hb
      simp only [List.mem_singleton] at hb
      subst hb
      have : (UInt8.ofNat (48 + u)).toNat = 48 + u := by simp; omega
      rw [this]; omega
    · intro b hb
      rcases List.mem_append.1 hb with hb | hb
      · exact ih (u / 10) (by omega) b hb
      · simp only [List.mem_singleton] at hb
        subst hb
        have : (UInt8.ofNat (48 + u % 10)).toNat = 48 + u % 10 := by simp; omega
        rw [this]; omega
theorem dec_lval (u : Nat) : lval (Lib.decDigits u) = u := by
  induction u using Nat.strongRecOn with
  | ind u ih =>
    rw [Lib.decDigits]
    split
    · have : (UInt8.ofNat (48 + u)).toNat = 48 + u := by simp; omega
      simp only [lval, List.foldl_cons, List.foldl_nil]
      rw [this]; omega
    · have : (UInt8.ofNat (48 + u % 10)).toNat = 48 + u % 10 := by simp; omega
      rw [lval_snoc, ih (u / 10) (by omega), this]; omega
theorem dec_ne (u : Nat) : Lib.decDigits u ≠ [] := by
  rw [Lib.decDigits]; split <;> simp
theorem dec_head (u : Nat) (h : 1 ≤ u) : ((Lib.decDigits u).getD 0 0).toNat ≠ 48 := by
  induction u using Nat.strongRecOn with
  | ind u ih =>
    rw [Lib.decDigits]
    split
    · have : (UInt8.ofNat (48 + u)).toNat = 48 + u := by simp; omega
      simp only [List.getD_cons_zero]
      omega
    · have h1 := ih (u / 10) (by omega) (by omega)
      have h2 := dec_ne (u / 10)
      match hd : Lib.decDigits (u / 10) with
      | [] => exact absurd hd h2
      | x :: r => rw [hd] at h1; simpa using h1
theorem dec_small (u : Nat) (h : u < 10) : (Lib.decDigits u).length = 1 := by
  rw [Lib.decDigits, dif_pos h]; rfl

theorem lval_pos (x : UInt8) (r : List UInt8) (h : 49 ≤ x.toNat) : 1 ≤ lval (x :: r) := by
  have : ∀ (r : List UInt8) (a : Nat), 1 ≤ a → 1 ≤ r.foldl (fun a b => 10 * a + (b.toNat - 48)) a := by
    intro r
    induction r with
    | nil => intro a h; exact h
    | cons y r ih => intro a h; exact ih _ (by show 1 ≤ 10 * a + (y.toNat - 48); omega)
  exact this r _ (by show 1 ≤ 10 * 0 + (x.toNat - 48); omega)
/-- A list of digits without a leading zero is the decimal form of its value. -/
theorem dec_of_lval (n : Nat) : ∀ l : List UInt8, l.length = n + 1 → ldig l → ((l.getD 0 0).toNat ≠ 48 ∨ l.length = 1) → Lib.decDigits (lval l) = l := by
  induction n with
  | zero =>
    intro l hl hd _
    match l, hl with
    | [c], _ =>
      have hc := hd c (by simp)
      have hv : lval [c] = c.toNat - 48 := by simp [lval]
      rw [hv, Lib.decDigits, dif_pos (by omega)]
      have : UInt8.ofNat (48 + (c.toNat - 48)) = c := by
        rw [show 48 + (c.toNat - 48) = c.toNat by omega]; simp
      rw [this]
  | succ n ih =>
    intro l hl hd hh
    have hne : l ≠ [] := by intro e; rw [e] at hl; simp at hl
    obtain ⟨l', c, rfl⟩ : ∃ l' c, l = l' ++ [c] := ⟨l.dropLast, l.getLast hne, (List.dropLast_concat_getLast hne).symm⟩
    have hl' : l'.length = n + 1 := by simpa using hl
    have hd' : ldig l' := fun b hb => hd b (List.mem_append_left _ hb)
    have hc := hd c (by simp)
    match l', hl' with
    | x :: r, hl' =>
      have hx : x.toNat ≠ 48 := by
        rcases hh with h | h
        · simpa using h
        · simp at h
      have hx' := hd' x (by simp)
      have hp := lval_pos x r (by omega)
      rw [lval_snoc, Lib.decDigits, dif_neg (by omega)]
      rw [show (10 * lval (x :: r) + (c.toNat - 48)) / 10 = lval (x :: r) by omega, ih _ hl' hd' (.inl hx)]
      have : UInt8.ofNat (48 + (10 * lval (x :: r) + (c.toNat - 48)) % 10) = c := by
        rw [show 48 + (10 * lval (x :: r) + (c.toNat - 48)) % 10 = c.toNat by omega]; simp
      rw [this]

theorem byt_zero (d : ByteArray) : byt d 0 = ((d.data.toList.getD 0 0).toNat : Int) := rfl

/-- The decimal form of a number parses to the number. -/
theorem par_fmt (n : Int) (h0 : -9223372036854775808 ≤ n) (h1 : n ≤ 9223372036854775807) : parV (fmtS n) = n ∧ parE (fmtS n) = 0 := by
  have key : ∀ (d : ByteArray) (u : Nat), body (fmtS n) = d → d.data.toList = Lib.decDigits u → isNeg (fmtS n) = decide (n < 0) → u = n.natAbs → parV (fmtS n) = n ∧ parE (fmtS n) = 0 := by
    intro d u hb hd hn hu
    have hg : ¬ badForm (fmtS n) := by
      unfold badForm
      rw [hb]
      intro h
      rcases h with h | h | ⟨h, h2⟩
      · rw [Lib.size_eq, hd] at h
        exact dec_ne u (List.eq_nil_of_length_eq_zero h)
      · exact h ((digs_list d).2 (by rw [hd]; exact dec_ldig u))
      · rw [byt_zero, hd] at h
        have hu0 : u = 0 := by
          apply Classical.byContradiction
          intro e
          exact dec_head u (by omega) (by omega)
        rcases h2 with h2 | h2
        · rw [Lib.size_eq, hd, dec_small u (by omega)] at h2; omega
        · rw [hn] at h2; simp at h2; omega
    obtain ⟨p1, p2⟩ := par_good hg
    have hden : den (fmtS n) = n := by
      unfold den
      rw [hb, hn, dvl_all, hd, dec_lval]
      by_cases h : n < 0
      · rw [if_pos (by simpa using h)]; omega
      · rw [if_neg (by simpa using h)]; omega
    rw [p1, p2, hden]
    exact ⟨cV_yes h0 h1, cE_yes h0 h1⟩
  by_cases hn : n < 0
  · have e : (fmtS n).data.toList = 45 :: Lib.decDigits n.natAbs := by
      rw [fmtS_data]; unfold Lib.itoa; rw [if_pos hn]
    have hneg : isNeg (fmtS n) = true := by
      unfold isNeg
      simp only [decide_eq_true_eq]
      refine ⟨by rw [Lib.size_eq, e]; simp, by rw [byt_zero, e]; rfl⟩
    refine key _ n.natAbs rfl ?_ (by rw [hneg]; simpa using hn) rfl
    unfold body
    rw [if_pos hneg, Lib.extract_data, e]
    rw [Lib.size_eq, e]
    simp
  · have e : (fmtS n).data.toList = Lib.decDigits n.natAbs := by
      rw [fmtS_data]; unfold Lib.itoa; rw [if_neg hn]; congr 1; omega
    have hneg : isNeg (fmtS n) = false := by
      unfold isNeg
      simp only [decide_eq_false_iff_not]
      rintro ⟨_, h⟩
      rw [byt_zero, e] at h
      match hd : Lib.decDigits n.natAbs with
      | [] => exact dec_ne _ hd
      | x :: r =>
        have := dec_ldig n.natAbs x (by rw [hd]; simp)
        rw [hd] at h
        simp at h
        omega
    refine key _ n.natAbs ((body_size _).2 hneg) e (by rw [hneg]; simpa using hn) rfl

theorem fmt_size (n : Int) (h0 : -9223372036854775808 ≤ n) (h1 : n ≤ 9223372036854775807) : (fmtS n).size ≤ 21 := by
  rw [Lib.size_eq, fmtS_data]; exact Lib.itoa_length_le n h0 h1

/-- What parses is the decimal form of the number. -/
theorem fmt_par (s : ByteArray) (h : parE s = 0) : fmtS (parV s) = s ∧ -9223372036854775808 ≤ parV s ∧ parV s ≤ 9223372036854775807 := by
  have hg : ¬ badForm s := by
    intro hb
    unfold parE at h
    rw [if_pos hb] at h
    omega
  obtain ⟨p1, p2⟩ := par_good hg
  rw [p2] at h
  obtain ⟨f1, f2⟩ := cE_zero h
  have hv : parV s = den s := by rw [p1, cV_yes f1 f2]
  rw [hv]
  refine ⟨?_, f1, f2⟩
  unfold badForm at hg
  have g1 : ¬ (body s).size = 0 := fun e => hg (.inl e)
  have g2 : ldig (body s).data.toList := (digs_list _).1 (Classical.byContradiction fun e => hg (.inr (.inl e)))
  have g3 : ¬ (byt (body s) 0 = 48 ∧ (1 < (body s).size ∨ isNeg s = true)) := fun e => hg (.inr (.inr e))
  have g1' : (body s).data.toList.length ≠ 0 := by rw [← Lib.size_eq]; exact g1
  obtain ⟨k, hk⟩ : ∃ k, (body s).data.toList.length = k + 1 := ⟨(body s).data.toList.length - 1, by omega⟩
  have hdec : Lib.decDigits (lval (body s).data.toList) = (body s).data.toList := by
    refine dec_of_lval k _ hk g2 ?_
    by_cases e : ((body s).data.toList.getD 0 0).toNat = 48
    · right
      apply Classical.byContradiction
      intro e2
      exact g3 ⟨by rw [byt_zero]; omega, .inl (by rw [Lib.size_eq]; omega)⟩
    · exact .inl e
  refine bytes_eq ?_
  rw [fmtS_data]
  unfold den
  rw [dvl_all]
  cases hn : isNeg s
  · rw [if_neg (by simp), Lib.itoa_nonneg, hdec, (body_size s).2 hn]
  · have hp : 1 ≤ lval (body s).data.toList := by
      match hd : (body s).data.toList with
      | [] => rw [hd] at hk; simp at hk
      | x :: r =>
        have hx := g2 x (by rw [hd]; simp)
        have hx2 : x.toNat ≠ 48 := by
          intro e
          refine g3 ⟨?_, .inr hn⟩
          rw [byt_zero, hd]; simp; omega
        exact lval_pos x r (by omega)
    rw [if_pos rfl, Lib.itoa_neg _ hp, hdec]
    have hb : body s = s.extract 1 s.size := by unfold body; rw [hn]; rfl
    rw [hb, Lib.extract_data]
    unfold isNeg at hn
    simp at hn
    obtain ⟨hz, h45⟩ := hn
    rw [byt_zero] at h45
    match hd : s.data.toList with
    | [] => rw [Lib.size_eq, hd] at hz; simp at hz
    | x :: r =>
      rw [hd] at h45
      simp only [List.getD_cons_zero] at h45
      have : x = 45 := by
        apply UInt8.toNat_inj.1
        have : x.toNat = 45 := by omega
        rw [this]; rfl
      rw [this, Lib.size_eq, hd]
      simp
end
end Go.Proofs.YtbgficaboolgiaaGreatDoor

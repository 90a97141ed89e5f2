/-
  The contracts of the reference's digits and Parse.
-/
import Derived.Test.YtbjcbndmafddoaaDoorParse
namespace Go.Proofs.YtbjcbndmafddoaaDoor
open Go.RowKit

set_option maxHeartbeats 1000000 in
theorem refDigits_yes (d : ByteArray) (w : World) (hs : d.size ≤ maxLen) (hg : digs d d.size) (hz : 0 < d.size) :
    Calls Tryd.prog 84 #[.string d] w fun e w' => e = .returned (.bool true) ∧ w = w' := by
  unfold maxLen at hs
  go_enter Tryd.func84, Tryd.ntmps84
  go_wp2_with fail
  go_loop [3] (fun c => ∃ k : Nat, k ≤ d.size ∧ c = .int .i64 k) (fun c => d.size - (intOf c).toNat)
  case atStart => exact ⟨0, Nat.zero_le _, rfl⟩
  case round =>
    obtain ⟨k, hk, rfl⟩ := hrel
    by_cases hlt : k < d.size
    · have hb := hg k hlt
      rw [byt_at d k hlt] at hb
      obtain ⟨b1, b2⟩ := hb
      go_wp2_with fail
      go_round
      case rel => exact ⟨k + 1, by omega, by go_num⟩
      case measure => simp [intOf]; omega
    · obtain rfl : k = d.size := by omega
      go_wp2_with fail
      go_ret
      exact ⟨rfl, rfl⟩

set_option maxHeartbeats 1000000 in
theorem refDigits_no (d : ByteArray) (w : World) (hs : d.size ≤ maxLen) (hg : ¬ digs d d.size ∨ d.size = 0) :
    Calls Tryd.prog 84 #[.string d] w fun e w' => e = .returned (.bool false) ∧ w = w' := by
  unfold maxLen at hs
  have HG := Lib.hid hg
  clear hg
  go_enter Tryd.func84, Tryd.ntmps84
  go_wp2_with fail
  go_loop [3] (fun c => ∃ k : Nat, k ≤ d.size ∧ digs d k ∧ c = .int .i64 k) (fun c => d.size - (intOf c).toNat)
  case atStart => exact ⟨0, Nat.zero_le _, digs_zero d, rfl⟩
  case round =>
    obtain ⟨k, hk, hd, rfl⟩ := hrel
    by_cases hlt : k < d.size
    · have hb := byt_at d k hlt
      have HB := Lib.hid hb
      clear hb
      have hd' : 48 ≤ byt d k → byt d k ≤ 57 → digs d (k + 1) := fun h1 h2 => digs_succ hd h1 h2
      rw [HB.out] at hd'
      have HD := Lib.hid hd'
      clear hd hd'
      by_cases h1 : 48 ≤ (d[k].toNat : Int)
      · by_cases h2 : (d[k].toNat : Int) ≤ 57
        · have H1 := Lib.hid h1
          have H2 := Lib.hid h2
          go_wp2_with fail
          go_round
          case rel => exact ⟨k + 1, by omega, HD.out H1.out H2.out, by go_num⟩
          case measure => simp [intOf]; omega
        · go_wp2_with fail
          go_ret
          exact ⟨rfl, rfl⟩
      · go_wp2_with fail
        go_ret
        exact ⟨rfl, rfl⟩
    · obtain rfl : k = d.size := by omega
      have hz : d.size = 0 := by
        rcases HG.out with h | h
        · exact absurd hd h
        · exact h
      have hz' : decide (0 < d.size) = false := decide_eq_false (by omega)
      clear hz
      go_wp2_with fail
      go_ret
      exact ⟨rfl, rfl⟩

theorem toList_one (s : ByteArray) : (s.toList == [48]) = decide (s.size = 1 ∧ byt s 0 = 48) := by
  obtain ⟨⟨l⟩⟩ := s
  have e : (ByteArray.mk ⟨l⟩).toList = l := by simp
  have e2 : (ByteArray.mk ⟨l⟩).size = l.length := rfl
  have e3 : byt (ByteArray.mk ⟨l⟩) 0 = ((l.getD 0 0).toNat : Int) := rfl
  rw [e, e2, e3]
  match l with
  | [] => simp
  | [x] =>
    simp only [List.length_singleton, List.getD_cons_zero, true_and]
    rw [Bool.eq_iff_iff]
    simp only [beq_iff_eq, List.cons.injEq, and_true, decide_eq_true_eq]
    constructor
    · rintro rfl; rfl
    · intro h
      exact UInt8.toNat_inj.1 (by simpa using (by omega : x.toNat = 48))
  | x :: y :: r => simp

set_option maxRecDepth 100000 in
set_option maxHeartbeats 4000000 in
theorem refParse (s : ByteArray) (w : World) (hs : s.size ≤ maxLen) :
    Calls Tryd.prog 60 #[.string s] w fun e w' => e = .returned (.tuple #[.int .i64 (parV s), .int .i64 (parE s)]) ∧ w = w' := by
  unfold maxLen at hs
  obtain ⟨d, hd⟩ : ∃ d, d = body s := ⟨_, rfl⟩
  have hbs := body_size s
  rw [← hd] at hbs
  have HD := Lib.hid hd
  have hone := toList_one s
  have hcase : (isNeg s = true ∧ 0 < s.size ∧ byt s 0 = 45 ∧ s.extract 1 s.size = d ∧ d.size < s.size) ∨ (isNeg s = false ∧ s.size = 0 ∧ d = s) ∨ (isNeg s = false ∧ 0 < s.size ∧ byt s 0 ≠ 45 ∧ d = s) := by
    cases hn : isNeg s
    · have e := hbs.2 hn
      unfold isNeg at hn
      simp at hn
      by_cases h : s.size = 0
      · exact .inr (.inl ⟨rfl, h, e⟩)
      · exact .inr (.inr ⟨rfl, by omega, hn (by omega), e⟩)
    · have e := hbs.1 hn
      have e2 : s.extract 1 s.size = d := by rw [hd]; unfold body; rw [hn]; rfl
      unfold isNeg at hn
      simp at hn
      exact .inl ⟨rfl, hn.1, hn.2, e2, by omega⟩
  have hds : d.size ≤ s.size := by
    rcases hcase with h | h | h
    · omega
    · rw [h.2.2]; omega
    · rw [h.2.2.2]; omega
  clear hbs hd
  have hdm : d.size ≤ maxLen := by unfold maxLen; omega
  by_cases hdg : ¬ digs d d.size ∨ d.size = 0
  · have hbad : badForm s := by
      rcases hdg with h | h
      · exact .inr (.inl (by rw [← HD.out]; exact h))
      · exact .inl (by rw [← HD.out]; exact h)
    have HR := Lib.hid (par_bad hbad)
    have HG := Lib.hid hdg
    have HM := Lib.hid hdm
    clear hbad hdg hone hdm
    rcases hcase with ⟨hneg, hpos, hb, hex, hlt⟩ | ⟨hneg, hz, hds'⟩ | ⟨hneg, hpos, hb, hds'⟩
    · rw [byt_at s 0 hpos] at hb
      have fb : ((s[0].toNat : Int) == 45) = true := by simpa using hb
      clear hb hneg
      go_enter Tryd.func60, Tryd.ntmps60
      go_wp2_with fail
      refine (refDigits_no d _ HM.out HG.out).mono ?_; rintro e w' ⟨rfl, rfl⟩
      go_wp2_with fail
      go_ret2
      exact ⟨HR.out, rfl⟩
    · subst hds'
      clear hneg
      go_enter Tryd.func60, Tryd.ntmps60
      go_wp2_with fail
      refine (refDigits_no d _ HM.out HG.out).mono ?_; rintro e w' ⟨rfl, rfl⟩
      go_wp2_with fail
      go_ret2
      exact ⟨HR.out, rfl⟩
    · subst hds'
      rw [byt_at d 0 hpos] at hb
      have fb : ((d[0].toNat : Int) == 45) = false := by simpa using hb
      clear hb hneg
      go_enter Tryd.func60, Tryd.ntmps60
      go_wp2_with fail
      refine (refDigits_no d _ HM.out HG.out).mono ?_; rintro e w' ⟨rfl, rfl⟩
      go_wp2_with fail
      go_ret2
      exact ⟨HR.out, rfl⟩
  have hg : digs d d.size := Classical.byContradiction fun h => hdg (.inl h)
  have hz : 0 < d.size := by
    apply Classical.byContradiction; intro h; exact hdg (.inr (by omega))
  have CD : Hid (∀ w, Calls Tryd.prog 84 #[.string d] w fun e w' => e = .returned (.bool true) ∧ w = w') := fun w => refDigits_yes d w hdm hg hz
  have HG := Lib.hid hg
  clear hdg hdm hg
  by_cases hlead : byt d 0 = 48 ∧ (1 < d.size ∨ isNeg s = true)
  · have hbad : badForm s := .inr (.inr (by rw [← HD.out]; exact hlead))
    have HR := Lib.hid (par_bad hbad)
    clear hbad
    rcases hcase with ⟨hneg, hpos, hb, hex, hlt⟩ | ⟨hneg, hz', hds'⟩ | ⟨hneg, hpos, hb, hds'⟩
    · have fo : (!(s.toList == [48])) = true := by rw [hone]; simp; omega
      obtain ⟨h8, _⟩ := hlead
      rw [byt_at s 0 hpos] at hb
      rw [byt_at d 0 hz] at h8
      have fb : ((s[0].toNat : Int) == 45) = true := by simpa using hb
      have f8 : ((d[0].toNat : Int) == 48) = true := by simpa using h8
      clear hb hneg hone h8
      go_enter Tryd.func60, Tryd.ntmps60
      go_wp2_with fail
      refine (CD.out _).mono ?_; rintro e w' ⟨rfl, rfl⟩
      go_wp2_with fail
      go_ret2
      exact ⟨HR.out, rfl⟩
    · subst hds'; omega
    · subst hds'
      have fo : (!(d.toList == [48])) = true := by
        rw [hone, decide_eq_false (by
          intro h
          rw [hneg] at hlead; simp at hlead; omega)]
        rfl
      obtain ⟨h8, _⟩ := hlead
      rw [byt_at d 0 hpos] at hb h8
      have fb : ((d[0].toNat : Int) == 45) = false := by simpa using hb
      have f8 : ((d[0].toNat : Int) == 48) = true := by simpa using h8
      clear hb hneg hone h8
      go_enter Tryd.func60, Tryd.ntmps60
      go_wp2_with fail
      refine (CD.out _).mono ?_; rintro e w' ⟨rfl, rfl⟩
      go_wp2_with fail
      go_ret2
      exact ⟨HR.out, rfl⟩
  have hgood : ¬ badForm s := by
    intro hb
    unfold badForm at hb
    rw [← HD.out] at hb
    rcases hb with h | h | h
    · omega
    · exact h HG.out
    · exact hlead h
  obtain ⟨p1, p2⟩ := par_good hgood
  have hden : den s = if isNeg s then -(dvl d d.size : Int) else dvl d d.size := by unfold den; rw [← HD.out]
  have hov : ∀ k, k ≤ d.size → 9223372036854775808 < dvl d k → Ending.returned (.tuple #[.int .i64 0, .int .i64 3]) = .returned (.tuple #[.int .i64 (parV s), .int .i64 (parE s)]) := fun k hk hv => by
    refine par_over hgood ?_
    rw [← HD.out]; have := dvl_mono d hk; omega
  have HOV := Lib.hid hov
  have hfin : dvl d d.size ≤ 9223372036854775808 → (isNeg s = true → Ending.returned (.tuple #[.int .i64 (-(dvl d d.size : Int)), .int .i64 0]) = .returned (.tuple #[.int .i64 (parV s), .int .i64 (parE s)])) ∧
      (isNeg s = false → Ending.returned (.tuple #[.int .i64 (cV (dvl d d.size : Int)), .int .i64 (cE (dvl d d.size : Int))]) = .returned (.tuple #[.int .i64 (parV s), .int .i64 (parE s)])) := by
    intro h
    rw [p1, p2, hden]
    constructor
    · intro hn
      rw [hn, if_pos rfl]
      exact ret_c (.inl ⟨by omega, by omega, rfl, rfl⟩)
    · intro hn
      rw [hn]; rfl
  have HF := Lib.hid hfin
  clear hov hfin hden p1 p2
  have hthree : (isNeg s = true ∧ 0 < s.size ∧ byt s 0 = 45 ∧ s.extract 1 s.size = d ∧ d.size < s.size ∧ byt d 0 ≠ 48) ∨ (isNeg s = false ∧ d = s ∧ byt d 0 ≠ 45 ∧ byt d 0 = 48 ∧ d.size = 1) ∨ (isNeg s = false ∧ d = s ∧ byt d 0 ≠ 45 ∧ byt d 0 ≠ 48) := by
    rcases hcase with ⟨hneg, hpos, hb, hex, hlt⟩ | ⟨hneg, hz', hds'⟩ | ⟨hneg, hpos, hb, hds'⟩
    · exact .inl ⟨hneg, hpos, hb, hex, hlt, fun h => hlead ⟨h, .inr hneg⟩⟩
    · subst hds'; omega
    · by_cases h : byt d 0 = 48
      · refine .inr (.inl ⟨hneg, hds', by rw [hds']; exact hb, h, ?_⟩)
        by_cases h1 : 1 < d.size
        · exact absurd ⟨h, .inl h1⟩ hlead
        · omega
      · exact .inr (.inr ⟨hneg, hds', by rw [hds']; exact hb, h⟩)
  clear hcase hlead
  rcases hthree with ⟨hneg, hpos, hb, hex, hlt, hb8⟩ | ⟨hneg, hds', hb, hb8, h1⟩ | ⟨hneg, hds', hb, hb8⟩
  · rw [byt_at s 0 hpos] at hb
    rw [byt_at d 0 hz] at hb8
    have fb : ((s[0].toNat : Int) == 45) = true := by simpa using hb
    have f8 : ((d[0].toNat : Int) == 48) = false := by simpa using hb8
    clear hb hb8 hone
    have HN := Lib.hid hneg
    clear hneg
    go_enter Tryd.func60, Tryd.ntmps60
    go_wp2_with fail
    refine (CD.out _).mono ?_; rintro e w' ⟨rfl, rfl⟩
    go_wp2_with fail
    go_loop [6, 7] (fun n c => ∃ k : Nat, k ≤ d.size ∧ dvl d k ≤ 9223372036854775808 ∧ c = .int .i64 k ∧ n = .int .i64 (-(dvl d k : Int))) (fun _ c => d.size - (intOf c).toNat)
    case atStart => exact ⟨0, Nat.zero_le _, by simp [dvl], rfl, rfl⟩
    case round =>
      obtain ⟨k, hk, hv, rfl, rfl⟩ := hrel
      clear fb f8
      by_cases hlt' : k < d.size
      · have hb := HG.out k hlt'
        have hs1 := dvl_succ d k
        rw [byt_at d k hlt'] at hb hs1
        obtain ⟨b0, b1⟩ := hb
        have HS := Lib.hid hs1
        clear hs1
        by_cases hov1 : 9223372036854775808 < 10 * dvl d k
        · have e1 : cE (-(dvl d k : Int) * 10) = 3 := cE_no (by omega)
          have e2 : cV (-(dvl d k : Int) * 10) = 0 := cV_no (by omega)
          have HR := Lib.hid (HOV.out (k + 1) (by omega) (by rw [HS.out]; omega))
          have E1 := Lib.hid e1
          have E2 := Lib.hid e2
          clear e1 e2
          go_wp2_with fail
          refine (refMul (-(dvl d k : Int)) 10 _ (by omega) (by omega) (by omega) (by omega)).mono ?_; rintro e w' ⟨rfl, rfl⟩
          rw [E1.out, E2.out]
          go_wp2_with fail
          refine (refSub 0 _ _ (by omega) (by omega) (by omega) (by omega)).mono ?_; rintro e w' ⟨rfl, rfl⟩
          go_wp2_with fail
          go_ret2
          exact ⟨HR.out, rfl⟩
        · have e1 : cE (-(dvl d k : Int) * 10) = 0 := cE_yes (by omega) (by omega)
          have e2 : cV (-(dvl d k : Int) * 10) = -(10 * (dvl d k : Int)) := by rw [cV_yes (by omega) (by omega)]; omega
          have E1 := Lib.hid e1
          have E2 := Lib.hid e2
          clear e1 e2
          by_cases hov2 : 9223372036854775808 < dvl d (k + 1)
          · have e3 : cE (-(10 * (dvl d k : Int)) - ((d[k].toNat : Int) - 48)) = 3 := cE_no (by have := HS.out; omega)
            have e4 : cV (-(10 * (dvl d k : Int)) - ((d[k].toNat : Int) - 48)) = 0 := cV_no (by have := HS.out; omega)
            have HR := Lib.hid (HOV.out (k + 1) (by omega) hov2)
            have E3 := Lib.hid e3
            have E4 := Lib.hid e4
            clear e3 e4 hov2
            go_wp2_with fail
            refine (refMul (-(dvl d k : Int)) 10 _ (by omega) (by omega) (by omega) (by omega)).mono ?_; rintro e w' ⟨rfl, rfl⟩
            rw [E1.out, E2.out]
            go_wp2_with fail
            refine (refSub (-(10 * (dvl d k : Int))) ((d[k].toNat : Int) - 48) _ (by omega) (by omega) (by omega) (by omega)).mono ?_; rintro e w' ⟨rfl, rfl⟩
            rw [E3.out, E4.out]
            go_wp2_with fail
            go_ret2
            exact ⟨HR.out, rfl⟩
          · have hle : dvl d (k + 1) ≤ 9223372036854775808 := by omega
            have e5 : -(10 * (dvl d k : Int)) - ((d[k].toNat : Int) - 48) = -(dvl d (k + 1) : Int) := by have := HS.out; omega
            have e3 : cE (-(10 * (dvl d k : Int)) - ((d[k].toNat : Int) - 48)) = 0 := by rw [e5]; exact cE_yes (by omega) (by omega)
            have e4 : cV (-(10 * (dvl d k : Int)) - ((d[k].toNat : Int) - 48)) = -(dvl d (k + 1) : Int) := by rw [e5]; exact cV_yes (by omega) (by omega)
            have E3 := Lib.hid e3
            have E4 := Lib.hid e4
            have HL := Lib.hid hle
            clear e3 e4 hov2 e5 hle
            go_wp2_with fail
            refine (refMul (-(dvl d k : Int)) 10 _ (by omega) (by omega) (by omega) (by omega)).mono ?_; rintro e w' ⟨rfl, rfl⟩
            rw [E1.out, E2.out]
            go_wp2_with fail
            refine (refSub (-(10 * (dvl d k : Int))) ((d[k].toNat : Int) - 48) _ (by omega) (by omega) (by omega) (by omega)).mono ?_; rintro e w' ⟨rfl, rfl⟩
            rw [E3.out, E4.out]
            go_wp2_with fail
            go_round
            case rel => exact ⟨k + 1, by omega, HL.out, by go_num, rfl⟩
            case measure => simp [intOf]; omega
      · obtain rfl : k = d.size := by omega
        go_wp2_with fail
        go_ret2
        exact ⟨(HF.out hv).1 HN.out, rfl⟩
  · subst hds'
    have fo : (!(d.toList == [48])) = false := by rw [hone]; simp; exact ⟨h1, hb8⟩
    rw [byt_at d 0 hz] at hb8 hb
    have fb : ((d[0].toNat : Int) == 45) = false := by simpa using hb
    have f8 : ((d[0].toNat : Int) == 48) = true := by simpa using hb8
    clear hb hb8 h1 hone
    have HN := Lib.hid hneg
    clear hneg
    go_enter Tryd.func60, Tryd.ntmps60
    go_wp2_with fail
    refine (CD.out _).mono ?_; rintro e w' ⟨rfl, rfl⟩
    go_wp2_with fail
    go_loop [6, 7] (fun n c => ∃ k : Nat, k ≤ d.size ∧ dvl d k ≤ 9223372036854775808 ∧ c = .int .i64 k ∧ n = .int .i64 (-(dvl d k : Int))) (fun _ c => d.size - (intOf c).toNat)
    case atStart => exact ⟨0, Nat.zero_le _, by simp [dvl], rfl, rfl⟩
    case round =>
      obtain ⟨k, hk, hv, rfl, rfl⟩ := hrel
      clear fb f8
      by_cases hlt' : k < d.size
      · have hb := HG.out k hlt'
        have hs1 := dvl_succ d k
        rw [byt_at d k hlt'] at hb hs1
        obtain ⟨b0, b1⟩ := hb
        have HS := Lib.hid hs1
        clear hs1
        by_cases hov1 : 9223372036854775808 < 10 * dvl d k
        · have e1 : cE (-(dvl d k : Int) * 10) = 3 := cE_no (by omega)
          have e2 : cV (-(dvl d k : Int) * 10) = 0 := cV_no (by omega)
          have HR := Lib.hid (HOV.out (k + 1) (by omega) (by rw [HS.out]; omega))
          have E1 := Lib.hid e1
          have E2 := Lib.hid e2
          clear e1 e2
          go_wp2_with fail
          refine (refMul (-(dvl d k : Int)) 10 _ (by omega) (by omega) (by omega) (by omega)).mono ?_; rintro e w' ⟨rfl, rfl⟩
          rw [E1.out, E2.out]
          go_wp2_with fail
          refine (refSub 0 _ _ (by omega) (by omega) (by omega) (by omega)).mono ?_; rintro e w' ⟨rfl, rfl⟩
          go_wp2_with fail
          go_ret2
          exact ⟨HR.out, rfl⟩
        · have e1 : cE (-(dvl d k : Int) * 10) = 0 := cE_yes (by omega) (by omega)
          have e2 : cV (-(dvl d k : Int) * 10) = -(10 * (dvl d k : Int)) := by rw [cV_yes (by omega) (by omega)]; omega
          have E1 := Lib.hid e1
          have E2 := Lib.hid e2
          clear e1 e2
          by_cases hov2 : 9223372036854775808 < dvl d (k + 1)
          · have e3 : cE (-(10 * (dvl d k : Int)) - ((d[k].toNat : Int) - 48)) = 3 := cE_no (by have := HS.out; omega)
            have e4 : cV (-(10 * (dvl d k : Int)) - ((d[k].toNat : Int) - 48)) = 0 := cV_no (by have := HS.out; omega)
            have HR := Lib.hid (HOV.out (k + 1) (by omega) hov2)
            have E3 := Lib.hid e3
            have E4 := Lib.hid e4
            clear e3 e4 hov2
            go_wp2_with fail
            refine (refMul (-(dvl d k : Int)) 10 _ (by omega) (by omega) (by omega) (by omega)).mono ?_; rintro e w' ⟨rfl, rfl⟩
            rw [E1.out, E2.out]
            go_wp2_with fail
            refine (refSub (-(10 * (dvl d k : Int))) ((d[k].toNat : Int) - 48) _ (by omega) (by omega) (by omega) (by omega)).mono ?_; rintro e w' ⟨rfl, rfl⟩
            rw [E3.out, E4.out]
            go_wp2_with fail
            go_ret2
            exact ⟨HR.out, rfl⟩
          · have hle : dvl d (k + 1) ≤ 9223372036854775808 := by omega
            have e5 : -(10 * (dvl d k : Int)) - ((d[k].toNat : Int) - 48) = -(dvl d (k + 1) : Int) := by have := HS.out; omega
            have e3 : cE (-(10 * (dvl d k : Int)) - ((d[k].toNat : Int) - 48)) = 0 := by rw [e5]; exact cE_yes (by omega) (by omega)
            have e4 : cV (-(10 * (dvl d k : Int)) - ((d[k].toNat : Int) - 48)) = -(dvl d (k + 1) : Int) := by rw [e5]; exact cV_yes (by omega) (by omega)
            have E3 := Lib.hid e3
            have E4 := Lib.hid e4
            have HL := Lib.hid hle
            clear e3 e4 hov2 e5 hle
            go_wp2_with fail
            refine (refMul (-(dvl d k : Int)) 10 _ (by omega) (by omega) (by omega) (by omega)).mono ?_; rintro e w' ⟨rfl, rfl⟩
            rw [E1.out, E2.out]
            go_wp2_with fail
            refine (refSub (-(10 * (dvl d k : Int))) ((d[k].toNat : Int) - 48) _ (by omega) (by omega) (by omega) (by omega)).mono ?_; rintro e w' ⟨rfl, rfl⟩
            rw [E3.out, E4.out]
            go_wp2_with fail
            go_round
            case rel => exact ⟨k + 1, by omega, HL.out, by go_num, rfl⟩
            case measure => simp [intOf]; omega
      · obtain rfl : k = d.size := by omega
        go_wp2_with fail
        refine (refSub 0 (-(dvl d d.size : Int)) _ (by omega) (by omega) (by omega) (by omega)).mono ?_; rintro e w' ⟨rfl, rfl⟩
        rw [show (0 : Int) - -(dvl d d.size : Int) = (dvl d d.size : Int) by omega]
        go_wp2_with fail
        go_ret2
        exact ⟨(HF.out hv).2 HN.out, rfl⟩
  · subst hds'
    rw [byt_at d 0 hz] at hb8 hb
    have fb : ((d[0].toNat : Int) == 45) = false := by simpa using hb
    have f8 : ((d[0].toNat : Int) == 48) = false := by simpa using hb8
    clear hb hb8 hone
    have HN := Lib.hid hneg
    clear hneg
    go_enter Tryd.func60, Tryd.ntmps60
    go_wp2_with fail
    refine (CD.out _).mono ?_; rintro e w' ⟨rfl, rfl⟩
    go_wp2_with fail
    go_loop [6, 7] (fun n c => ∃ k : Nat, k ≤ d.size ∧ dvl d k ≤ 9223372036854775808 ∧ c = .int .i64 k ∧ n = .int .i64 (-(dvl d k : Int))) (fun _ c => d.size - (intOf c).toNat)
    case atStart => exact ⟨0, Nat.zero_le _, by simp [dvl], rfl, rfl⟩
    case round =>
      obtain ⟨k, hk, hv, rfl, rfl⟩ := hrel
      clear fb f8
      by_cases hlt' : k < d.size
      · have hb := HG.out k hlt'
        have hs1 := dvl_succ d k
        rw [byt_at d k hlt'] at hb hs1
        obtain ⟨b0, b1⟩ := hb
        have HS := Lib.hid hs1
        clear hs1
        by_cases hov1 : 9223372036854775808 < 10 * dvl d k
        · have e1 : cE (-(dvl d k : Int) * 10) = 3 := cE_no (by omega)
          have e2 : cV (-(dvl d k : Int) * 10) = 0 := cV_no (by omega)
          have HR := Lib.hid (HOV.out (k + 1) (by omega) (by rw [HS.out]; omega))
          have E1 := Lib.hid e1
          have E2 := Lib.hid e2
          clear e1 e2
          go_wp2_with fail
          refine (refMul (-(dvl d k : Int)) 10 _ (by omega) (by omega) (by omega) (by omega)).mono ?_; rintro e w' ⟨rfl, rfl⟩
          rw [E1.out, E2.out]
          go_wp2_with fail
          refine (refSub 0 _ _ (by omega) (by omega) (by omega) (by omega)).mono ?_; rintro e w' ⟨rfl, rfl⟩
          go_wp2_with fail
          go_ret2
          exact ⟨HR.out, rfl⟩
        · have e1 : cE (-(dvl d k : Int) * 10) = 0 := cE_yes (by omega) (by omega)
          have e2 : cV (-(dvl d k : Int) * 10) = -(10 * (dvl d k : Int)) := by rw [cV_yes (by omega) (by omega)]; omega
          have E1 := Lib.hid e1
          have E2 := Lib.hid e2
          clear e1 e2
          by_cases hov2 : 9223372036854775808 < dvl d (k + 1)
          · have e3 : cE (-(10 * (dvl d k : Int)) - ((d[k].toNat : Int) - 48)) = 3 := cE_no (by have := HS.out; omega)
            have e4 : cV (-(10 * (dvl d k : Int)) - ((d[k].toNat : Int) - 48)) = 0 := cV_no (by have := HS.out; omega)
            have HR := Lib.hid (HOV.out (k + 1) (by omega) hov2)
            have E3 := Lib.hid e3
            have E4 := Lib.hid e4
            clear e3 e4 hov2
            go_wp2_with fail
            refine (refMul (-(dvl d k : Int)) 10 _ (by omega) (by omega) (by omega) (by omega)).mono ?_; rintro e w' ⟨rfl, rfl⟩
            rw [E1.out, E2.out]
            go_wp2_with fail
            refine (refSub (-(10 * (dvl d k : Int))) ((d[k].toNat : Int) - 48) _ (by omega) (by omega) (by omega) (by omega)).mono ?_; rintro e w' ⟨rfl, rfl⟩
            rw [E3.out, E4.out]
            go_wp2_with fail
            go_ret2
            exact ⟨HR.out, rfl⟩
          · have hle : dvl d (k + 1) ≤ 9223372036854775808 := by omega
            have e5 : -(10 * (dvl d k : Int)) - ((d[k].toNat : Int) - 48) = -(dvl d (k + 1) : Int) := by have := HS.out; omega
            have e3 : cE (-(10 * (dvl d k : Int)) - ((d[k].toNat : Int) - 48)) = 0 := by rw [e5]; exact cE_yes (by omega) (by omega)
            have e4 : cV (-(10 * (dvl d k : Int)) - ((d[k].toNat : Int) - 48)) = -(dvl d (k + 1) : Int) := by rw [e5]; exact cV_yes (by omega) (by omega)
            have E3 := Lib.hid e3
            have E4 := Lib.hid e4
            have HL := Lib.hid hle
            clear e3 e4 hov2 e5 hle
            go_wp2_with fail
            refine (refMul (-(dvl d k : Int)) 10 _ (by omega) (by omega) (by omega) (by omega)).mono ?_; rintro e w' ⟨rfl, rfl⟩
            rw [E1.out, E2.out]
            go_wp2_with fail
            refine (refSub (-(10 * (dvl d k : Int))) ((d[k].toNat : Int) - 48) _ (by omega) (by omega) (by omega) (by omega)).mono ?_; rintro e w' ⟨rfl, rfl⟩
            rw [E3.out, E4.out]
            go_wp2_with fail
            go_round
            case rel => exact ⟨k + 1, by omega, HL.out, by go_num, rfl⟩
            case measure => simp [intOf]; omega
      · obtain rfl : k = d.size := by omega
        go_wp2_with fail
        refine (refSub 0 (-(dvl d d.size : Int)) _ (by omega) (by omega) (by omega) (by omega)).mono ?_; rintro e w' ⟨rfl, rfl⟩
        rw [show (0 : Int) - -(dvl d d.size : Int) = (dvl d d.size : Int) by omega]
        go_wp2_with fail
        go_ret2
        exact ⟨(HF.out hv).2 HN.out, rfl⟩

end Go.Proofs.YtbjcbndmafddoaaDoor

/-
  Packed forms of the reference.
-/
import Derived.Test.YtljehdkjjgjpiaaDoorPackT
import Derived.Deep.RegionWith
import Derived.Test.YtljehdkjjgjpiaaDoorText
namespace Go.Proofs.YtljehdkjjgjpiaaDoor
open Go.RowKit

theorem bcell {W w1 : World} (hb : Below W.heap.size W w1) : (∀ b o, b < W.heap.size → w1.cell? ⟨b, o, none⟩ = W.cell? ⟨b, o, none⟩) :=
  fun b o h => hb.cell (p := ⟨b, o, none⟩) h
theorem below_undrew {a b : World} (h : Below a.drew.heap.size a.drew b) : Below a.heap.size a b := ⟨h.os, h.tape, h.output, h.size, h.block⟩
/-- A slice of one byte as a string, in whatever world holds the byte. -/
theorem conv_one (W : World) (b : Nat) (c : UInt8) (n : Int) (hn : n = (c.toNat : Int)) (h : W.cell? ⟨b, 0, none⟩ = some (.int .u8 n)) : (convert 49 9 (.slice (some ⟨b, 0, none⟩) 1 1)).run Tryd.prog W = .ok (.string ⟨#[c]⟩) W := by
  subst hn
  have := run_convert_bytes_back (P := Tryd.prog) W 49 9 5 ⟨b, 0, none⟩ 1 [c] Tryd.underlying49 Tryd.underlying5 Tryd.underlying9 (fun j hj => by
    obtain rfl : j = 0 := by simpa using hj
    simpa [Addr.add] using h)
  simpa using this

set_option maxRecDepth 100000 in
set_option maxHeartbeats 2000000 in
theorem refDigits (k : Nat) : ∀ (u : Nat) (w : World), u ≤ k → u ≤ 9223372036854775808 →
    Calls Tryd.prog 38 #[.int .i64 (-(u : Int))] w fun e w' => e = .returned (.string (mkS (Lib.decDigits u))) ∧ Below w.heap.size w w' := by
  induction k with
  | zero =>
    intro u w hu hm
    obtain rfl : u = 0 := by omega
    have hcv := conv_one (w.alloc (.cells #[.int .u8 48] 5)) w.heap.size 48 48 rfl (by simp [go_sem])
    have hd : mkS (Lib.decDigits 0) = ⟨#[48]⟩ := by rw [Lib.decDigits, dif_pos (by decide)]; rfl
    have HD := Lib.hid hd
    go_enter Tryd.func38, Tryd.ntmps38
    go_wp2_with fail
    go_ret
    exact ⟨by rw [HD.out]; rfl, (Below.refl _ _).alloc (Nat.le_refl _) _⟩
  | succ k ih =>
    intro u w hu hm
    by_cases h10 : u < 10
    · obtain ⟨c, hc⟩ : ∃ c : UInt8, c = UInt8.ofNat (48 + u) := ⟨_, rfl⟩
      have hct : (48 + (u : Int)) = (c.toNat : Int) := by
        have : c.toNat = 48 + u := by rw [hc]; simp; omega
        omega
      have hcv := conv_one (w.alloc (.cells #[.int .u8 (48 + (u : Int))] 5)) w.heap.size c (48 + (u : Int)) hct (by simp [go_sem])
      have hd : mkS (Lib.decDigits u) = ⟨#[c]⟩ := by rw [Lib.decDigits, dif_pos h10, ← hc]; rfl
      have HD := Lib.hid hd
      clear hd hc hct
      go_enter Tryd.func38, Tryd.ntmps38
      go_wp2_with fail
      go_ret
      exact ⟨by rw [HD.out]; rfl, (Below.refl _ _).alloc (Nat.le_refl _) _⟩
    · obtain ⟨q, hq⟩ : ∃ q, q = u / 10 := ⟨_, rfl⟩
      obtain ⟨r, hr⟩ : ∃ r, r = u % 10 := ⟨_, rfl⟩
      obtain ⟨c, hc⟩ : ∃ c : UInt8, c = UInt8.ofNat (48 + r) := ⟨_, rfl⟩
      have hct : (48 + (r : Int)) = (c.toNat : Int) := by
        have : c.toNat = 48 + r := by rw [hc]; simp; omega
        omega
      have e1 : (-(u : Int)).tmod 10 = -(r : Int) := by rw [Int.neg_tmod, Int.tmod_eq_emod_of_nonneg (by omega)]; omega
      have e2 : (-(u : Int)).tdiv 10 = -(q : Int) := by rw [Int.neg_tdiv, Int.tdiv_eq_ediv_of_nonneg (by omega)]; omega
      have w1 : IntKind.i64.wrap (-(q : Int)) = -(q : Int) := IntWalk.i64_in _ (by omega)
      have w2 : IntKind.i64.wrap (48 - -(r : Int)) = 48 + (r : Int) := by rw [IntWalk.i64_in _ (by omega)]; omega
      have w2' : IntKind.i64.wrap (48 + (r : Int)) = 48 + (r : Int) := IntWalk.i64_in _ (by omega)
      have w3 : IntKind.u8.wrap (48 + (r : Int)) = 48 + (r : Int) := by simp [IntKind.wrap, IntKind.bits, IntKind.signed]; omega
      have hdd : mkS (Lib.decDigits u) = mkS (Lib.decDigits q) ++ ⟨#[c]⟩ := by
        refine bytes_eq ?_
        rw [mkS_data, Lib.decDigits, dif_neg (by omega), ← hq, ← hr, ← hc]
        simp [mkS]
      have hsz : (mkS (Lib.decDigits q)).size ≤ 21 := by rw [mkS_size]; exact dec_len (by omega)
      have HI : Hid (∀ w, Calls Tryd.prog 38 #[.int .i64 (-(q : Int))] w fun e w' => e = .returned (.string (mkS (Lib.decDigits q))) ∧ Below w.heap.size w w') := fun w => ih q w (by omega) (by omega)
      have HD := Lib.hid hdd
      have HCT := Lib.hid hct
      have h10' : 10 ≤ (u : Int) := by omega
      have hq9 : q ≤ 922337203685477580 := by omega
      have hr9 : r ≤ 9 := by omega
      clear ih hdd hc hct hq hr h10
      generalize mkS (Lib.decDigits q) = b at *
      go_enter Tryd.func38, Tryd.ntmps38
      go_wp2_with fail
      have hcv : ∀ (W : World) (b : Nat), W.cell? ⟨b, 0, none⟩ = some (.int .u8 (48 + (r : Int))) → (convert 49 9 (.slice (some ⟨b, 0, none⟩) 1 1)).run Tryd.prog W = .ok (.string ⟨#[c]⟩) W := fun W b h => conv_one W b c _ HCT.out h
      go_region_with ((go_at_call 38; refine (HI.out _).mono ?_; rintro e w1 ⟨rfl, hb1⟩; have hcb := bcell hb1; have HBB := Lib.hid hb1; clear hb1))
      all_goals
        go_wp2_with fail
        go_ret
        refine ⟨by rw [HD.out]; rfl, ?_⟩
        have hbb := below_undrew HBB.out
        first
          | exact hbb.alloc hbb.size _
          | exact hbb
          | exact ((Below.refl _ _).alloc (Nat.le_refl _) _).trans (hbb.mono (by simp))

theorem mkS_fmt (n : Int) : mkS (Lib.itoa n) = fmtS n := rfl
set_option maxHeartbeats 1000000 in
theorem refDecimal (n : Int) (w : World) (h0 : -9223372036854775808 ≤ n) (h1 : n ≤ 9223372036854775807) :
    Calls Tryd.prog 32 #[.int .i64 n] w fun e w' => e = .returned (.string (fmtS n)) ∧ Below w.heap.size w w' := by
  by_cases hn : n < 0
  · obtain ⟨u, hu⟩ : ∃ u, u = n.natAbs := ⟨_, rfl⟩
    have e1 : n = -(u : Int) := by omega
    have hd : ∀ w, Calls Tryd.prog 38 #[.int .i64 n] w fun e w' => e = .returned (.string (mkS (Lib.decDigits u))) ∧ Below w.heap.size w w' := fun w => by rw [e1]; exact refDigits u u w (Nat.le_refl _) (by omega)
    have hf : fmtS n = ⟨#[45]⟩ ++ mkS (Lib.decDigits u) := by
      refine bytes_eq ?_
      rw [fmtS_data, e1, Lib.itoa_neg u (by omega)]
      simp [mkS]
    have hsz : (mkS (Lib.decDigits u)).size ≤ 21 := by rw [mkS_size]; exact dec_len (by omega)
    have HD := Lib.hid hd
    have HF := Lib.hid hf
    clear hd hf e1 hu
    generalize mkS (Lib.decDigits u) = b at *
    go_enter Tryd.func32, Tryd.ntmps32
    go_wp2_with fail
    refine (HD.out _).mono ?_; rintro e w1 ⟨rfl, hb1⟩
    have HB := Lib.hid hb1
    clear hb1
    go_wp2_with fail
    go_ret
    exact ⟨by rw [HF.out]; rfl, HB.out⟩
  · obtain ⟨u, rfl⟩ := Int.eq_ofNat_of_zero_le (show 0 ≤ n by omega)
    have hf : fmtS (u : Int) = mkS (Lib.decDigits u) := by
      refine bytes_eq ?_
      rw [fmtS_data, Lib.itoa_nonneg u, mkS_data]
    have HF := Lib.hid hf
    clear hf
    go_enter Tryd.func32, Tryd.ntmps32
    go_wp2_with fail
    refine (refDigits u u _ (Nat.le_refl _) (by omega)).mono ?_; rintro e w1 ⟨rfl, hb1⟩
    have HB := Lib.hid hb1
    clear hb1
    go_wp2_with fail
    go_ret
    exact ⟨by rw [HF.out]; rfl, HB.out⟩

set_option maxHeartbeats 1000000 in
theorem refText (w : World) (s : ByteArray) (hs : s.size ≤ 4611686018427387904) :
    Calls Tryd.prog 20 #[.string s] w fun e w' => e = .returned (.string (mkS (pText s))) ∧ Below w.heap.size w w' := by
  have hf : mkS (pText s) = (fmtS s.size ++ ⟨#[58]⟩) ++ s := by
    refine bytes_eq ?_
    rw [mkS_data]; unfold pText
    rw [← fmtS_data]; simp
  have hsz : (fmtS s.size).size ≤ 21 := fmt_size _ (by omega) (by omega)
  have cd : ∀ w, Calls Tryd.prog 32 #[.int .i64 s.size] w fun e w' => e = .returned (.string (fmtS s.size)) ∧ Below w.heap.size w w' := fun w => refDecimal _ w (by omega) (by omega)
  have HF := Lib.hid hf
  have CD := Lib.hid cd
  clear hf cd
  generalize fmtS s.size = b at *
  have h58 : (⟨#[58]⟩ : ByteArray).size = 1 := rfl
  have hbs : (b ++ (⟨#[58]⟩ : ByteArray)).size ≤ 22 := by simp; omega
  go_enter Tryd.func20, Tryd.ntmps20
  go_wp2_with fail
  refine (CD.out _).mono ?_; rintro e w1 ⟨rfl, hb1⟩
  have HB := Lib.hid hb1
  clear hb1
  go_wp2_with fail
  go_ret
  exact ⟨by rw [HF.out]; rfl, HB.out⟩

set_option maxHeartbeats 1000000 in
theorem refNumber (w : World) (n : Int) (h0 : -9223372036854775808 ≤ n) (h1 : n ≤ 9223372036854775807) :
    Calls Tryd.prog 22 #[.int .i64 n] w fun e w' => e = .returned (.string (mkS (pNum n))) ∧ Below w.heap.size w w' := by
  have hf : mkS (pNum n) = fmtS n ++ ⟨#[59]⟩ := by
    refine bytes_eq ?_
    rw [mkS_data]; unfold pNum
    rw [← fmtS_data]; simp
  have hsz : (fmtS n).size ≤ 21 := fmt_size _ h0 h1
  have cd : ∀ w, Calls Tryd.prog 32 #[.int .i64 n] w fun e w' => e = .returned (.string (fmtS n)) ∧ Below w.heap.size w w' := fun w => refDecimal _ w h0 h1
  have HF := Lib.hid hf
  have CD := Lib.hid cd
  clear hf cd
  generalize fmtS n = b at *
  go_enter Tryd.func22, Tryd.ntmps22
  go_wp2_with fail
  refine (CD.out _).mono ?_; rintro e w1 ⟨rfl, hb1⟩
  have HB := Lib.hid hb1
  clear hb1
  go_wp2_with fail
  go_ret
  exact ⟨by rw [HF.out]; rfl, HB.out⟩

set_option maxRecDepth 100000 in
set_option maxHeartbeats 1000000 in
theorem refList (w : World) (A : Option Addr) (ss : List ByteArray) (m : Nat) (hs : 0 < ss.length → ∃ p, A = some p ∧ RS w p ss) (hn : ss.length ≤ 9223372036854775807) (hsz : (pList ss).length ≤ 140737488355328) :
    Calls Tryd.prog 24 #[.slice A ss.length m] w fun e w' => e = .returned (.string (mkS (pList ss))) ∧ Below w.heap.size w w' := by
  obtain ⟨n, hnn⟩ : ∃ n, n = ss.length := ⟨_, rfl⟩
  rw [← hnn] at hn ⊢
  have HN := Lib.hid hnn
  have HS := Lib.hid hs
  have HSZ := Lib.hid hsz
  have h0 : pPart ss 0 = pNum (n : Int) := by unfold pPart; rw [hnn]; simp
  have hp := pPart_le ss
  have H0 := Lib.hid h0
  have HP := Lib.hid hp
  clear hnn hs hsz h0 hp
  go_enter Tryd.func24, Tryd.ntmps24
  go_wp2_with fail
  refine (refNumber _ (n : Int) (by omega) (by omega)).mono ?_
  rintro e w2 ⟨rfl, hb⟩
  rw [← H0.out]
  have HB := Lib.hid hb
  clear hb
  go_wp2_with fail
  go_loopw [3, 4] (fun b i wr => ∃ (k : Nat) (s1 : ByteArray), k ≤ n ∧ i = .int .i64 k ∧ b = .string s1 ∧ s1 = mkS (pPart ss k) ∧ Below w.heap.size w wr) (fun _ i _ => n - (intOf i).toNat)
  case atStart => exact ⟨0, _, Nat.zero_le _, rfl, rfl, rfl, HB.out⟩
  case round =>
    obtain ⟨k, s1, hk, rfl, rfl, hs1, hbl⟩ := hrel
    have HS1 := Lib.hid hs1
    have HBL := Lib.hid hbl
    clear hs1 hbl HB
    by_cases hlt : k < n
    · obtain ⟨p, rfl, hsp⟩ := HS.out (by rw [← HN.out]; omega)
      have hcell : wr.cell? (p.add k) = some (.string (ss.getD k ⟨#[]⟩)) := (HBL.out.cell (by rw [block_of_add]; exact hsp.lt)).trans (hsp.cells k (by rw [← HN.out]; exact hlt))
      clear hsp
      have hnew := pPart_succ ss k (by rw [← HN.out]; exact hlt)
      obtain ⟨s, hse⟩ : ∃ s, s = ss.getD k ⟨#[]⟩ := ⟨_, rfl⟩
      rw [← hse] at hcell hnew
      have hfit : s1.size + (mkS (pText s)).size ≤ 140737488355328 := by
        have h1 := HP.out (k + 1)
        have h2 := HSZ.out
        rw [hnew, List.length_append] at h1
        rw [HS1.out, mkS_size, mkS_size]
        omega
      have hss : s.size ≤ 4611686018427387904 := by
        have h3 : s.size ≤ (pText s).length := by unfold pText; rw [Lib.size_eq]; simp; omega
        rw [mkS_size] at hfit
        omega
      have hnew2 : s1 ++ mkS (pText s) = mkS (pPart ss (k + 1)) := by
        refine bytes_eq ?_
        rw [mkS_data, hnew, HS1.out]; simp [mkS]
      have HNEW := Lib.hid hnew2
      clear hse hnew hnew2
      generalize hq : mkS (pText s) = q at *
      have ct : ∀ w, Calls Tryd.prog 20 #[.string s] w fun e w' => e = .returned (.string q) ∧ Below w.heap.size w w' := fun w => by rw [← hq]; exact refText w s hss
      have CT := Lib.hid ct
      clear ct hq
      go_wp2_with fail
      refine (CT.out _).mono ?_
      rintro e w3 ⟨rfl, h4⟩
      have HBL3 : Hid (Below w.heap.size w w3) := HBL.out.trans (h4.mono HBL.out.size)
      clear h4
      go_wp2_with fail
      go_roundw
      case rel => exact ⟨k + 1, s1 ++ q, by omega, by go_num, rfl, HNEW.out, HBL3.out⟩
      case measure => simp [intOf]; omega
    · have hkn : k = n := by omega
      have hfin : mkS (pList ss) = s1 := by rw [HS1.out]; unfold pPart pList; rw [hkn, HN.out, List.take_length]
      have HF := Lib.hid hfin
      clear hkn hfin
      go_wp2_with fail
      go_ret
      exact ⟨by rw [HF.out]; rfl, HBL.out⟩

end Go.Proofs.YtljehdkjjgjpiaaDoor

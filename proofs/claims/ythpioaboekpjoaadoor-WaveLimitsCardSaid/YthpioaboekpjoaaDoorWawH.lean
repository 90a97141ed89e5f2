/-
  Walk of WaveLimits.
-/
import Derived.Test.YthpioaboekpjoaaDoorWawG
import Derived.Test.YthpioaboekpjoaaDoorWawB
namespace Go.Proofs.YthpioaboekpjoaaDoor
open Go.RowKit
set_option linter.unusedVariables false
set_option linter.unusedSimpArgs false

set_option maxRecDepth 100000 in
set_option maxHeartbeats 16000000 in
theorem walkWaveLimits (a : Int) (wa : 0 ≤ a ∧ a ≤ 255) (b : Int) (wb : 0 ≤ b ∧ b ≤ 255) (w : World) (ht : Tab w) (hm : MLen w) (hk : KW w) :
    Calls Tryd.prog 4 #[.int .u8 a, .int .u8 b] w fun e w' => e = .returned (.bool true) ∧ Below w.heap.size w w' := by
  have CW := Lib.hid (fun W (hW : Below w.heap.size w W) => lawAwakeW W (hk.below hW) (hm.below hW) (ht.below hW))
  obtain ⟨n, hn⟩ : ∃ n : Nat, (46 : Int) + a % 5 = n := ⟨(46 + a % 5).toNat, by omega⟩
  obtain ⟨m, hm2⟩ : ∃ m : Nat, (4094 : Int) + b % 5 = m := ⟨(4094 + b % 5).toNat, by omega⟩
  have hn1 : 46 ≤ n ∧ n ≤ 50 := by omega
  have hm1 : 4094 ≤ m ∧ m ≤ 4098 := by omega
  have CP : Hid (∀ W, Below w.heap.size w W → ∀ s : ByteArray, s.size ≤ 2000000 → Calls Tryd.prog 12 #[.string s] W (PARW W (parseW s))) := Lib.hid fun W hW s hs => wavParse s W hs (hk.below hW) (hm.below hW)
  have HN := Lib.hid hn
  have HM := Lib.hid hm2
  have HS := Lib.hid (fun k h => nmB_succ (k := k) h)
  have H1 := Lib.hid nmB_one
  have R1 := Lib.hid (parse_names hn1.2 (s := nmB n ++ ⟨#[10]⟩) rfl)
  have R2 := Lib.hid (parseW_rows (m := m) (s := ⟨Array.replicate (m + 1) 10⟩) (by simp))
  have MK : ∀ W : World, (Instr.makeSlice 33 (.int .i64 ((m : Int) + 1)) (.int .i64 ((m : Int) + 1))).run Tryd.prog W = .ok (.slice (some ⟨W.heap.size, 0, none⟩) (m + 1) (m + 1)) (W.alloc (.cells (bcell (List.replicate (m + 1) 0)) 5)) := fun W => by
    have := run_makeBytes (m + 1) (by omega) W
    have e : ((m + 1 : Nat) : Int) = (m : Int) + 1 := by omega
    rwa [e] at this
  have a0 := wa.1
  have a1 := wa.2
  have b0 := wb.1
  have b1 := wb.2
  have HB := Lib.hid (Below.refl w.heap.size w)
  clear hn hm2 hk hm ht wa wb
  have hmI : (m : Int) ≤ 4098 := by omega
  have hnI : (n : Int) ≤ 50 := by omega
  generalize nmB = pb at *
  go_enter Tryd.func4, Tryd.ntmps4
  go_upto_region 2 with fail
  rw [HN.out, HM.out]
  clear HN HM
  go_wp2_with fail
  go_loopw [7, 8] (fun sv iv wr => ∃ k : Nat, 1 ≤ k ∧ k ≤ n ∧ sv = .string (pb k) ∧ iv = .int .i64 k ∧ (pb k).size ≤ 10 * k ∧ wr = w) (fun _ i _ => n - (intOf i).toNat)
  case atStart => exact ⟨1, Nat.le_refl _, by omega, by rw [H1.out], rfl, by rw [H1.out]; decide, rfl⟩
  case round =>
    obtain ⟨k, hk1, hk, rfl, rfl, hsz, rfl⟩ := hrel
    by_cases hlt : k < n
    · have hlt2 : (k : Int) < n := by omega
      have hk0 : (0 : Int) ≤ (k : Int) := by omega
      have E1 : Hid (Utf8.encode (97 + (k : Int) / 26) = ⟨#[UInt8.ofNat (97 + k / 26)]⟩) := Lib.hid (by
        rw [show (97 : Int) + (k : Int) / 26 = ((97 + k / 26 : Nat) : Int) by omega]
        exact enc1 _ (by omega))
      have E2 : Hid (Utf8.encode (97 + (k : Int) % 26) = ⟨#[UInt8.ofNat (97 + k % 26)]⟩) := Lib.hid (by
        rw [show (97 : Int) + (k : Int) % 26 = ((97 + k % 26 : Nat) : Int) by omega]
        exact enc1 _ (by omega))
      have z1 : (Utf8.encode (97 + (k : Int) / 26)).size = 1 := by rw [E1.out]; rfl
      have z2 : (Utf8.encode (97 + (k : Int) % 26)).size = 1 := by rw [E2.out]; rfl
      have HK1 := Lib.hid (HS.out k hk1)
      have HSZ : Hid ((pb (k + 1)).size ≤ 10 * (k + 1)) := Lib.hid (by
        rw [HK1.out, ByteArray.size_append, ByteArray.size_append, ByteArray.size_append]
        show (pb k).size + 2 + 1 + 1 ≤ _
        omega)
      have HEQ : Hid (pb (k + 1) = ((pb k ++ ⟨#[32, 97]⟩) ++ Utf8.encode (97 + (k : Int) / 26)) ++ Utf8.encode (97 + (k : Int) % 26)) := Lib.hid (by rw [HK1.out, E1.out, E2.out])
      have d0 : 0 ≤ (k : Int) / 26 := by omega
      have d1 : (k : Int) / 26 ≤ 1 := by omega
      have d2 : 0 ≤ (k : Int) % 26 := by omega
      have d3 : (k : Int) % 26 ≤ 25 := by omega
      obtain ⟨pk, hpk⟩ : ∃ x, x = pb k := ⟨_, rfl⟩
      rw [← hpk] at hsz HEQ ⊢
      have f1 : ¬ 9223372036854775807 < pk.size + 2 := by omega
      have f2 : ¬ 9223372036854775807 < pk.size + 2 + (Utf8.encode (97 + (k : Int) / 26)).size := by omega
      have f3 : ¬ 9223372036854775807 < pk.size + 2 + (Utf8.encode (97 + (k : Int) / 26)).size + (Utf8.encode (97 + (k : Int) % 26)).size := by omega
      have f2' : ¬ 9223372036854775807 < (pk ++ (⟨#[32, 97]⟩ : ByteArray)).size + (Utf8.encode (97 + (k : Int) / 26)).size := by rw [ByteArray.size_append]; exact f2
      have f3' : ¬ 9223372036854775807 < ((pk ++ (⟨#[32, 97]⟩ : ByteArray)) ++ Utf8.encode (97 + (k : Int) / 26)).size + (Utf8.encode (97 + (k : Int) % 26)).size := by rw [ByteArray.size_append, ByteArray.size_append]; exact f3
      clear HK1 E1 E2 hpk z1 z2
      go_wp2_with fail
      go_roundw
      case rel => exact ⟨k + 1, by omega, by omega, by rw [HEQ.out], by go_num, HSZ.out, by first | rfl | trivial⟩
      case measure => simp [intOf]; omega
    · have hlt2 : ¬ (k : Int) < n := by omega
      obtain rfl : k = n := by omega
      obtain ⟨wo, rfl⟩ : ∃ x : World, x = wr := ⟨_, rfl⟩
      have f4 : ¬ 9223372036854775807 < (pb k).size + 1 := by omega
      have C7 := Lib.hid (CP.out wo HB.out (pb k ++ ⟨#[10]⟩) (by rw [ByteArray.size_append]; show (pb k).size + 1 ≤ _; omega))
      obtain ⟨r1, hr1⟩ : ∃ x, x = parseW (pb k ++ ⟨#[10]⟩) := ⟨_, rfl⟩
      rw [← hr1] at C7 R1
      have C8 : Hid (∀ W, Below wo.heap.size wo W → Calls Tryd.prog 12 #[.string ⟨Array.replicate (m + 1) 10⟩] W (PARW W (parseW ⟨Array.replicate (m + 1) 10⟩))) := Lib.hid fun W hW => CP.out W hW _ (by rw [Lib.size_eq]; simp; omega)
      obtain ⟨r2, hr2⟩ : ∃ x, x = parseW ⟨Array.replicate (m + 1) 10⟩ := ⟨_, rfl⟩
      rw [← hr2] at C8 R2
      unfold PARW at C7 C8
      clear hr1 hr2 CP HS H1
      generalize pb k = pk at *
      go_wp2_with fail
      refine C7.out.mono ?_; rintro e w2 ⟨u1, u2, rfl, s1, s2, hb⟩
      obtain ⟨Bg, dg, rfl, -⟩ := id s1
      obtain ⟨Bh, dh, rfl, -⟩ := s2.slice
      clear s1 s2 C7 f4
      replace HB := Lib.hid (below_step HB.out hb)
      clear hb
      generalize r1.1.length = L1 at *
      generalize r1.2.1.length = L2 at *
      go_upto_region 8 with fail
      have X9 := Lib.hid (box_new (W := w2) (g := w2.heap.size) 26 #[.slice Bg L1 dg, .slice Bh L2 dh] (by simp))
      have hba := (below_alloc w2 (.cells #[.slice Bg L1 dg, .slice Bh L2 dh] 26))
      replace HB := Lib.hid (below_step HB.out hba)
      clear hba
      generalize w2.alloc (.cells #[.slice Bg L1 dg, .slice Bh L2 dh] 26) = w3 at *
      clear X9
      go_wp2_with fail
      have XB := Lib.hid (Box.new w3 5 (bcell (List.replicate (m + 1) 0)))
      have HB4 := Lib.hid (below_step HB.out (below_alloc w3 (.cells (bcell (List.replicate (m + 1) 0)) 5)))
      have HW3 := Lib.hid HB.out.size
      clear MK
      rw [← fillB_zero] at XB HB4 ⊢
      generalize w3.alloc (.cells (bcell (fillB (m + 1) 0)) 5) = w4 at *
      obtain ⟨g, hg⟩ : ∃ g, g = w3.heap.size := ⟨_, rfl⟩
      rw [← hg] at XB HW3 ⊢
      clear hg
      go_wp2_with fail
      clear HB
      go_loopw [12] (fun i wx => ∃ j : Nat, j ≤ m + 1 ∧ i = .int .i64 j ∧ Box wx g (bcell (fillB (m + 1) j)) 5 ∧ Below wo.heap.size wo wx) (fun i _ => m + 1 - (intOf i).toNat)
      case atStart => exact ⟨0, Nat.zero_le _, rfl, XB.out, HB4.out⟩
      case round =>
        clear XB HB4
        obtain ⟨j, hj, rfl, hx, hb⟩ := hrel
        have XB := Lib.hid hx
        have HB := Lib.hid hb
        clear hx hb
        by_cases hlj : j < m + 1
        · have hlj2 : (j : Int) < (m : Int) + 1 := by omega
          have hj0 : (0 : Int) ≤ (j : Int) := by omega
          have q1 := XB.out.at_ j _ (bcell_get (by rw [fillB_len hj]; exact hlj))
          have q2 := XB.out.frozen j
          have HX2 : Hid (Box (wr.setCell ⟨g, j, none⟩ (.int .u8 10)) g (bcell (fillB (m + 1) (j + 1))) 5) := Lib.hid (by
            have := XB.out.bytes j 10
            rwa [fillB_set hlj] at this)
          have HB2 := Lib.hid (HB.out.setCell (p := ⟨g, j, none⟩) HW3.out (.int .u8 10))
          clear XB HB
          go_wp2_with fail
          clear q1 q2
          go_roundw
          case rel => exact ⟨j + 1, by omega, by go_num, HX2.out, HB2.out⟩
          case measure => simp [intOf]; omega
        · have hlj2 : ¬ (j : Int) < (m : Int) + 1 := by omega
          obtain rfl : j = m + 1 := by omega
          rw [fillB_all] at XB
          have CV := conv_box XB.out
          rw [List.length_replicate] at CV
          go_wp2_with fail
          clear CV
          refine (C8.out _ HB.out).mono ?_; rintro e w5 ⟨u3, u4, rfl, s3, s4, hb⟩
          obtain ⟨Bi, di, rfl, -⟩ := id s3
          obtain ⟨Bj, dj, rfl, -⟩ := s4.slice
          clear s3 s4 C8 XB
          replace HB := Lib.hid (below_step HB.out hb)
          clear hb
          generalize r2.1.length = L3 at *
          obtain ⟨L4, hL4⟩ : ∃ x, x = r2.2.1.length := ⟨_, rfl⟩
          rw [← hL4]
          have HL4 := Lib.hid hL4
          clear hL4
          go_upto_region 14 with fail
          have X13 := Lib.hid (box_new (W := w5) (g := w5.heap.size) 26 #[.slice Bi L3 di, .slice Bj L4 dj] (by simp))
          have hba := (below_alloc w5 (.cells #[.slice Bi L3 di, .slice Bj L4 dj] 26))
          replace HB := Lib.hid (below_step HB.out hba)
          clear hba
          generalize w5.alloc (.cells #[.slice Bi L3 di, .slice Bj L4 dj] 26) = w6 at *
          have key1 : (k ≤ 48 ∧ r1.2.2 = 0) ∨ (¬ k ≤ 48 ∧ r1.2.2 = 2) := by
            by_cases h : k ≤ 48
            · left; exact ⟨h, by rw [R1.out, if_pos h]⟩
            · right; exact ⟨h, by rw [R1.out, if_neg h]⟩
          have key2 : ((m : Int) ≤ 4096 ∧ r2.2.2 = 0 ∧ L4 = m) ∨ (¬ (m : Int) ≤ 4096 ∧ r2.2.2 = 2) := by
            by_cases h : m ≤ 4096
            · left; exact ⟨by omega, by rw [R2.out, if_pos h], by rw [HL4.out, R2.out, if_pos h]; simp⟩
            · right; exact ⟨by omega, by rw [R2.out, if_neg h]⟩
          clear R1 R2 HL4 hlj hlj2
          generalize r1.2.2 = c1 at *
          generalize r2.2.2 = c2 at *
          rcases key1 with ⟨p1, rfl⟩ | ⟨p1, rfl⟩ <;> rcases key2 with ⟨p2, rfl, rfl⟩ | ⟨p2, rfl⟩
          all_goals
            first | have p3 : (k : Int) ≤ 48 := by omega
                  | have p3 : ¬ (k : Int) ≤ 48 := by omega
          · skip
            have X13_1 := X13.out.at_ 1 _ rfl
            go_wp2_with fail
            clear X13_1
            refine (CW.out _ HB.out).mono ?_; rintro e w7 ⟨rfl, hb⟩
            replace X13 := Lib.hid (X13.out.below hb)
            replace HB := Lib.hid (below_step HB.out hb)
            clear hb
            go_wp2_with fail
            go_ret
            exact ⟨rfl, HB.out⟩
          · skip
            have X13_1 := X13.out.at_ 1 _ rfl
            go_wp2_with fail
            clear X13_1
            refine (CW.out _ HB.out).mono ?_; rintro e w7 ⟨rfl, hb⟩
            replace X13 := Lib.hid (X13.out.below hb)
            replace HB := Lib.hid (below_step HB.out hb)
            clear hb
            go_wp2_with fail
            go_ret
            exact ⟨rfl, HB.out⟩
          · skip
            have X13_1 := X13.out.at_ 1 _ rfl
            go_wp2_with fail
            clear X13_1
            refine (CW.out _ HB.out).mono ?_; rintro e w7 ⟨rfl, hb⟩
            replace X13 := Lib.hid (X13.out.below hb)
            replace HB := Lib.hid (below_step HB.out hb)
            clear hb
            go_wp2_with fail
            go_ret
            exact ⟨rfl, HB.out⟩
          · skip
            have X13_1 := X13.out.at_ 1 _ rfl
            go_wp2_with fail
            clear X13_1
            refine (CW.out _ HB.out).mono ?_; rintro e w7 ⟨rfl, hb⟩
            replace X13 := Lib.hid (X13.out.below hb)
            replace HB := Lib.hid (below_step HB.out hb)
            clear hb
            go_wp2_with fail
            go_ret
            exact ⟨rfl, HB.out⟩

end Go.Proofs.YthpioaboekpjoaaDoor

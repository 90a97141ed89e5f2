/-
  Contract of the reference's reader.counts.
-/
import Derived.Test.YtbgficaboolgiaaGreatDoorStoHe
namespace Go.Proofs.YtbgficaboolgiaaGreatDoor
open Go.RowKit
set_option linter.unusedVariables false
set_option linter.unusedSimpArgs false

theorem rdC_stick {s : ByteArray} {m : St} {j : Nat} (h : (rdC s m j).2.2 ≠ 0) : ∀ d, (rdC s m (j + d)).2 = (rdC s m j).2
  | 0 => rfl
  | d + 1 => by
    have ih := rdC_stick h d
    show (rdN s 1099511627776 (rdC s m (j + d)).2).2 = _
    rw [ih, rdN_err h]
theorem rdRs_stick {s : ByteArray} {m : St} {j : Nat} (h : (rdRs s m j).2.2 ≠ 0) : ∀ d, (rdRs s m (j + d)).2 = (rdRs s m j).2
  | 0 => rfl
  | d + 1 => by
    have ih := rdRs_stick h d
    show (rdRow s (rdRs s m (j + d)).2).2 = _
    rw [ih, rdRow_err h]
theorem stick_zero {f : Nat → St} (h : ∀ k d, (f k).2 ≠ 0 → f (k + d) = f k) {k : Nat} (hk : (f k).2 = 0) : (f 0).2 = 0 := by
  by_cases h0 : (f 0).2 = 0
  · exact h0
  · have := h 0 k h0
    rw [Nat.zero_add] at this
    rw [this] at hk
    exact absurd hk h0
theorem stick_end {f : Nat → St} (h : ∀ k d, (f k).2 ≠ 0 → f (k + d) = f k) {k n : Nat} (hk : k ≤ n) (he : (f k).2 = 0 → k = n) : (f n).2 = (f k).2 := by
  by_cases h0 : (f k).2 = 0
  · rw [he h0]
  · obtain ⟨d, rfl⟩ := Nat.exists_eq_add_of_le hk
    rw [h k d h0]

set_option maxRecDepth 100000 in
set_option maxHeartbeats 16000000 in
theorem refRdL (s : ByteArray) (hs : s.size ≤ maxLen) (a0 er : Int) (hm : StOk s (a0, er)) (a : Int) (ha : er = 0 → a = a0) (w : World) (g : Nat) (hb : Box w g #[.string s, .int .i64 a, .int .i64 er] 78) :
    Calls Tryz.prog 44 #[.pointer (some ⟨g, 0, none⟩)] w fun e w' => ∃ (v : Value) (a' : Int) (xs : List (List Int)), e = .returned v ∧ ((rdL s (a0, er)).2.2 = 0 → a' = (rdL s (a0, er)).2.1 ∧ xs = (rdL s (a0, er)).1) ∧ OG ilR w' w.heap.size 0 95 v xs ∧
      Box w' g #[.string s, .int .i64 a', .int .i64 (rdL s (a0, er)).2.2] 78 ∧ w.grownBy w' (some g) := by
  have hs2 : s.size ≤ 9223372036854775807 := by unfold maxLen at hs; exact hs
  have CF := Lib.hid (fun (t a0 er : Int) (h : StOk s (a0, er)) (a : Int) (ha : er = 0 → a = a0) (W : World) (h2 : Box W g #[.string s, .int .i64 a, .int .i64 er] 78) => refRdN t s hs a0 er h a ha W g h2)
  have OKN := Lib.hid (fun (t : Int) (ht : 0 ≤ t) (a er : Int) (h : StOk s (a, er)) => rdN_ok (s := s) (t := t) (m := (a, er)) ht hs2 h)
  have OKC := Lib.hid (fun (a er : Int) (h : StOk s (a, er)) k => rdC_ok (s := s) (m := (a, er)) hs2 h k)
  have C1 := Lib.hid (fun W h2 => CF.out 16 a0 er hm a ha W h2)
  obtain ⟨h1ok, h0, h16⟩ := OKN.out 16 (by decide) a0 er hm
  have HL : Hid (rdL s (a0, er) = rdRs s (rdN s 16 (a0, er)).2 (rdN s 16 (a0, er)).1.toNat) := Lib.hid rfl
  generalize rdL s (a0, er) = r at *
  generalize rdN s 16 (a0, er) = q at *
  obtain ⟨n, a1, e0⟩ := q
  simp only at C1 h1ok h0 h16 HL
  obtain ⟨N, rfl⟩ : ∃ N : Nat, n = N := ⟨n.toNat, by omega⟩
  rw [Int.toNat_natCast] at HL
  have RS : Hid (∀ k, rdRs s (a1, e0) (k + 1) = ((rdRs s (a1, e0) k).1 ++ [(rdRow s (rdRs s (a1, e0) k).2).1], (rdRow s (rdRs s (a1, e0) k).2).2)) := Lib.hid fun k => rfl
  have R0 : Hid (rdRs s (a1, e0) 0 = ([], (a1, e0))) := Lib.hid rfl
  have ROK : Hid (∀ k, StOk s (rdRs s (a1, e0) k).2) := Lib.hid fun k => (rdRs_ok hs2 h1ok k).1
  have HROW : Hid (∀ a er, rdRow s (a, er) = rdC s (rdN s 256 (a, er)).2 (rdN s 256 (a, er)).1.toNat) := Lib.hid fun _ _ => rfl
  have RST : Hid (∀ k d, (rdRs s (a1, e0) k).2.2 ≠ 0 → (rdRs s (a1, e0) (k + d)).2 = (rdRs s (a1, e0) k).2) := Lib.hid fun k d h => rdRs_stick h d
  generalize rdRs s (a1, e0) = rr at *
  obtain ⟨i0, hi, hz0, hz1, hz2⟩ := info_parts iint3
  have JI := Lib.hid hi
  have JZ0 := Lib.hid hz0
  have JZ1 := Lib.hid hz1
  have JZ2 := Lib.hid hz2
  obtain ⟨i1, hi', hz0', hz1', hz2'⟩ := info_parts iilist
  have KI := Lib.hid hi'
  have KZ0 := Lib.hid hz0'
  have KZ1 := Lib.hid hz1'
  have KZ2 := Lib.hid hz2'
  have XR := Lib.hid hb
  have hgw := hb.lt
  clear hi hz0 hz1 hz2 hi' hz0' hz1' hz2' hb hm h1ok hs hs2 h0 ha
  go_enter Tryz.func44, Tryz.ntmps44
  go_wp2_with fail
  refine (C1.out _ XR.out).mono ?_; rintro e w3 ⟨n', a', rfl, hn', hxr, hg⟩
  have HN' := Lib.hid hn'
  replace XR := Lib.hid hxr
  have HG := Lib.hid hg
  clear hxr hg C1 hn'
  go_wp2_with fail
  go_loopw [3, 5] (fun ov i wr => ∃ (k : Nat) (b1 e1 : Int) (xs : List (List Int)), k ≤ N ∧ i = .int .i64 k ∧ Hid (e1 = (rr k).2.2) ∧ Hid (e1 = 0 → b1 = (rr k).2.1 ∧ xs = (rr k).1) ∧ xs.length = k ∧ OG ilR wr w.heap.size 0 95 ov xs ∧ Box wr g #[.string s, .int .i64 b1, .int .i64 e1] 78 ∧ w.grownBy wr (some g)) (fun _ i _ => N - (intOf i).toNat)
  case atStart => exact ⟨0, a', e0, [], Nat.zero_le _, rfl, Lib.hid (by rw [R0.out]), Lib.hid (fun h => by rw [R0.out]; exact ⟨(HN'.out h).1, rfl⟩), rfl, OG.nil ilR _ _ _ _ (by decide) (Nat.zero_le _), XR.out, HG.out⟩
  case round =>
    clear XR HG
    obtain ⟨k, b1, e1, acc, hk, rfl, HE, HV, hlen, hog, hxr, hg⟩ := hrel
    have XR := Lib.hid hxr
    have HG := Lib.hid hg
    have HOG := Lib.hid hog
    obtain ⟨OA, oc, rfl⟩ := hog.slice
    have HLL : Hid (acc.length = k) := Lib.hid hlen
    rw [hlen] at HOG ⊢
    clear hxr hg hog hlen
    have HEND : Hid (k ≤ N → (e1 = 0 → k = N) → r.2.2 = e1 ∧ (e1 = 0 → b1 = r.2.1 ∧ acc = r.1)) := Lib.hid fun hkN hx => by
      have h1 := stick_end (f := fun k => (rr k).2) RST.out hkN (fun h => hx (HE.out.trans h))
      refine ⟨by rw [HL.out]; exact h1.trans HE.out.symm, fun h => ?_⟩
      rw [HL.out, ← hx h]; exact HV.out h
    have HZ0 : Hid (e1 = 0 → n' = (N : Int)) := Lib.hid fun h => by
      have h1 := stick_zero (f := fun k => (rr k).2) RST.out (k := k) (HE.out.symm.trans h)
      have h2 : e0 = 0 := by
        have h3 : (rr 0).2.2 = 0 := h1
        rw [R0.out] at h3; exact h3
      exact (HN'.out h2).2
    by_cases hkn : (k : Int) < n'
    · by_cases he : e1 = 0
      · subst he
        obtain ⟨hb1, hacc⟩ := HV.out rfl
        obtain rfl : n' = (N : Int) := HZ0.out rfl
        have hok : StOk s (b1, 0) := by
          have := ROK.out k
          rw [show (rr k).2 = (b1, 0) from Prod.ext hb1.symm HE.out.symm] at this
          exact this
        have HRk : Hid (rr (k + 1) = (acc ++ [(rdRow s (b1, 0)).1], (rdRow s (b1, 0)).2)) := Lib.hid (by
          rw [RS.out, ← hacc, show (rr k).2 = (b1, 0) from Prod.ext hb1.symm HE.out.symm])
        rw [HROW.out] at HRk
        have hk0 : (0 : Int) ≤ (k : Int) := by omega
        clear hb1 hacc HE HV HEND HZ0 HN'
        have C2 := Lib.hid (fun W h2 => CF.out 256 b1 0 hok b1 (fun _ => rfl) W h2)
        obtain ⟨ok2, n0, n256⟩ := OKN.out 256 (by decide) b1 0 hok
        generalize rdN s 256 (b1, 0) = q at *
        obtain ⟨m, a2, e2⟩ := q
        simp only at C2 ok2 n0 n256 HRk
        obtain ⟨M, rfl⟩ : ∃ M : Nat, m = M := ⟨m.toNat, by omega⟩
        rw [Int.toNat_natCast] at HRk
        have CS : Hid (∀ j, rdC s (a2, e2) (j + 1) = ((rdC s (a2, e2) j).1 ++ [(rdN s 1099511627776 (rdC s (a2, e2) j).2).1], (rdN s 1099511627776 (rdC s (a2, e2) j).2).2)) := Lib.hid fun j => rfl
        have C0 : Hid (rdC s (a2, e2) 0 = ([], (a2, e2))) := Lib.hid rfl
        have COK : Hid (∀ j, StOk s (rdC s (a2, e2) j).2) := Lib.hid fun j => (OKC.out a2 e2 ok2 j).1
        have CST : Hid (∀ k d, (rdC s (a2, e2) k).2.2 ≠ 0 → (rdC s (a2, e2) (k + d)).2 = (rdC s (a2, e2) k).2) := Lib.hid fun k d h => rdC_stick h d
        generalize rdC s (a2, e2) = ch at *
        clear hok ok2 n0
        obtain ⟨wo, rfl⟩ : ∃ x : World, x = wr := ⟨_, rfl⟩
        have x2 := XR.out.at_ 2 _ rfl
        go_wp2_with fail
        clear x2
        refine (C2.out _ XR.out).mono ?_; rintro e w6 ⟨m', a3, rfl, hm', hxr, hg⟩
        have HM' := Lib.hid hm'
        replace HOG := Lib.hid (HOG.out.growBox XR.out (by decide) (Nat.zero_le _) (by decide) hg)
        replace XR := Lib.hid hxr
        replace HG := Lib.hid (grown_trans HG.out hg)
        clear hxr hg C2 hm'
        go_wp2_with fail
        have hg6 : g < w6.heap.size := XR.out.lt
        go_loopw [6, 8] (fun lv i wr => ∃ (j : Nat) (b3 e3 : Int) (ys : List Int), j ≤ M ∧ i = .int .i64 j ∧ Hid (e3 = (ch j).2.2) ∧ Hid (e3 = 0 → b3 = (ch j).2.1 ∧ ys = (ch j).1) ∧ ys.length = j ∧ OG intR wr w6.heap.size 0 3 lv ys ∧ Box wr g #[.string s, .int .i64 b3, .int .i64 e3] 78 ∧ w6.grownBy wr (some g)) (fun _ i _ => M - (intOf i).toNat)
        case atStart => exact ⟨0, a3, e2, [], Nat.zero_le _, rfl, Lib.hid (by rw [C0.out]), Lib.hid (fun h => by rw [C0.out]; exact ⟨(HM'.out h).1, rfl⟩), rfl, OG.nil intR _ _ _ _ (by decide) (Nat.zero_le _), XR.out, grown_refl _ _⟩
        case round =>
          obtain ⟨j, b3, e3, lac, hj, rfl, HE, HV, hlen, hlg, hxr, hg⟩ := hrel
          have XR6 := XR
          have HG6 := HG
          have HOG6 := HOG
          clear XR HG HOG
          have XR := Lib.hid hxr
          have HG := Lib.hid hg
          have HLG := Lib.hid hlg
          obtain ⟨LA, lc, rfl⟩ := hlg.slice
          have HJ : Hid (lac.length = j) := Lib.hid hlen
          rw [hlen] at HLG ⊢
          clear hxr hg hlg hlen
          have HEND : Hid (j ≤ M → (e3 = 0 → j = M) → (rr (k + 1)).2.2 = e3 ∧ (e3 = 0 → b3 = (rr (k + 1)).2.1 ∧ acc ++ [lac] = (rr (k + 1)).1)) := Lib.hid fun hjM hx => by
            have h1 := stick_end (f := fun k => (ch k).2) CST.out hjM (fun h => hx (HE.out.trans h))
            refine ⟨by rw [HRk.out]; exact h1.trans HE.out.symm, fun h => ?_⟩
            rw [HRk.out, ← hx h]
            exact ⟨(HV.out h).1, by rw [(HV.out h).2]⟩
          have HZ0 : Hid (e3 = 0 → m' = (M : Int)) := Lib.hid fun h => by
            have h1 := stick_zero (f := fun k => (ch k).2) CST.out (k := j) (HE.out.symm.trans h)
            have h2 : e2 = 0 := by
              have h3 : (ch 0).2.2 = 0 := h1
              rw [C0.out] at h3; exact h3
            exact (HM'.out h2).2
          by_cases hjm : (j : Int) < m'
          · by_cases he : e3 = 0
            · subst he
              obtain ⟨hb3, hlac⟩ := HV.out rfl
              obtain rfl : m' = (M : Int) := HZ0.out rfl
              have hok : StOk s (b3, 0) := by
                have := COK.out j
                rw [show (ch j).2 = (b3, 0) from Prod.ext hb3.symm HE.out.symm] at this
                exact this
              have CSj : Hid (ch (j + 1) = (lac ++ [(rdN s 1099511627776 (b3, 0)).1], (rdN s 1099511627776 (b3, 0)).2)) := Lib.hid (by
                rw [CS.out, ← hlac, show (ch j).2 = (b3, 0) from Prod.ext hb3.symm HE.out.symm])
              have C3 := Lib.hid (fun W h2 => CF.out 1099511627776 b3 0 hok b3 (fun _ => rfl) W h2)
              generalize rdN s 1099511627776 (b3, 0) = q at *
              obtain ⟨z, a4, e4⟩ := q
              simp only at C3 CSj
              clear hok hb3 hlac HE HV HEND HZ0
              have x2 := XR.out.at_ 2 _ rfl
              go_wp2_with fail
              clear x2
              refine (C3.out _ XR.out).mono ?_; rintro e w9 ⟨z', b4, rfl, hz', hxr, hg⟩
              have HZ' := Lib.hid hz'
              replace HLG := Lib.hid (HLG.out.growBox XR.out (by decide) (Nat.zero_le _) (by decide) hg)
              replace XR := Lib.hid hxr
              replace HG := Lib.hid (grown_trans HG.out hg)
              clear hxr hg C3 hz'
              have hbl := below_alloc w9 (.cells #[.int .i64 z'] 3)
              have HR4 : Hid (Rs intR (w9.alloc (.cells #[.int .i64 z'] 3)) (.slice (some ⟨w9.heap.size, 0, none⟩) 1 1) [z'] (Ty (w9.alloc (.cells #[.int .i64 z'] 3)) 0 intR.ts)) :=
                Lib.hid (Rs.one (φ := intR) (us := [.int .i64 z']) (x := z') rfl 3)
              have HLGa := Lib.hid (HLG.out.below hbl)
              have XRa := Lib.hid (XR.out.below hbl)
              have HGa := Lib.hid (grown_below HG.out hbl)
              clear hbl
              go_wp2_with (at_builtin; refine wpList_append_og (φ := intR) (T := 3) (B := w6.heap.size) (C := 0) (xs := lac) (ys := [z']) rfl _ _ 95 rfl i0 (.int .i64 0) 8 Tryz.underlying95 JI.out JZ0.out JZ1.out JZ2.out rfl rfl HLGa.out (.slice (some ⟨w9.heap.size, 0, none⟩) 1 1) rfl HR4.out ?c1 ?c2 ?c3 ?_)
              case c1 => (try simp only [List.length_cons, List.length_nil]); rw [HJ.out]; omega
              case c2 => (try simp only [List.length_cons, List.length_nil]); rw [HJ.out]; unfold maxLen; omega
              case c3 => have := HGa.out.size; first | exact this | simpa using this
              intro v' w10 hog7 hg7
              clear HG XR HLG
              have XR := Lib.hid (HLGa.out.boxKept hg7.out XRa.out (.inr hg6))
              have HG := Lib.hid (grown_own HGa.out HLGa.out (Nat.le_refl _) hg7.out)
              have HL2 : Hid ((lac ++ [z']).length = j + 1) := Lib.hid (by rw [List.length_append, HJ.out]; rfl)
              have HV2 : Hid (e4 = 0 → b4 = (ch (j + 1)).2.1 ∧ lac ++ [z'] = (ch (j + 1)).1) := Lib.hid fun h => by
                rw [CSj.out]
                exact ⟨(HZ'.out h).1, by rw [(HZ'.out h).2]⟩
              have HE2 : Hid (e4 = (ch (j + 1)).2.2) := Lib.hid (by rw [CSj.out])
              clear HLGa XRa HGa hg7 HR4 CSj HZ'
              go_wp2_with fail
              go_roundw
              case rel => exact ⟨j + 1, b4, e4, lac ++ [z'], by omega, by go_num, HE2, HV2, HL2.out, hog7.out, XR.out, HG.out⟩
              case measure => simp [intOf]; omega
            · have f1 : (e3 == 0) = false := by simpa using he
              have HX := HEND.out hj (fun h => absurd h he)
              have HE2 : Hid (e3 = (rr (k + 1)).2.2) := Lib.hid HX.1.symm
              have HV2 := Lib.hid HX.2
              clear HX he
              have HOG := Lib.hid (HOG6.out.growBox XR6.out (by decide) (Nat.zero_le _) (by decide) HG.out)
              replace HG := Lib.hid (grown_trans HG6.out HG.out)
              clear XR6 HG6 HOG6 HRk HE HV HEND HZ0
              have x2 := XR.out.at_ 2 _ rfl
              go_upto_region 13 with fail
              clear x2
              obtain ⟨w9, rfl⟩ : ∃ x : World, x = wr := ⟨_, rfl⟩
              have hbl := below_alloc w9 (.cells #[.slice LA j lc] 95)
              have HR4 : Hid (Rs ilR (w9.alloc (.cells #[.slice LA j lc] 95)) (.slice (some ⟨w9.heap.size, 0, none⟩) 1 1) [lac] (Ty (w9.alloc (.cells #[.slice LA j lc] 95)) 0 ilR.ts)) :=
                Lib.hid ((Rs.one (φ := ilR) (us := [.slice LA j lc]) (x := lac) (HLG.out.rowR 0) 95).mono fun q hq => hq.below hbl)
              have HOGa := Lib.hid (HOG.out.below hbl)
              have XRa := Lib.hid (XR.out.below hbl)
              have HGa := Lib.hid (grown_below HG.out hbl)
              clear hbl HLG
              go_wp2_with (at_builtin; refine wpList_append_og (φ := ilR) (T := 95) (B := w.heap.size) (C := 0) (xs := acc) (ys := [lac]) rfl _ _ 24 rfl i1 (.slice none 0 0) 24 Tryz.underlying24 KI.out KZ0.out KZ1.out KZ2.out rfl rfl HOGa.out (.slice (some ⟨w9.heap.size, 0, none⟩) 1 1) rfl HR4.out ?c1 ?c2 ?c3 ?_)
              case c1 => (try simp only [List.length_cons, List.length_nil]); rw [HLL.out]; omega
              case c2 => (try simp only [List.length_cons, List.length_nil]); rw [HLL.out]; unfold maxLen; omega
              case c3 => have := HGa.out.size; first | exact this | simpa using this
              intro v' w10 hog7 hg7
              clear HG HOG XR
              have XR := Lib.hid (HOGa.out.boxKept hg7.out XRa.out (.inr hgw))
              have HG := Lib.hid (grown_own HGa.out HOGa.out (Nat.le_refl _) hg7.out)
              have HL2 : Hid ((acc ++ [lac]).length = k + 1) := Lib.hid (by rw [List.length_append, HLL.out]; rfl)
              clear XRa HGa HOGa hg7 HR4
              go_wp2_with fail
              go_roundw
              case rel => exact ⟨k + 1, b3, e3, acc ++ [lac], by omega, by go_num, HE2, HV2, HL2.out, hog7.out, XR.out, HG.out⟩
              case measure => simp [intOf]; omega
          · have HX := HEND.out hj (fun h => by have := HZ0.out h; omega)
            have HE2 : Hid (e3 = (rr (k + 1)).2.2) := Lib.hid HX.1.symm
            have HV2 := Lib.hid HX.2
            clear HX
            have HOG := Lib.hid (HOG6.out.growBox XR6.out (by decide) (Nat.zero_le _) (by decide) HG.out)
            replace HG := Lib.hid (grown_trans HG6.out HG.out)
            clear XR6 HG6 HOG6 HRk HE HV HEND HZ0
            have x2 := XR.out.at_ 2 _ rfl
            go_upto_region 13 with fail
            clear x2
            obtain ⟨w9, rfl⟩ : ∃ x : World, x = wr := ⟨_, rfl⟩
            have hbl := below_alloc w9 (.cells #[.slice LA j lc] 95)
            have HR4 : Hid (Rs ilR (w9.alloc (.cells #[.slice LA j lc] 95)) (.slice (some ⟨w9.heap.size, 0, none⟩) 1 1) [lac] (Ty (w9.alloc (.cells #[.slice LA j lc] 95)) 0 ilR.ts)) :=
              Lib.hid ((Rs.one (φ := ilR) (us := [.slice LA j lc]) (x := lac) (HLG.out.rowR 0) 95).mono fun q hq => hq.below hbl)
            have HOGa := Lib.hid (HOG.out.below hbl)
            have XRa := Lib.hid (XR.out.below hbl)
            have HGa := Lib.hid (grown_below HG.out hbl)
            clear hbl HLG
            go_wp2_with (at_builtin; refine wpList_append_og (φ := ilR) (T := 95) (B := w.heap.size) (C := 0) (xs := acc) (ys := [lac]) rfl _ _ 24 rfl i1 (.slice none 0 0) 24 Tryz.underlying24 KI.out KZ0.out KZ1.out KZ2.out rfl rfl HOGa.out (.slice (some ⟨w9.heap.size, 0, none⟩) 1 1) rfl HR4.out ?c1 ?c2 ?c3 ?_)
            case c1 => (try simp only [List.length_cons, List.length_nil]); rw [HLL.out]; omega
            case c2 => (try simp only [List.length_cons, List.length_nil]); rw [HLL.out]; unfold maxLen; omega
            case c3 => have := HGa.out.size; first | exact this | simpa using this
            intro v' w10 hog7 hg7
            clear HG HOG XR
            have XR := Lib.hid (HOGa.out.boxKept hg7.out XRa.out (.inr hgw))
            have HG := Lib.hid (grown_own HGa.out HOGa.out (Nat.le_refl _) hg7.out)
            have HL2 : Hid ((acc ++ [lac]).length = k + 1) := Lib.hid (by rw [List.length_append, HLL.out]; rfl)
            clear XRa HGa HOGa hg7 HR4
            go_wp2_with fail
            go_roundw
            case rel => exact ⟨k + 1, b3, e3, acc ++ [lac], by omega, by go_num, HE2, HV2, HL2.out, hog7.out, XR.out, HG.out⟩
            case measure => simp [intOf]; omega
      · have f1 : (e1 == 0) = false := by simpa using he
        have HX := HEND.out hk (fun h => absurd h he)
        have HE2 : Hid (r.2.2 = e1) := Lib.hid HX.1
        have HV2 := Lib.hid HX.2
        clear HX he
        clear HE HV HEND HZ0 HL
        have x2 := XR.out.at_ 2 _ rfl
        go_wp2_with fail
        go_ret
        first | exact ⟨_, b1, acc, rfl, fun h => HV2.out (HE2.out.symm.trans h), HOG.out, by rw [HE2.out]; exact XR.out, HG.out⟩ | exact ⟨_, rfl, b1, acc, fun h => HV2.out (HE2.out.symm.trans h), HOG.out, by rw [HE2.out]; exact XR.out, HG.out⟩
    · have HX := HEND.out hk (fun h => by have := HZ0.out h; omega)
      have HE2 : Hid (r.2.2 = e1) := Lib.hid HX.1
      have HV2 := Lib.hid HX.2
      clear HX
      clear HE HV HEND HZ0 HL
      have x2 := XR.out.at_ 2 _ rfl
      go_wp2_with fail
      go_ret
      first | exact ⟨_, b1, acc, rfl, fun h => HV2.out (HE2.out.symm.trans h), HOG.out, by rw [HE2.out]; exact XR.out, HG.out⟩ | exact ⟨_, rfl, b1, acc, fun h => HV2.out (HE2.out.symm.trans h), HOG.out, by rw [HE2.out]; exact XR.out, HG.out⟩

end Go.Proofs.YtbgficaboolgiaaGreatDoor

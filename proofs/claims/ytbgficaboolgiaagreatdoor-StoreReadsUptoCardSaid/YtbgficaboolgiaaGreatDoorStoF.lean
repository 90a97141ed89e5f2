/-
  Contract of store's reader.counts.
-/
import Derived.Test.YtbgficaboolgiaaGreatDoorStoE
import Derived.Test.YtbgficaboolgiaaGreatDoorGenM
namespace Go.Proofs.YtbgficaboolgiaaGreatDoor
open Go.RowKit
set_option linter.unusedVariables false
set_option linter.unusedSimpArgs false

/-- An integer alone. -/
def intR : Rd Int where
  k := 1
  ts := []
  pos := by decide
  R := fun w us z F => us = [.int .i64 z]
  len := fun h => by rw [h]; rfl
  one := fun h u hu => by rw [h] at hu; simp at hu; subst hu; rfl
  mono := fun h _ => h
  same := fun h _ _ => h
theorem Rs.il {w : World} {v : Value} {l : List Int} {F : Nat → Prop} (h : Rs intR w v l F) : IL w v l := by
  obtain ⟨A, c, rfl, hc, h⟩ := h
  refine ⟨A, c, rfl, hc, fun hl => ?_⟩
  obtain ⟨b, o, rfl, hb, h⟩ := h hl
  refine ⟨⟨b, o, none⟩, rfl, hb, fun j hj => ?_⟩
  obtain ⟨us, h1, h2⟩ := h j _ (List.getElem?_eq_getElem hj)
  have h3 := h1 0 (by decide)
  have h2' : us = [.int .i64 l[j]] := h2
  rw [h2', Nat.add_zero] at h3
  have e : intR.k = 1 := rfl
  rw [e, Nat.mul_one] at h3
  rw [add_plain, h3, List.getD_eq_getElem?_getD, List.getElem?_eq_getElem hj]; rfl
theorem OG.il {w : World} {B C : Nat} {T : TypeId} {v : Value} {l : List Int} (h : OG intR w B C T v l) : IL w v l := h.any.il
theorem OG.inT {w : World} {B C : Nat} {v : Value} {l : List Int} (h : OG intR w B C 3 v l) (C' : Nat) : In (Ty w C' ilR.ts) v l.length := fun hl b hb => by
  obtain ⟨_, uss, _, ho, _⟩ := h
  exact Ty.own ho (by decide) b hb
theorem OG.rowR {w : World} {B C : Nat} {v : Value} {l : List Int} (h : OG intR w B C 3 v l) (C' : Nat) : ilR.R w [v] l (Ty w C' ilR.ts) := ⟨v, rfl, h.il, h.inT C'⟩
theorem iint3 : (Tryz.prog.info? 3).map (fun i => (i.zero, i.size, i.bytes)) = some (some (.int .i64 0), 1, 8) := by kernel_rfl
theorem iilist : (Tryz.prog.info? 95).map (fun i => (i.zero, i.size, i.bytes)) = some (some (.slice none 0 0), 1, 24) := by kernel_rfl
section
variable {α : Type} {φ : Rd α} {w w' w2 : World} {B C g : Nat} {T T' : TypeId} {v : Value} {xs : List α} {cs : Array Value}
/-- A block of another type was written, and more was made. -/
theorem OG.growBox (h : OG φ w B C T v xs) (hx : Box w g cs T') (hT' : T' ∉ φ.ts) (hB : C ≤ g) (hne : T' ≠ T) (hg : w.grownBy w' (some g)) : OG φ w' B C T v xs :=
  h.keepBut hg.size (fun b => b = g) (fun b e => ⟨cs, T', e ▸ hx, hT', e ▸ hB, hne⟩) (fun b hl hn => hg.block b hl fun e => hn (Option.some.inj e))
theorem grown_below {row : Option Nat} (h : w.grownBy w' row) (hb : Below w'.heap.size w' w2) : w.grownBy w2 row :=
  ⟨hb.os.trans h.os, hb.tape.trans h.tape, hb.output.trans h.output, Nat.le_trans h.size hb.size, fun k hk hr => (hb.block k (Nat.lt_of_lt_of_le hk h.size)).trans (h.block k hk hr)⟩
theorem grown_trans {row : Option Nat} (h : w.grownBy w' row) (hb : w'.grownBy w2 row) : w.grownBy w2 row :=
  ⟨hb.os.trans h.os, hb.tape.trans h.tape, hb.output.trans h.output, Nat.le_trans h.size hb.size, fun k hk hr => (hb.block k (Nat.lt_of_lt_of_le hk h.size) hr).trans (h.block k hk hr)⟩
theorem grown_refl (row : Option Nat) (w : World) : w.grownBy w row := ⟨rfl, rfl, rfl, Nat.le_refl _, fun _ _ _ => rfl⟩
/-- A row of the call's own grew. -/
theorem grown_own (h : w.grownBy w' (some g)) (ho : OG φ w' B C T v xs) (hB : w.heap.size ≤ B) (hg : w'.grownBy w2 v.ownBlock) : w.grownBy w2 (some g) :=
  ⟨hg.os.trans h.os, hg.tape.trans h.tape, hg.output.trans h.output, Nat.le_trans h.size hg.size, fun k hk hr => (hg.block k (Nat.lt_of_lt_of_le hk h.size) (fun e => by have := ho.blk k e.symm; omega)).trans (h.block k hk hr)⟩
end

set_option maxRecDepth 100000 in
set_option maxHeartbeats 8000000 in
theorem stoCounts (s : ByteArray) (hs : s.size ≤ maxLen) (a er : Int) (hm : StOk s (a, er)) (w : World) (g : Nat) (hb : Box w g #[.string s, .int .i64 a, .int .i64 er] 56) :
    Calls Tryz.prog 39 #[.pointer (some ⟨g, 0, none⟩)] w fun e w' => ∃ v, e = .returned v ∧ OG ilR w' w.heap.size 0 95 v (rdL s (a, er)).1 ∧
      Box w' g #[.string s, .int .i64 (rdL s (a, er)).2.1, .int .i64 (rdL s (a, er)).2.2] 56 ∧ w.grownBy w' (some g) := by
  have hs2 : s.size ≤ 9223372036854775807 := by unfold maxLen at hs; exact hs
  have CF := Lib.hid (fun (t a er : Int) (h : StOk s (a, er)) (W : World) (gm : Nat) (h1 : Box W gm #[.int .i64 t] 3) (h2 : Box W g #[.string s, .int .i64 a, .int .i64 er] 56) => stoFromN t gm s hs a er h W g h1 h2)
  have CN := Lib.hid (fun n W => stoNumber n W)
  have OKN := Lib.hid (fun (t : Int) (ht : 0 ≤ t) (a er : Int) (h : StOk s (a, er)) => rdN_ok (s := s) (t := t) (m := (a, er)) ht hs2 h)
  have OKC := Lib.hid (fun (a er : Int) (h : StOk s (a, er)) k => rdC_ok (s := s) (m := (a, er)) hs2 h k)
  have C1 := Lib.hid (fun W gm h1 h2 => CF.out 16 a er hm W gm h1 h2)
  obtain ⟨h1ok, h0, h16⟩ := OKN.out 16 (by decide) a er hm
  have HL : Hid (rdL s (a, er) = rdRs s (rdN s 16 (a, er)).2 (rdN s 16 (a, er)).1.toNat) := Lib.hid rfl
  generalize rdL s (a, er) = r at *
  generalize rdN s 16 (a, er) = q at *
  obtain ⟨n, a0, e0⟩ := q
  simp only at C1 h1ok h0 h16 HL
  obtain ⟨N, rfl⟩ : ∃ N : Nat, n = N := ⟨n.toNat, by omega⟩
  rw [Int.toNat_natCast] at HL
  have RS : Hid (∀ k, rdRs s (a0, e0) (k + 1) = ((rdRs s (a0, e0) k).1 ++ [(rdRow s (rdRs s (a0, e0) k).2).1], (rdRow s (rdRs s (a0, e0) k).2).2)) := Lib.hid fun k => rfl
  have R0 : Hid (rdRs s (a0, e0) 0 = ([], (a0, e0))) := Lib.hid rfl
  have ROK : Hid (∀ k, StOk s (rdRs s (a0, e0) k).2 ∧ (rdRs s (a0, e0) k).1.length = k) := Lib.hid fun k => ⟨(rdRs_ok hs2 h1ok k).1, (rdRs_ok hs2 h1ok k).2.1⟩
  have HROW : Hid (∀ a er, rdRow s (a, er) = rdC s (rdN s 256 (a, er)).2 (rdN s 256 (a, er)).1.toNat) := Lib.hid fun _ _ => rfl
  generalize rdRs s (a0, e0) = rr at *
  obtain ⟨i0, hi, hz0, hz1, hz2⟩ := info_parts iint3
  have JI := Lib.hid hi
  have JZ0 := Lib.hid hz0
  have JZ1 := Lib.hid hz1
  have JZ2 := Lib.hid hz2
  obtain ⟨i1, hi', hz0', hz1', hz2'⟩ := info_parts iilist
  have KI := Lib.hid hi'
  have KZ0 := Lib.hid hz0'
  have KZ1 := Lib.hid hz1'
  have KZ2 := Lib.hid hz2'
  have XR := Lib.hid hb
  have hgw := hb.lt
  clear hi hz0 hz1 hz2 hi' hz0' hz1' hz2' hb hm h1ok hs hs2 h0
  go_enter Tryz.func39, Tryz.ntmps39
  go_wp2_with fail
  refine (CN.out 16 _).mono ?_; rintro e w2 ⟨gm, rfl, hbm, hgm, hb⟩
  replace XR := Lib.hid (XR.out.below hb)
  have HG := Lib.hid (grown_below (grown_refl (some g) w) hb)
  have XM := Lib.hid hbm
  clear hb hbm
  go_wp2_with fail
  refine (C1.out _ gm XM.out XR.out).mono ?_; rintro e w3 ⟨rfl, hxr, hg⟩
  replace XR := Lib.hid hxr
  replace HG := Lib.hid (grown_trans HG.out hg)
  clear hxr hg C1 XM hgm
  go_wp2_with fail
  go_loopw [3, 8] (fun ov i wr => ∃ (k : Nat) (a1 e1 : Int), k ≤ N ∧ i = .int .i64 k ∧ Hid ((a1, e1) = (rr k).2) ∧ OG ilR wr w.heap.size 0 95 ov (rr k).1 ∧ Box wr g #[.string s, .int .i64 a1, .int .i64 e1] 56 ∧ w.grownBy wr (some g)) (fun _ i _ => N - (intOf i).toNat)
  case atStart => exact ⟨0, a0, e0, Nat.zero_le _, rfl, Lib.hid (by rw [R0.out]), by rw [R0.out]; exact OG.nil ilR _ _ _ _ (by decide) (Nat.zero_le _), XR.out, HG.out⟩
  case round =>
    clear XR HG
    obtain ⟨k, a1, e1, hk, rfl, HE, hog, hxr, hg⟩ := hrel
    have XR := Lib.hid hxr
    have HG := Lib.hid hg
    have HOG := Lib.hid hog
    obtain ⟨OA, oc, rfl⟩ := hog.slice
    clear hxr hg hog
    by_cases hlt : k < N
    · have hlt2 : (k : Int) < N := by omega
      have hok := (ROK.out k).1
      rw [← HE.out] at hok
      have HRk := Lib.hid (RS.out k)
      rw [← HE.out, HROW.out] at HRk
      have hlen := (ROK.out k).2
      generalize (rr k).1 = acc at *
      have HLL : Hid (acc.length = k) := Lib.hid hlen
      rw [hlen] at HOG ⊢
      have C2 := Lib.hid (fun W gm h1 h2 => CF.out 256 a1 e1 hok W gm h1 h2)
      obtain ⟨ok2, n0, n256⟩ := OKN.out 256 (by decide) a1 e1 hok
      generalize rdN s 256 (a1, e1) = q at *
      obtain ⟨m, a2, e2⟩ := q
      simp only at C2 ok2 n0 n256 HRk
      obtain ⟨M, rfl⟩ : ∃ M : Nat, m = M := ⟨m.toNat, by omega⟩
      rw [Int.toNat_natCast] at HRk
      have CS : Hid (∀ j, rdC s (a2, e2) (j + 1) = ((rdC s (a2, e2) j).1 ++ [(rdN s 1099511627776 (rdC s (a2, e2) j).2).1], (rdN s 1099511627776 (rdC s (a2, e2) j).2).2)) := Lib.hid fun j => rfl
      have C0 : Hid (rdC s (a2, e2) 0 = ([], (a2, e2))) := Lib.hid rfl
      have COK : Hid (∀ j, StOk s (rdC s (a2, e2) j).2 ∧ (rdC s (a2, e2) j).1.length = j) := Lib.hid fun j => ⟨(OKC.out a2 e2 ok2 j).1, (OKC.out a2 e2 ok2 j).2.1⟩
      generalize rdC s (a2, e2) = ch at *
      clear hok hlen ok2 n0 HE
      obtain ⟨wo, rfl⟩ : ∃ x : World, x = wr := ⟨_, rfl⟩
      go_wp2_with fail
      refine (CN.out 256 _).mono ?_; rintro e w5 ⟨gm2, rfl, hbm, hgm, hb⟩
      replace XR := Lib.hid (XR.out.below hb)
      replace HG := Lib.hid (grown_below HG.out hb)
      replace HOG := Lib.hid (HOG.out.below hb)
      have XM := Lib.hid hbm
      clear hb hbm hgm
      go_wp2_with fail
      refine (C2.out _ gm2 XM.out XR.out).mono ?_; rintro e w6 ⟨rfl, hxr, hg⟩
      replace HOG := Lib.hid (HOG.out.growBox XR.out (by decide) (Nat.zero_le _) (by decide) hg)
      replace XR := Lib.hid hxr
      replace HG := Lib.hid (grown_trans HG.out hg)
      clear hxr hg C2 XM
      go_wp2_with fail
      have hg6 : g < w6.heap.size := XR.out.lt
      go_loopw [4, 13] (fun lv i wr => ∃ (j : Nat) (a3 e3 : Int), j ≤ M ∧ i = .int .i64 j ∧ Hid ((a3, e3) = (ch j).2) ∧ OG intR wr w6.heap.size 0 3 lv (ch j).1 ∧ Box wr g #[.string s, .int .i64 a3, .int .i64 e3] 56 ∧ w6.grownBy wr (some g)) (fun _ i _ => M - (intOf i).toNat)
      case atStart => exact ⟨0, a2, e2, Nat.zero_le _, rfl, Lib.hid (by rw [C0.out]), by rw [C0.out]; exact OG.nil intR _ _ _ _ (by decide) (Nat.zero_le _), XR.out, grown_refl _ _⟩
      case round =>
        obtain ⟨j, a3, e3, hj, rfl, HE, hlg, hxr, hg⟩ := hrel
        have XR6 := XR
        have HG6 := HG
        have HOG6 := HOG
        clear XR HG HOG
        have XR := Lib.hid hxr
        have HG := Lib.hid hg
        have HLG := Lib.hid hlg
        obtain ⟨LA, lc, rfl⟩ := hlg.slice
        clear hxr hg hlg
        have hlenj := (COK.out j).2
        by_cases hjt : j < M
        · have hjt2 : (j : Int) < M := by omega
          have hok := (COK.out j).1
          rw [← HE.out] at hok
          have CSj := Lib.hid (CS.out j)
          rw [← HE.out] at CSj
          generalize (ch j).1 = lac at *
          have HJ : Hid (lac.length = j) := Lib.hid hlenj
          rw [hlenj] at HLG ⊢
          have C3 := Lib.hid (fun W gm h1 h2 => CF.out 1099511627776 a3 e3 hok W gm h1 h2)
          generalize rdN s 1099511627776 (a3, e3) = q at *
          obtain ⟨z, a4, e4⟩ := q
          simp only at C3 CSj
          clear hok hlenj HE
          go_wp2_with fail
          refine (CN.out 1099511627776 _).mono ?_; rintro e w8 ⟨gm3, rfl, hbm, hgm, hb⟩
          replace XR := Lib.hid (XR.out.below hb)
          replace HG := Lib.hid (grown_below HG.out hb)
          replace HLG := Lib.hid (HLG.out.below hb)
          have XM := Lib.hid hbm
          clear hb hbm hgm
          go_wp2_with fail
          refine (C3.out _ gm3 XM.out XR.out).mono ?_; rintro e w9 ⟨rfl, hxr, hg⟩
          replace HLG := Lib.hid (HLG.out.growBox XR.out (by decide) (Nat.zero_le _) (by decide) hg)
          replace XR := Lib.hid hxr
          replace HG := Lib.hid (grown_trans HG.out hg)
          clear hxr hg C3 XM
          have hbl := below_alloc w9 (.cells #[.int .i64 z] 3)
          have HR4 : Hid (Rs intR (w9.alloc (.cells #[.int .i64 z] 3)) (.slice (some ⟨w9.heap.size, 0, none⟩) 1 1) [z] (Ty (w9.alloc (.cells #[.int .i64 z] 3)) 0 intR.ts)) :=
            Lib.hid (Rs.one (φ := intR) (us := [.int .i64 z]) (x := z) rfl 3)
          have HLGa := Lib.hid (HLG.out.below hbl)
          have XRa := Lib.hid (XR.out.below hbl)
          have HGa := Lib.hid (grown_below HG.out hbl)
          clear hbl
          go_wp2_with (at_builtin; refine wpList_append_og (φ := intR) (T := 3) (B := w6.heap.size) (C := 0) (xs := lac) (ys := [z]) rfl _ _ 95 rfl i0 (.int .i64 0) 8 Tryz.underlying95 JI.out JZ0.out JZ1.out JZ2.out rfl rfl HLGa.out (.slice (some ⟨w9.heap.size, 0, none⟩) 1 1) rfl HR4.out ?c1 ?c2 ?c3 ?_)
          case c1 => (try simp only [List.length_cons, List.length_nil]); rw [HJ.out]; omega
          case c2 => (try simp only [List.length_cons, List.length_nil]); rw [HJ.out]; unfold maxLen; omega
          case c3 => have := HGa.out.size; first | exact this | simpa using this
          intro v' w10 hog7 hg7
          clear HG XR HLG
          have XR := Lib.hid (HLGa.out.boxKept hg7.out XRa.out (.inr hg6))
          have HG := Lib.hid (grown_own HGa.out HLGa.out (Nat.le_refl _) hg7.out)
          have CS2 : Hid (ch (j + 1) = (lac ++ [z], (a4, e4))) := Lib.hid CSj.out
          clear HLGa XRa HGa hg7 HR4 CSj
          go_wp2_with fail
          go_roundw
          case rel => exact ⟨j + 1, a4, e4, by omega, by go_num, Lib.hid (by rw [CS2.out]), by rw [CS2.out]; exact hog7.out, XR.out, HG.out⟩
          case measure => simp [intOf]; omega
        · have hjt2 : ¬ (j : Int) < M := by omega
          have HOG := Lib.hid (HOG6.out.growBox XR6.out (by decide) (Nat.zero_le _) (by decide) HG.out)
          replace HG := Lib.hid (grown_trans HG6.out HG.out)
          clear XR6 HG6 HOG6
          have hjM : j = M := by omega
          have HRN : Hid (rr (k + 1) = (acc ++ [(ch j).1], (a3, e3))) := Lib.hid (by rw [HRk.out, HE.out, hjM])
          clear hjM HRk HE
          generalize (ch j).1 = lac at *
          have HJ : Hid (lac.length = j) := Lib.hid hlenj
          rw [hlenj] at HLG ⊢
          clear hlenj
          go_upto_region 9 with fail
          obtain ⟨w9, rfl⟩ : ∃ x : World, x = wr := ⟨_, rfl⟩
          have hbl := below_alloc w9 (.cells #[.slice LA j lc] 95)
          have HR4 : Hid (Rs ilR (w9.alloc (.cells #[.slice LA j lc] 95)) (.slice (some ⟨w9.heap.size, 0, none⟩) 1 1) [lac] (Ty (w9.alloc (.cells #[.slice LA j lc] 95)) 0 ilR.ts)) :=
            Lib.hid ((Rs.one (φ := ilR) (us := [.slice LA j lc]) (x := lac) (HLG.out.rowR 0) 95).mono fun q hq => hq.below hbl)
          have HOGa := Lib.hid (HOG.out.below hbl)
          have XRa := Lib.hid (XR.out.below hbl)
          have HGa := Lib.hid (grown_below HG.out hbl)
          clear hbl HLG
          go_wp2_with (at_builtin; refine wpList_append_og (φ := ilR) (T := 95) (B := w.heap.size) (C := 0) (xs := acc) (ys := [lac]) rfl _ _ 24 rfl i1 (.slice none 0 0) 24 Tryz.underlying24 KI.out KZ0.out KZ1.out KZ2.out rfl rfl HOGa.out (.slice (some ⟨w9.heap.size, 0, none⟩) 1 1) rfl HR4.out ?c1 ?c2 ?c3 ?_)
          case c1 => (try simp only [List.length_cons, List.length_nil]); rw [HLL.out]; omega
          case c2 => (try simp only [List.length_cons, List.length_nil]); rw [HLL.out]; unfold maxLen; omega
          case c3 => have := HGa.out.size; first | exact this | simpa using this
          intro v' w10 hog7 hg7
          clear HG HOG XR
          have XR := Lib.hid (HOGa.out.boxKept hg7.out XRa.out (.inr hgw))
          have HG := Lib.hid (grown_own HGa.out HOGa.out (Nat.le_refl _) hg7.out)
          clear XRa HGa HOGa hg7 HR4
          go_wp2_with fail
          go_roundw
          case rel => exact ⟨k + 1, a3, e3, by omega, by go_num, Lib.hid (by rw [HRN.out]), by rw [HRN.out]; exact hog7.out, XR.out, HG.out⟩
          case measure => simp [intOf]; omega
    · have hlt2 : ¬ (k : Int) < N := by omega
      have hkN : k = N := by omega
      have HR : Hid (r = ((rr k).1, (a1, e1))) := Lib.hid (by rw [HL.out, ← hkN, HE.out])
      clear hkN HL HE
      generalize (rr k).1 = acc at *
      have HL2 : Hid (r.1 = acc) := Lib.hid (by rw [HR.out])
      generalize acc.length = L at *
      go_wp2_with fail
      go_ret
      exact ⟨_, rfl, by rw [HR.out]; exact HOG.out, by rw [HR.out]; exact XR.out, HG.out⟩

end Go.Proofs.YtbgficaboolgiaaGreatDoor

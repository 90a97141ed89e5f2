/-
  Contract of txn.Unpack: what Unpack gives.
-/
import Derived.Test.YtbjcbndmafddoaaGreatDoorUnpA
import Derived.Test.YtbjcbndmafddoaaGreatDoorTxnQ
namespace Go.Proofs.YtbjcbndmafddoaaGreatDoor
open Go.RowKit
set_option linter.unusedVariables false
set_option linter.unusedSimpArgs false

theorem mem_len {t : ByteArray} : ∀ {l : List ByteArray}, t ∈ l → t.size ≤ ((l.map pText).flatten).length
  | x :: l, h => by
    simp only [List.map_cons, List.flatten_cons, List.length_append]
    rcases List.mem_cons.1 h with rfl | h
    · unfold pText; simp only [List.length_append, List.length_cons]; rw [← Lib.size_eq]; omega
    · have := mem_len h; omega
/-- The names that are taken are few and small. -/
theorem unp_bds {s : ByteArray} (hs : s.size ≤ 2000000) : (tl s 0 128).2.2 = 0 → (tl s 0 128).1.length ≤ 128 ∧ (∀ t ∈ (tl s 0 128).1, t.size ≤ s.size) ∧ 0 ≤ (tl s 0 128).2.1 ∧ (tl s 0 128).2.1 ≤ (s.size : Int) := fun h => by
  obtain ⟨m, a1, a2, a3, a4, a5⟩ := tl_canon (s := s) (a := 0) (most := 128) h
  rw [show ((0 : Nat) : Int) = 0 from rfl] at a1 a4 a5
  refine ⟨by omega, fun t ht => ?_, by omega, by omega⟩
  have h1 := mem_len ht
  have h2 := congrArg List.length a4
  rw [bl_extract] at h2
  unfold pList at h2
  simp only [List.length_append, List.length_take, List.length_drop] at h2
  have := bl_len s
  omega
theorem SL.setBox {w : World} {v : Value} {l : List ByteArray} {g i : Nat} {u : Value} {cs : Array Value} {t : TypeId} (h : SL w v l) (hb : Box w g cs t) (hc : ∀ c ∈ cs.toList, ∀ s, c ≠ .string s) : SL (w.setCell ⟨g, i, none⟩ u) v l := by
  obtain ⟨A, c, rfl, hl, hs⟩ := h
  refine ⟨A, c, rfl, hl, fun hp => ?_⟩
  obtain ⟨a, rfl, hr⟩ := hs hp
  have hne : a.block ≠ g := fun e => by
    have h0 := hr.cells 0 hp
    rw [add_zero] at h0
    have hsp := cell_spot h0
    obtain ⟨b, o, sp⟩ := a
    simp only at e hsp
    subst e hsp
    rw [hb.cell] at h0
    obtain ⟨ho, he⟩ := Array.getElem?_eq_some_iff.1 h0
    exact hc _ (by rw [← he]; exact by simp) _ rfl
  refine ⟨a, rfl, by simpa [World.setCell] using hr.lt, fun j hj => ?_⟩
  rw [World.cell?_setCell_other _ _ _ _ (fun e => hne (by have := congrArg Addr.block e; rw [block_of_add] at this; exact this.symm))]
  exact hr.cells j hj
theorem below_r1 {w w4 : World} (h : Below w.heap.size w w4) (a b : Value) : Below w.heap.size w ((w4.setCell ⟨w.heap.size, 0, none⟩ a).setCell ⟨w.heap.size, 1, none⟩ b) :=
  (h.setCell (p := ⟨w.heap.size, 0, none⟩) (Nat.le_refl _) a).setCell (p := ⟨w.heap.size, 1, none⟩) (Nat.le_refl _) b

set_option maxRecDepth 100000 in
set_option maxHeartbeats 8000000 in
theorem txnUnpack (s : ByteArray) (w : World) (hs : s.size ≤ 2000000) (hk : KW w) (hm : MLen w) :
    Calls Tryz.prog 12 #[.string s] w fun e w' => RET e w w' (unpT s) := by
  have HK := Lib.hid hk
  have HM := Lib.hid hm
  have hbl := unp_bds hs
  have C1 := Lib.hid (fun W => packTakeList s 0 128 W (by unfold maxLen; omega) (by omega) (by omega) (by omega) (by omega) (.inr (by omega)))
  unfold TL at C1
  have HU : Hid (unpT s = if (tl s 0 128).2.2 ≠ 0 then ([], [], (tl s 0 128).2.2) else unpV s (tl s 0 128).1 (upRun s (tl s 0 128).1.length (tl s 0 128).2.1 [])) := Lib.hid rfl
  generalize unpT s = r at *
  generalize tl s 0 128 = t at *
  obtain ⟨ns, a0, er⟩ := t
  simp only at C1 hbl
  have HU2 : Hid (r = if er ≠ 0 then ([], [], er) else unpV s ns (upRun s ns.length a0 [])) := HU
  clear HU
  obtain ⟨i1, hi0, hz0, hz1, hz2⟩ := info_parts iint
  have JI := Lib.hid hi0
  have JZ0 := Lib.hid hz0
  have JZ1 := Lib.hid hz1
  have JZ2 := Lib.hid hz2
  clear hi0 hz0 hz1 hz2 hk hm
  by_cases her : er = 0
  case neg =>
    have HR : Hid (r = ([], [], er)) := Lib.hid (by rw [HU2.out, if_pos her])
    have f1 : (er != 0) = true := by simpa using her
    clear her HU2 hbl
    go_enter Tryz.func12, Tryz.ntmps12
    go_wp2_with fail
    have XR := Lib.hid (box_new (W := w) (g := w.heap.size) 25 #[.slice none 0 0, .slice none 0 0] (by simp))
    have HB := Lib.hid (below_alloc w (.cells #[.slice none 0 0, .slice none 0 0] 25))
    generalize w.alloc (.cells #[.slice none 0 0, .slice none 0 0] 25) = w1 at *
    refine (C1.out _).mono ?_; rintro e w2 ⟨v, rfl, hsl, hb⟩
    replace XR := Lib.hid (XR.out.below hb)
    replace HB := Lib.hid (below_step HB.out hb)
    clear hb
    clear hsl
    have XR_0 := XR.out.at_ 0 _ rfl
    have XR_1 := XR.out.at_ 1 _ rfl
    have XR_l := XR.out.lt
    have XR_z0 := XR.out.frozen 0
    have XR_z1 := XR.out.frozen 1
    go_wp2_with fail
    refine bodyPost_ret (v := .tuple #[.agg #[.slice none 0 0, .slice none 0 0], .int .i64 er]) (by simp [results, Tryz.results12, go_sem, XR_0, XR_1, XR_l]) rfl ?_
    rw [HR.out]
    exact RET.no (below_r1 HB.out _ _)
  subst her
  obtain ⟨hN128, hsz, ha0, ha1⟩ := hbl rfl
  have HV := Lib.hid (fun W v1 v2 zs (h1 : SL W v1 ns) (h2 : IL W v2 zs) (hz : zs.length ≤ 9223372036854775807) (hk : KW W) (hm : MLen W) => txnValid W v1 v2 ns zs h1 h2 (fun x hx => Nat.le_trans (hsz x hx) (by omega)) (by omega) hz hk hm)
  obtain ⟨N, hN⟩ : ∃ N, N = ns.length := ⟨_, rfl⟩
  have HU : Hid (r = unpV s ns (upRun s N a0 [])) := Lib.hid (by rw [HU2.out, hN]; exact if_neg (by simp))
  rw [← hN] at hN128
  have HN := Lib.hid hN
  have HTN := Lib.hid (fun a => tn_bd s a (by omega))
  have CN := Lib.hid (fun a (h0 : 0 ≤ a) (h1 : a ≤ (s.size : Int)) W => packTakeNumber s a W (by unfold maxLen; omega) (by omega) (by omega))
  unfold ret3n at CN
  clear HU2 hbl hsz hN
  go_enter Tryz.func12, Tryz.ntmps12
  go_wp2_with fail
  have XR := Lib.hid (box_new (W := w) (g := w.heap.size) 25 #[.slice none 0 0, .slice none 0 0] (by simp))
  have HB := Lib.hid (below_alloc w (.cells #[.slice none 0 0, .slice none 0 0] 25))
  generalize w.alloc (.cells #[.slice none 0 0, .slice none 0 0] 25) = w1 at *
  refine (C1.out _).mono ?_; rintro e w2 ⟨v, rfl, hsl, hb⟩
  replace XR := Lib.hid (XR.out.below hb)
  replace HB := Lib.hid (below_step HB.out hb)
  clear hb
  have HS := Lib.hid hsl
  obtain ⟨A1, c1, rfl, _, _⟩ := hsl
  rw [← HN.out] at HS ⊢
  clear C1
  have XR_0 := XR.out.at_ 0 _ rfl
  have XR_1 := XR.out.at_ 1 _ rfl
  have XR_l := XR.out.lt
  go_wp2_with fail
  clear XR_0 XR_1 XR_l
  have HBIG := Lib.hid XR.out.lt
  have HB2 := Lib.hid HB.out
  replace HB := Lib.hid (Below.refl w2.heap.size w2)
  have X7 := Lib.hid (box_new (W := w2) (g := w2.heap.size) 25 #[.slice A1 N c1, .slice none 0 0] (by simp))
  have hba := (below_alloc w2 (.cells #[.slice A1 N c1, .slice none 0 0] 25))
  replace XR := Lib.hid (XR.out.below hba)
  replace HB := Lib.hid (below_step HB.out hba)
  clear hba
  generalize w2.alloc (.cells #[.slice A1 N c1, .slice none 0 0] 25) = w3 at *
  go_loopw [25, 5] (fun i a wr => ∃ (k : Nat) (u : Value) (zs : List Int) (at_ : Int), k ≤ N ∧ i = .int .i64 k ∧ a = .int .i64 at_ ∧ 0 ≤ at_ ∧ at_ ≤ (s.size : Int) ∧ Hid (upRun s N a0 [] = upRun s (N - k) at_ zs ∧ zs.length = k) ∧ Box wr w.heap.size #[.slice none 0 0, .slice none 0 0] 25 ∧ Box wr w2.heap.size #[.slice A1 N c1, u] 25 ∧ wr.ownsRow (w2.heap.size + 1) 3 1 u k (icells zs) ∧ Below w2.heap.size w2 wr) (fun i _ _ => N - (intOf i).toNat)
  case atStart => exact ⟨0, _, [], a0, Nat.zero_le _, rfl, rfl, ha0, ha1, Lib.hid ⟨rfl, rfl⟩, XR.out, X7.out, World.ownsRow_nil _ _ _ _, HB.out⟩
  case round =>
    obtain ⟨k, u, zs, at_, hk, rfl, rfl, h0, h1, HP, hxr, hx7, ho, hb⟩ := hrel
    clear XR X7 HB
    have XR := Lib.hid hxr
    have X7 := Lib.hid hx7
    have O2 := Lib.hid ho
    have HB := Lib.hid hb
    have hbig := HBIG.out
    clear hxr hx7 ho hb ha0 ha1
    by_cases hlt : k < N
    · have hlt2 : (k : Int) < N := by omega
      obtain ⟨K, hK⟩ : ∃ K, N - k = K + 1 := ⟨N - k - 1, by omega⟩
      have hK2 : N - (k + 1) = K := by omega
      have HE := Lib.hid (@upRun_err s K at_ zs)
      have HG := Lib.hid (@upRun_go s K at_ zs)
      have C2 := Lib.hid (CN.out at_ h0 h1)
      have hbd := HTN.out at_
      have HP1 := Lib.hid HP.out.1
      rw [hK] at HP1
      have HL := Lib.hid HP.out.2
      have HK2 := Lib.hid hK2
      generalize tn s at_ = q at *
      obtain ⟨x, nx, eq⟩ := q
      simp only at C2 HE HG hbd
      obtain ⟨_, _, b3, b4⟩ := hbd
      clear HP hK hK2
      by_cases heq : eq = 0
      case neg =>
        have HR : Hid (r = ([], [], eq)) := Lib.hid (by rw [HU.out, HP1.out, HE.out heq]; unfold unpV; exact if_pos heq)
        have f1 : (eq != 0) = true := by simpa using heq
        clear heq HE HG
        go_wp2_with fail
        refine (C2.out _).mono ?_; rintro e w4 ⟨rfl, hb⟩
        replace XR := Lib.hid (XR.out.below hb)
        replace HB := Lib.hid (below_step HB.out hb)
        clear hb
        have XR_0 := XR.out.at_ 0 _ rfl
        have XR_1 := XR.out.at_ 1 _ rfl
        have XR_l := XR.out.lt
        have XR_z0 := XR.out.frozen 0
        have XR_z1 := XR.out.frozen 1
        go_wp2_with fail
        refine bodyPost_ret (v := .tuple #[.agg #[.slice none 0 0, .slice none 0 0], .int .i64 eq]) (by simp [results, Tryz.results12, go_sem, XR_0, XR_1, XR_l]) rfl ?_
        rw [HR.out]
        exact RET.no (below_r1 (below_step HB2.out HB.out) _ _)
      subst heq
      have HP2 := Lib.hid (HP1.out.trans (HG.out rfl))
      clear HE HG HP1
      go_wp2_with fail
      refine (C2.out _).mono ?_; rintro e w4 ⟨rfl, hb⟩
      replace O2 := Lib.hid (own_below O2.out hb)
      replace XR := Lib.hid (XR.out.below hb)
      replace X7 := Lib.hid (X7.out.below hb)
      replace HB := Lib.hid (below_step HB.out hb)
      clear hb
      have X7_1 := X7.out.at_ 1 _ rfl
      have X7_l := X7.out.lt
      go_wp2_with (at_builtin; refine wpList_append_own _ rfl _ _ 23 rfl (w2.heap.size + 1) 3 i1 (.int .i64 0) 1 8 Tryz.underlying23 JI.out JZ0.out JZ1.out JZ2.out rfl (by decide) u k (icells zs) rfl (O2.out.alloc _) ⟨w4.heap.size, 0, none⟩ 1 1 [.int .i64 x] rfl rfl ?c1 ?c2 ?c3 ?c4 ?c5 ?_)
      case c1 => exact news1
      case c2 => intro u hu; simp at hu; subst hu; rfl
      case c3 => unfold maxLen; omega
      case c4 => omega
      case c5 => have := X7.out.lt; simp; omega
      intro v4 w7 hown7 hgrow _
      clear X7_1 X7_l
      replace XR := Lib.hid (XR.out.keptB O2.out (by omega) hgrow)
      replace X7 := Lib.hid (X7.out.keptB O2.out (by omega) hgrow)
      replace HB := Lib.hid (below_grownB HB.out HB.out.size (by omega) O2.out hgrow)
      have O4 : Hid (w7.ownsRow (w2.heap.size + 1) 3 1 v4 (k + 1) (icells (zs ++ [x]))) := Lib.hid (by rw [show icells (zs ++ [x]) = icells zs ++ [.int .i64 x] by simp [icells]]; exact hown7)
      clear hown7 hgrow O2
      obtain ⟨A4, c4, rfl⟩ := own_slice O4.out
      have X7_1 := X7.out.at_ 1 _ rfl
      have X7_l := X7.out.lt
      have X7_z1 := X7.out.frozen 1
      go_wp2_with fail
      clear X7_1 X7_l X7_z1
      go_roundw
      case rel =>
        exact ⟨k + 1, _, zs ++ [x], nx, by omega, by go_num, rfl, b3, b4, Lib.hid ⟨by rw [HK2.out]; exact HP2.out, by simp [HL.out]⟩, XR.out.setNe (p := ⟨w2.heap.size, 1, none⟩) (by show w2.heap.size ≠ w.heap.size; omega) _, X7.out.set_ 1 (.slice A4 (k + 1) c4),
          own_setNe (g := w2.heap.size) (a := ⟨w2.heap.size, 1, none⟩) O4.out rfl (Nat.lt_succ_self _), HB.out.setCell (p := ⟨w2.heap.size, 1, none⟩) (Nat.le_refl _) _⟩
      case measure => simp [intOf]; omega
    · have hlt2 : ¬ (k : Int) < N := by omega
      obtain rfl : k = N := by omega
      have HP1 : Hid (upRun s k a0 [] = (zs, at_, 0)) := Lib.hid (by rw [HP.out.1, Nat.sub_self]; rfl)
      have HL := Lib.hid HP.out.2
      have hzl : zs.length ≤ 9223372036854775807 := by rw [HP.out.2]; omega
      have HVV := Lib.hid (fun W v1 v2 h1 h2 => HV.out W v1 v2 zs h1 h2 hzl)
      have HUV : Hid (unpV s ns (zs, at_, 0) = if at_ < s.size then ([], [], 5) else if txV ns zs = false then ([], [], 1) else (ns, zs, 0)) := Lib.hid (by unfold unpV; exact if_neg (by simp))
      have HR0 : Hid (r = if at_ < s.size then ([], [], 5) else if txV ns zs = false then ([], [], 1) else (ns, zs, 0)) := Lib.hid (by rw [HU.out, HP1.out]; exact HUV.out)
      have hno : ¬ k < k := Nat.lt_irrefl _
      obtain ⟨A6, c6, rfl⟩ := own_slice O2.out
      generalize txV ns zs = tv at *
      clear HP HP1 HUV HU HV CN HTN hzl hk hlt
      by_cases hat : at_ < s.size
      · have HR : Hid (r = ([], [], 5)) := Lib.hid (by rw [HR0.out, if_pos hat])
        have f1 : (at_ != (s.size : Int)) = true := by simp; omega
        have f2 : (at_ == (s.size : Int)) = false := by simp; omega
        clear HVV HR0
        have XR_0 := XR.out.at_ 0 _ rfl
        have XR_1 := XR.out.at_ 1 _ rfl
        have XR_l := XR.out.lt
        have XR_z0 := XR.out.frozen 0
        have XR_z1 := XR.out.frozen 1
        go_wp2_with fail
        refine bodyPost_ret (v := .tuple #[.agg #[.slice none 0 0, .slice none 0 0], .int .i64 5]) (by simp [results, Tryz.results12, go_sem, XR_0, XR_1, XR_l]) rfl ?_
        rw [HR.out]
        exact RET.no (below_r1 (below_step HB2.out HB.out) _ _)
      have f1 : (at_ != (s.size : Int)) = false := by simp; omega
      have f2 : (at_ == (s.size : Int)) = true := by simp; omega
      cases tv
      · have HR : Hid (r = ([], [], 1)) := Lib.hid (by rw [HR0.out, if_neg hat, if_pos rfl])
        clear HR0
        have X7_0 := X7.out.at_ 0 _ rfl
        have X7_1 := X7.out.at_ 1 _ rfl
        go_wp2_with fail
        clear X7_0 X7_1
        refine (HVV.out _ _ _ (HS.out.below HB.out) (IL.of_own O2.out) (HK.out.below (below_step HB2.out HB.out)) (HM.out.below (below_step HB2.out HB.out))).mono ?_; rintro e w9 ⟨rfl, hb⟩
        replace XR := Lib.hid (XR.out.below hb)
        replace X7 := Lib.hid (X7.out.below hb)
        replace HB := Lib.hid (below_step HB.out hb)
        clear hb
        have XR_0 := XR.out.at_ 0 _ rfl
        have XR_1 := XR.out.at_ 1 _ rfl
        have XR_l := XR.out.lt
        have XR_z0 := XR.out.frozen 0
        have XR_z1 := XR.out.frozen 1
        go_wp2_with fail
        refine bodyPost_ret (v := .tuple #[.agg #[.slice none 0 0, .slice none 0 0], .int .i64 1]) (by simp [results, Tryz.results12, go_sem, XR_0, XR_1, XR_l]) rfl ?_
        rw [HR.out]
        exact RET.no (below_r1 (below_step HB2.out HB.out) _ _)
      · have HR : Hid (r = (ns, zs, 0)) := Lib.hid (by rw [HR0.out, if_neg hat, if_neg (by simp)])
        clear HR0
        have X7_0 := X7.out.at_ 0 _ rfl
        have X7_1 := X7.out.at_ 1 _ rfl
        go_wp2_with fail
        clear X7_0 X7_1
        refine (HVV.out _ _ _ (HS.out.below HB.out) (IL.of_own O2.out) (HK.out.below (below_step HB2.out HB.out)) (HM.out.below (below_step HB2.out HB.out))).mono ?_; rintro e w9 ⟨rfl, hb⟩
        replace O2 := Lib.hid (own_below O2.out hb)
        replace XR := Lib.hid (XR.out.below hb)
        replace X7 := Lib.hid (X7.out.below hb)
        replace HB := Lib.hid (below_step HB.out hb)
        clear hb
        have hbg := HBIG.out
        have XR_0 := XR.out.at_ 0 _ rfl
        have XR_1 := XR.out.at_ 1 _ rfl
        have XR_l := XR.out.lt
        have XR_z0 := XR.out.frozen 0
        have XR_z1 := XR.out.frozen 1
        have X7_0 := X7.out.at_ 0 _ rfl
        have X7_1 := X7.out.at_ 1 _ rfl
        go_wp2_with fail
        refine bodyPost_ret (v := .tuple #[.agg #[.slice A1 k c1, .slice A6 k c6], .int .i64 0]) (by simp [results, Tryz.results12, go_sem, XR_0, XR_1, XR_l]) rfl ?_
        rw [HR.out]
        have hb2 := below_step HB2.out HB.out
        refine ⟨_, _, rfl, ?_, ?_, below_r1 hb2 _ _⟩
        · exact ((HS.out.below HB.out).setBox XR.out (by simp)).setBox (XR.out.set_ 0 _) (by simp)
        · exact IL.of_own (own_setNe (g := w.heap.size) (a := ⟨w.heap.size, 1, none⟩) (own_setNe (g := w.heap.size) (a := ⟨w.heap.size, 0, none⟩) O2.out rfl (by omega)) rfl (by omega))

end Go.Proofs.YtbjcbndmafddoaaGreatDoor

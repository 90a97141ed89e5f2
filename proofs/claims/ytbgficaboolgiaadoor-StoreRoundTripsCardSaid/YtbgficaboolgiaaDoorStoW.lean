/-
  Walk of StoreDamage.
-/
import Derived.Test.YtbgficaboolgiaaDoorStoV
namespace Go.Proofs.YtbgficaboolgiaaDoor
open Go.RowKit Go.WideShapes Go.ChangeShapes Go.Deep
set_option linter.unusedVariables false
set_option linter.unusedSimpArgs false

theorem bits_xor_u8_nat (a b : Nat) (ha : a < 256) (hb : b < 256) : bits .xor .u8 (a : Int) (b : Int) = ((a ^^^ b : Nat) : Int) := by
  have hx : a ^^^ b < 2 ^ 8 := Nat.xor_lt_two_pow (by omega) (by omega)
  have h1 : (BitVec.ofInt 8 (a : Int)).toNat = a := by
    rw [BitVec.ofInt_natCast, BitVec.toNat_ofNat]; exact Nat.mod_eq_of_lt (by omega)
  have h2 : (BitVec.ofInt 8 (b : Int)).toNat = b := by
    rw [BitVec.ofInt_natCast, BitVec.toNat_ofNat]; exact Nat.mod_eq_of_lt (by omega)
  show IntKind.u8.wrap ((BitVec.ofInt 8 (a : Int) ^^^ BitVec.ofInt 8 (b : Int)).toNat : Int) = _
  rw [BitVec.toNat_xor, h1, h2]
  have : IntKind.u8.wrap ((a ^^^ b : Nat) : Int) = ((a ^^^ b : Nat) : Int) % 256 := by simp [IntKind.wrap, IntKind.bits, IntKind.signed]
  rw [this]
  omega
/-- Decode, where only the error matters. -/
def DE (w : World) (er : Int) (e : Ending) (w' : World) : Prop := ∃ te se de si cy sn gt A M c B N d sm il, e = .returned (.tuple #[.agg #[.string te, .int .u64 (se : Nat), .string de, .string si, .int .i64 cy, .int .i64 sn, .int .i64 gt, .slice A M c, .slice B N d, .int .i64 sm, .int .i64 il], .int .i64 er]) ∧ Below w.heap.size w w'
theorem stoDecE (s : ByteArray) (hs : s.size ≤ maxLen) (w : World) : Calls Tryd.prog 13 #[.string s] w fun e w' => DE w (decT s).2 e w' := by
  refine (stoDecode s hs w).mono ?_
  rintro e w' ⟨p, q, rfl, h1, h2, hb⟩
  obtain ⟨A, c, rfl⟩ := h1.slice
  obtain ⟨B, d, rfl⟩ := h2.slice
  exact ⟨_, _, _, _, _, _, _, A, _, c, B, _, d, _, _, rfl, hb⟩
/-- A byte of a text is changed. -/
theorem cut_change {L : List UInt8} {k : Nat} (hk : k < L.length) (x : UInt8) : ((mkS L).extract 0 k ++ ⟨#[x]⟩) ++ (mkS L).extract (k + 1) (mkS L).size = mkS (L.take k ++ x :: L.drop (k + 1)) := by
  apply bytes_eq
  have e1 : ((mkS L).extract 0 k).data.toList = L.take k := by
    have := bl_extract (mkS L) 0 k
    rw [bl_mk, List.drop_zero, Nat.sub_zero] at this
    exact this
  have e2 : ((mkS L).extract (k + 1) (mkS L).size).data.toList = L.drop (k + 1) := by
    have := bl_extract (mkS L) (k + 1) (mkS L).size
    rw [bl_mk, mkS_size, List.take_of_length_le (by rw [List.length_drop]; omega)] at this
    rw [mkS_size]
    exact this
  rw [ByteArray.data_append, ByteArray.data_append, Array.toList_append, Array.toList_append, e1, e2, mkS_data]
  simp

set_option maxRecDepth 100000 in
set_option maxHeartbeats 16000000 in
theorem walkStoreDamage {H : Type} {enc : TypeId × Value → H} {base : Nat} {w : World} (v0 : Value) (d0 : DataW H) (p0 : List MemPlace) (g0 : DataW.Trod enc Tryd.prog w 0 (fun _ => true) true 27 v0 d0 p0) (hv0 : Value.okWide Tryd.prog w .any base 27 v0)
    (a : Int) (wa : 0 ≤ a ∧ a ≤ 65535) (b : Int) (wb : 0 ≤ b ∧ b ≤ 255) (ht : Tab w) :
    Calls Tryd.prog 6 #[v0, .int .u16 a, .int .u8 b] w fun e w' => e = .returned (.bool true) ∧ Below w.heap.size w w' := by
  obtain ⟨p, q, r, rfl, hp, hq, hz⟩ := arg_res g0 hv0
  have CE := Lib.hid (fun W (hW : Below w.heap.size w W) => stoEncode W p q r (hp.below hW) (hq.below hW) hz (ht.below hW))
  have CW := Lib.hid (fun W (hW : Below w.heap.size w W) => lawAwake W (ht.below hW))
  have CD := Lib.hid (fun s hs W => stoDecE s hs W)
  have hse := hz.2.2.2.1
  obtain ⟨A1, c1, rfl, -⟩ := hp.slice
  obtain ⟨A2, c2, rfl, -⟩ := hq.slice
  obtain ⟨a, rfl⟩ : ∃ n : Nat, a = n := ⟨a.toNat, by omega⟩
  obtain ⟨b, rfl⟩ : ∃ n : Nat, b = n := ⟨b.toNat, by omega⟩
  clear hp hq hz ht g0 hv0
  cases hv : stoB r
  · have he : encT r = (⟨#[]⟩, 1) := by unfold encT; rw [hv]; rfl
    rw [he] at CE
    simp only at CE
    clear he hv hse
    obtain ⟨te, se, de, si, cy, sn, gt, ps, cs, sm, il⟩ := r
    unfold resV at CE ⊢
    simp only at CE ⊢
    generalize ps.length = M at *
    generalize cs.length = N at *
    go_enter Tryd.func6, Tryd.ntmps6
    go_upto_region 1 with fail
    have XA := Lib.hid (box_new (W := w) (g := w.heap.size) 27 #[.string te, .int .u64 se, .string de, .string si, .int .i64 cy, .int .i64 sn, .int .i64 gt, .slice A1 M c1, .slice A2 N c2, .int .i64 sm, .int .i64 il] (by simp))
    have HB := Lib.hid (below_alloc w (.cells #[.string te, .int .u64 se, .string de, .string si, .int .i64 cy, .int .i64 sn, .int .i64 gt, .slice A1 M c1, .slice A2 N c2, .int .i64 sm, .int .i64 il] 27))
    generalize w.alloc (.cells #[.string te, .int .u64 se, .string de, .string si, .int .i64 cy, .int .i64 sn, .int .i64 gt, .slice A1 M c1, .slice A2 N c2, .int .i64 sm, .int .i64 il] 27) = w1 at *
    have XA_0 := XA.out.at_ 0 _ rfl
    have XA_1 := XA.out.at_ 1 _ rfl
    have XA_2 := XA.out.at_ 2 _ rfl
    have XA_3 := XA.out.at_ 3 _ rfl
    have XA_4 := XA.out.at_ 4 _ rfl
    have XA_5 := XA.out.at_ 5 _ rfl
    have XA_6 := XA.out.at_ 6 _ rfl
    have XA_7 := XA.out.at_ 7 _ rfl
    have XA_8 := XA.out.at_ 8 _ rfl
    have XA_9 := XA.out.at_ 9 _ rfl
    have XA_a := XA.out.at_ 10 _ rfl
    go_wp2_with fail
    refine (CE.out _ HB.out).mono ?_; rintro e w2 ⟨rfl, hb⟩
    clear XA_0 XA_1 XA_2 XA_3 XA_4 XA_5 XA_6 XA_7 XA_8 XA_9 XA_a
    replace XA := Lib.hid (XA.out.below hb)
    replace HB := Lib.hid (below_step HB.out hb)
    clear hb
    go_wp2_with fail
    refine (CW.out _ HB.out).mono ?_; rintro e w3 ⟨rfl, hb⟩
    replace XA := Lib.hid (XA.out.below hb)
    replace HB := Lib.hid (below_step HB.out hb)
    clear hb
    go_wp2_with fail
    go_ret
    exact ⟨rfl, HB.out⟩
  have he : encT r = (mkS (sealL (bodyL r)), 0) := by unfold encT; rw [hv]; rfl
  rw [he] at CE
  simp only at CE
  have hbl := body_len hv
  have hsl := sealL_len (bodyL r)
  have hL1 : (sealL (bodyL r)).length ≤ 300009 := by omega
  have hL0 : 0 < (sealL (bodyL r)).length := by omega
  have HC := Lib.hid (fun k (hk : k < (sealL (bodyL r)).length) => dec_cut hv hse hk (by omega))
  have HD := Lib.hid (fun p q c c' (h : sealL (bodyL r) = p ++ c :: q) (hc : c ≠ c') => dec_byte (by omega) h hc)
  have HE := Lib.hid (decT_enc hv hse)
  generalize sealL (bodyL r) = L at *
  clear hbl hsl he hv hse
  obtain ⟨k, hk⟩ : ∃ k, k = a % L.length := ⟨_, rfl⟩
  have hkl : k < L.length := by rw [hk]; exact Nat.mod_lt _ hL0
  have hmod : ((a : Int) % (L.length : Int)) = (k : Int) := by rw [hk]; omega
  have hsz : (mkS L).size = L.length := mkS_size L
  have hget : (mkS L)[k]'(by rw [hsz]; exact hkl) = L.getD k 0 := by
    rw [byte_at _ _ (by rw [hsz]; exact hkl), mkS_data]
  obtain ⟨c, hc⟩ : ∃ c, c = L.getD k 0 := ⟨_, rfl⟩
  rw [← hc] at hget
  have HG : Hid (∀ h : k < (mkS L).size, (mkS L)[k] = c) := Lib.hid fun h => hget
  clear hget
  obtain ⟨x, hx⟩ : ∃ x : UInt8, x = UInt8.ofNat (c.toNat ^^^ b) := ⟨_, rfl⟩
  have hcl := c.toNat_lt
  have hxlt : c.toNat ^^^ b < 2 ^ 8 := Nat.xor_lt_two_pow (by omega) (by omega)
  have hxn : x.toNat = c.toNat ^^^ b := by rw [hx, UInt8.toNat_ofNat']; omega
  have hxor : bits .xor .u8 ((c.toNat : Nat) : Int) (b : Int) = ((x.toNat : Nat) : Int) := by rw [hxn]; exact bits_xor_u8_nat _ _ hcl (by omega)
  have hsplit : L = L.take k ++ c :: L.drop (k + 1) := by
    conv => lhs; rw [← List.take_append_drop k L, List.drop_eq_getElem_cons hkl]
    rw [hc, List.getD_eq_getElem?_getD, List.getElem?_eq_getElem hkl]; rfl
  -- what the two damaged texts decode to
  have ecut : (mkS L).extract 0 k = mkS (L.take k) := by
    apply bytes_eq
    have := bl_extract (mkS L) 0 k
    rw [bl_mk, List.drop_zero, Nat.sub_zero] at this
    rw [mkS_data]; exact this
  have hf : (decT ((mkS L).extract 0 k)).2 ≠ 0 := by rw [ecut]; exact HC.out k hkl
  have hg : decide ((decT (mkS (L.take k ++ x :: L.drop (k + 1)))).2 = 0) = decide (b = 0) := by
    by_cases h0 : b = 0
    · have hxc : x = c := UInt8.toNat_inj.1 (by rw [hxn, h0, Nat.xor_zero])
      rw [hxc, ← hsplit, HE.out, h0]; rfl
    · have hxc : c ≠ x := fun e => h0 (by
        have h1 : c.toNat = c.toNat ^^^ b := by rw [← hxn, ← e]
        have h2 : c.toNat ^^^ c.toNat = c.toNat ^^^ (c.toNat ^^^ b) := by rw [← h1]
        rw [← Nat.xor_assoc, Nat.xor_self, Nat.zero_xor] at h2
        exact h2.symm)
      rw [decide_eq_false (HD.out _ _ c x hsplit hxc), decide_eq_false h0]
  have C1 := Lib.hid (fun W => CD.out ((mkS L).extract 0 k) (by rw [ecut, mkS_size, List.length_take]; unfold maxLen; omega) W)
  have C2 := Lib.hid (fun W => CD.out (mkS (L.take k ++ x :: L.drop (k + 1))) (by rw [mkS_size, List.length_append, List.length_cons, List.length_take, List.length_drop]; unfold maxLen; omega) W)
  have HJ := Lib.hid (cut_change hkl x)
  have sz1 : ((mkS L).extract 0 k).size = k := by rw [ecut, mkS_size, List.length_take]; omega
  have sz2 : ((mkS L).extract (k + 1) (mkS L).size).size = L.length - (k + 1) := by rw [extract_size _ _ _ (Nat.le_refl _), hsz]
  generalize (decT ((mkS L).extract 0 k)).2 = ef at *
  generalize (decT (mkS (L.take k ++ x :: L.drop (k + 1)))).2 = eg at *
  generalize hT : mkS (L.take k ++ x :: L.drop (k + 1)) = T at *
  have hN : (mkS L).size ≤ 300009 := by omega
  have hN0 : 0 < (mkS L).size := by omega
  have hkN : k < (mkS L).size := by omega
  rw [← hsz] at hmod sz2
  generalize mkS L = s at *
  clear hT HC HD HE hsplit ecut hxn hxlt hcl hx hc hkl hsz hL0 hL1 hk CD
  generalize L.length = Ln at *
  have fN : ((s.size : Int) == 0) = false := by rw [beq_eq_false_iff_ne]; omega
  have fN2 : ¬ (s.size : Int) = 0 := by omega
  have e1 : (ef != 0) = true := by simpa using hf
  have e1b : (ef == 0) = false := by simpa using hf
  have e2 : ((b : Int) == 0) = decide (b = 0) := by
    by_cases h : b = 0
    · subst h; rfl
    · rw [decide_eq_false h, beq_eq_false_iff_ne]; omega
  have e3 : (eg == 0) = decide (b = 0) := by
    rw [← hg]
    by_cases h : eg = 0
    · subst h; rfl
    · rw [decide_eq_false h, beq_eq_false_iff_ne]; exact h
  generalize decide (b = 0) = β at *
  obtain ⟨te, se, de, si, cy, sn, gt, ps, cs, sm, il⟩ := r
  unfold resV at CE ⊢
  simp only at CE ⊢
  generalize ps.length = M at *
  generalize cs.length = N at *
  have k0 : (0 : Int) ≤ (k : Int) := by omega
  have k1 : (k : Int) < s.size := by omega
  have k2 : (k : Int) ≤ s.size := by omega
  have k3 : (k : Int) + 1 ≤ s.size := by omega
  go_enter Tryd.func6, Tryd.ntmps6
  go_upto_region 1 with fail
  have XA := Lib.hid (box_new (W := w) (g := w.heap.size) 27 #[.string te, .int .u64 se, .string de, .string si, .int .i64 cy, .int .i64 sn, .int .i64 gt, .slice A1 M c1, .slice A2 N c2, .int .i64 sm, .int .i64 il] (by simp))
  have HB := Lib.hid (below_alloc w (.cells #[.string te, .int .u64 se, .string de, .string si, .int .i64 cy, .int .i64 sn, .int .i64 gt, .slice A1 M c1, .slice A2 N c2, .int .i64 sm, .int .i64 il] 27))
  generalize w.alloc (.cells #[.string te, .int .u64 se, .string de, .string si, .int .i64 cy, .int .i64 sn, .int .i64 gt, .slice A1 M c1, .slice A2 N c2, .int .i64 sm, .int .i64 il] 27) = w1 at *
  have XA_0 := XA.out.at_ 0 _ rfl
  have XA_1 := XA.out.at_ 1 _ rfl
  have XA_2 := XA.out.at_ 2 _ rfl
  have XA_3 := XA.out.at_ 3 _ rfl
  have XA_4 := XA.out.at_ 4 _ rfl
  have XA_5 := XA.out.at_ 5 _ rfl
  have XA_6 := XA.out.at_ 6 _ rfl
  have XA_7 := XA.out.at_ 7 _ rfl
  have XA_8 := XA.out.at_ 8 _ rfl
  have XA_9 := XA.out.at_ 9 _ rfl
  have XA_a := XA.out.at_ 10 _ rfl
  go_wp2_with fail
  refine (CE.out _ HB.out).mono ?_; rintro e w2 ⟨rfl, hb⟩
  clear XA_0 XA_1 XA_2 XA_3 XA_4 XA_5 XA_6 XA_7 XA_8 XA_9 XA_a
  replace XA := Lib.hid (XA.out.below hb)
  replace HB := Lib.hid (below_step HB.out hb)
  clear hb
  clear XA
  go_upto_region 7 with fail
  rw [hmod]
  go_wp2_with fail
  refine (C1.out _).mono ?_; rintro e w3 ⟨te1, se1, de1, si1, cy1, sn1, gt1, B1, M1, d1, B2, N1, d2, sm1, il1, rfl, hb⟩
  replace HB := Lib.hid (below_step HB.out hb)
  clear hb
  go_upto_region 8 with fail
  have XB := Lib.hid (box_new (W := w3) (g := w3.heap.size) 27 #[.string te1, .int .u64 se1, .string de1, .string si1, .int .i64 cy1, .int .i64 sn1, .int .i64 gt1, .slice B1 M1 d1, .slice B2 N1 d2, .int .i64 sm1, .int .i64 il1] (by simp))
  have hba := (below_alloc w3 (.cells #[.string te1, .int .u64 se1, .string de1, .string si1, .int .i64 cy1, .int .i64 sn1, .int .i64 gt1, .slice B1 M1 d1, .slice B2 N1 d2, .int .i64 sm1, .int .i64 il1] 27))
  replace HB := Lib.hid (below_step HB.out hba)
  clear hba
  generalize w3.alloc (.cells #[.string te1, .int .u64 se1, .string de1, .string si1, .int .i64 cy1, .int .i64 sn1, .int .i64 gt1, .slice B1 M1 d1, .slice B2 N1 d2, .int .i64 sm1, .int .i64 il1] 27) = w4 at *
  clear XB
  have hcv : (convert 46 9 (.slice (some ⟨w4.heap.size, 0, none⟩) 1 1)).run Tryd.prog (w4.alloc (.cells #[.int .u8 (bits BinOp.xor .u8 ((s[k].toNat : Nat) : Int) (b : Int))] 5)).drew = .ok (.string ⟨#[x]⟩) (w4.alloc (.cells #[.int .u8 (bits BinOp.xor .u8 ((s[k].toNat : Nat) : Int) (b : Int))] 5)).drew := by
    rw [HG.out hkN, hxor]
    exact conv_box (l := [x]) ((Box.new w4 5 (bcArr [x])).below (below_drawn _))
  have f1 : ¬ 9223372036854775807 < (s.extract 0 k).size + (⟨#[x]⟩ : ByteArray).size := by rw [sz1]; show ¬ _ < k + 1; omega
  have f1' : ¬ 9223372036854775807 < (s.extract 0 k).size + 1 := by omega
  have f2 : ¬ 9223372036854775807 < (s.extract 0 k ++ ⟨#[x]⟩).size + (s.extract (k + 1) s.size).size := by rw [ByteArray.size_append, sz1, sz2]; show ¬ _ < k + 1 + _; omega
  have f2' : ¬ 9223372036854775807 < (s.extract 0 k).size + 1 + (s.extract (k + 1) s.size).size := by rw [sz1, sz2]; omega
  have f2'' : ¬ 9223372036854775807 < (s.extract 0 k).size + (⟨#[x]⟩ : ByteArray).size + (s.extract (k + 1) s.size).size := by rw [sz1, sz2]; show ¬ _ < k + 1 + _; omega
  clear C1 hxor HG
  go_region
  clear hcv f1 f1' f2 f2' f2''
  rw [HJ.out]
  have hb : Below w4.heap.size w4 (w4.alloc (.cells #[.int .u8 (bits BinOp.xor .u8 ((s[k].toNat : Nat) : Int) (b : Int))] 5)).drew := below_step (below_alloc w4 (.cells #[.int .u8 (bits BinOp.xor .u8 ((s[k].toNat : Nat) : Int) (b : Int))] 5)) (below_drewN (Below.refl _ _) 1)
  replace HB := Lib.hid (below_step HB.out hb)
  clear hb
  generalize (w4.alloc (.cells #[.int .u8 (bits BinOp.xor .u8 ((s[k].toNat : Nat) : Int) (b : Int))] 5)).drew = w5 at *
  go_wp2_with fail
  refine (C2.out _).mono ?_; rintro e w6 ⟨te2, se2, de2, si2, cy2, sn2, gt2, B3, M3, d3, B4, N4, d4, sm2, il2, rfl, hb⟩
  replace HB := Lib.hid (below_step HB.out hb)
  clear hb
  clear C2 HJ
  go_upto_region 10 with fail
  have XC := Lib.hid (box_new (W := w6) (g := w6.heap.size) 27 #[.string te2, .int .u64 se2, .string de2, .string si2, .int .i64 cy2, .int .i64 sn2, .int .i64 gt2, .slice B3 M3 d3, .slice B4 N4 d4, .int .i64 sm2, .int .i64 il2] (by simp))
  have hba := (below_alloc w6 (.cells #[.string te2, .int .u64 se2, .string de2, .string si2, .int .i64 cy2, .int .i64 sn2, .int .i64 gt2, .slice B3 M3 d3, .slice B4 N4 d4, .int .i64 sm2, .int .i64 il2] 27))
  replace HB := Lib.hid (below_step HB.out hba)
  clear hba
  generalize w6.alloc (.cells #[.string te2, .int .u64 se2, .string de2, .string si2, .int .i64 cy2, .int .i64 sn2, .int .i64 gt2, .slice B3 M3 d3, .slice B4 N4 d4, .int .i64 sm2, .int .i64 il2] 27) = w7 at *
  clear XC
  cases β
  · go_wp2_with fail
    refine (CW.out _ HB.out).mono ?_; rintro e w8 ⟨rfl, hb⟩
    replace HB := Lib.hid (below_step HB.out hb)
    clear hb
    go_wp2_with fail
    go_ret
    exact ⟨rfl, HB.out⟩
  · go_wp2_with fail
    refine (CW.out _ HB.out).mono ?_; rintro e w8 ⟨rfl, hb⟩
    replace HB := Lib.hid (below_step HB.out hb)
    clear hb
    go_wp2_with fail
    go_ret
    exact ⟨rfl, HB.out⟩

end Go.Proofs.YtbgficaboolgiaaDoor

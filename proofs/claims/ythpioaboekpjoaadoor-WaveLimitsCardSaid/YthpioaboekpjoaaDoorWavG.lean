/-
  Contract of wave.Print.
-/
import Derived.Test.YthpioaboekpjoaaDoorWavF
import Derived.Test.YthpioaboekpjoaaDoorShelf
import Derived.Lib.Builder
import Derived.Lib.UnsafeStr
namespace Go.Proofs.YthpioaboekpjoaaDoor
open Go.RowKit
set_option linter.unusedVariables false
set_option linter.unusedSimpArgs false

theorem bWriteW (B b : Nat) (l : List UInt8) (s : ByteArray) (w : World) (h : Lib.IsBuilder 65 5 B b (Lib.byteCells l) w) (hlen : l.length + s.size ≤ 140737488355328) (hBw : B ≤ w.heap.size) :
    Calls Tryd.prog 43 #[.pointer (some ⟨b, 0, none⟩), .string s] w fun e w' => e = .returned (.tuple #[.int .i64 s.size, .nilIface]) ∧ (Lib.IsBuilder 65 5 B b (Lib.byteCells (l ++ s.data.toList)) w' ∧ Below B w w') := by
  refine (Any.Builder_WriteString (P := Tryd.prog) (ρ := Tryd.lays156_ren) { Tryd.lays156 with } Tryd.Builder_Extra_156 B b (Lib.byteCells l) s w h (by rw [Lib.byteCells_length]; exact hlen) hBw).mono fun e w' ⟨he, hb, hw⟩ => ⟨he, ?_, hw⟩
  rw [Lib.byteCells_append, ← Lib.strCells_eq]
  exact .inr hb
theorem builder_keepW {T e : TypeId} {B b : Nat} {bs : List Value} {w w' : World} (h : Lib.IsBuilder T e B b bs w) (hb : Below w.heap.size w w') : Lib.IsBuilder T e B b bs w' := by
  have key : ∀ p, Lib.BuilderAt T e B b p bs w → Lib.BuilderAt T e B b p bs w' := fun p h => by
    have hlt := h.lt
    obtain ⟨hB, v, hbk, hown, hne⟩ := h
    exact ⟨hB, v, (hb.block b hlt).trans hbk, own_below hown hb, hne⟩
  exact h.imp (key _) (key _)
theorem joinS (w : World) (v : Value) (xs : List ByteArray) (h : SL w v xs) (hn : xs.length ≤ 140737488355328) (hj : (joinP xs).length ≤ 140737488355328) :
    Calls Tryd.prog 44 #[v, .string ⟨#[32]⟩] w fun e w' => e = .returned (.string ⟨(joinP xs).toArray⟩) ∧ Below w.heap.size w w' := by
  rcases h.form with ⟨A, c, rfl, rfl⟩ | ⟨b, o, c, rfl, hc, hl, hlt, hcl⟩
  · exact (Tryd.strings_Join_none A c ⟨#[32]⟩ w).mono fun e w' ⟨he, hw⟩ => ⟨he, by rw [hw]; exact Below.refl _ _⟩
  · refine Tryd.strings_Join b o c xs ⟨#[32]⟩ w (fun j x hx => ?_) hlt hn (by omega) hj
    have hjl := (List.getElem?_eq_some_iff.1 hx).1
    have := hcl j hjl
    rw [List.getD_eq_getElem?_getD, hx] at this
    exact this
/-- The text as far as the k-th row. -/
def prK (ns : List ByteArray) (rs : List (List Int)) (k : Nat) : List UInt8 := lnW ns ++ (rs.take k).flatMap fun r => lnW (r.map fmtS)
theorem prK_zero (ns : List ByteArray) (rs : List (List Int)) : prK ns rs 0 = lnW ns := by simp [prK]
theorem prK_succ (ns : List ByteArray) (rs : List (List Int)) (k : Nat) (h : k < rs.length) : prK ns rs (k + 1) = prK ns rs k ++ lnW ((rs.getD k []).map fmtS) := by
  unfold prK; rw [take_snocD rs k [] h, List.flatMap_append]; simp
theorem prK_all (ns : List ByteArray) (rs : List (List Int)) : prK ns rs rs.length = printL ns rs := by simp [prK, printL]
theorem prK_le (ns : List ByteArray) (rs : List (List Int)) (k : Nat) : (prK ns rs k).length ≤ (printL ns rs).length := by
  unfold prK printL
  have e : rs.flatMap (fun r => lnW (r.map fmtS)) = (rs.take k).flatMap (fun r => lnW (r.map fmtS)) ++ (rs.drop k).flatMap (fun r => lnW (r.map fmtS)) := by
    rw [← List.flatMap_append, List.take_append_drop]
  rw [e]
  simp only [List.length_append]
  omega
theorem lnW_data (l : List ByteArray) : ((⟨(joinP l).toArray⟩ : ByteArray) ++ (⟨#[10]⟩ : ByteArray)).data.toList = lnW l := by
  rw [ByteArray.data_append]; simp [lnW]
theorem lnW_len (l : List ByteArray) : (lnW l).length = (joinP l).length + 1 := by simp [lnW]
theorem map_snocF (r : List Int) (k : Nat) (h : k < r.length) : (r.take (k + 1)).map fmtS = (r.take k).map fmtS ++ [fmtS (r.getD k 0)] := by
  rw [take_snocD r k 0 h, List.map_append]; rfl

set_option maxRecDepth 100000 in
set_option maxHeartbeats 8000000 in
theorem wavPrint (w : World) (v1 v2 : Value) (ns : List ByteArray) (rs : List (List Int)) (h1 : SL w v1 ns) (h2 : Rs ilR w v2 rs anyB) (hz : WZ ns rs) (hpl : wvV ns rs = true → (printL ns rs).length ≤ 140737488355328) (hk : KW w) (hm : MLen w) (ht : Tab w) :
    Calls Tryd.prog 15 #[.agg #[v1, v2]] w fun e w' => e = .returned (.string (printW ns rs)) ∧ Below w.heap.size w w' := by
  have HT := Lib.hid ht
  have CV := Lib.hid (fun W (hW : Below w.heap.size w W) => wavValid W v1 v2 ns rs (h1.below hW) (h2.below hW) hz (hk.below hW) (hm.below hW))
  cases hv : wvV ns rs
  · rw [hv] at CV
    have HR : Hid (printW ns rs = ⟨#[]⟩) := Lib.hid (by unfold printW; rw [hv]; rfl)
    generalize printW ns rs = r at *
    obtain ⟨A2, c2, rfl, hc2⟩ := h2.slice
    obtain ⟨A1, c1, rfl, hc1, -⟩ := h1
    generalize ns.length = N at *
    generalize rs.length = M at *
    clear hv h2 hz hpl hk hm ht hc1 hc2
    go_enter Tryd.func15, Tryd.ntmps15
    go_upto_region 1 with fail
    have XA := Lib.hid (box_new (W := w) (g := w.heap.size) 26 #[.slice A1 N c1, .slice A2 M c2] (by simp))
    have HB := Lib.hid (below_alloc w (.cells #[.slice A1 N c1, .slice A2 M c2] 26))
    generalize w.alloc (.cells #[.slice A1 N c1, .slice A2 M c2] 26) = w1 at *
    have XA_0 := XA.out.at_ 0 _ rfl
    have XA_1 := XA.out.at_ 1 _ rfl
    go_wp2_with fail
    refine (CV.out _ HB.out).mono ?_; rintro e w2 ⟨rfl, hb⟩
    clear XA_0 XA_1
    replace XA := Lib.hid (XA.out.below hb)
    replace HB := Lib.hid (below_step HB.out hb)
    clear hb
    go_wp2_with fail
    go_ret
    exact ⟨by rw [HR.out]; rfl, HB.out⟩
  rw [hv] at CV
  have hV : WvV ns rs := of_decide_eq_true hv
  have hpl := hpl hv
  have HWD : Hid (∀ k, k < rs.length → (rs.getD k []).length ≤ 48 ∧ ∀ j, j < (rs.getD k []).length → 0 ≤ (rs.getD k []).getD j 0 ∧ (rs.getD k []).getD j 0 ≤ 65535) := Lib.hid fun k hk => by
    obtain ⟨a, b⟩ := hV.2.2.2 _ (getD_mem [] hk)
    refine ⟨by have := hV.1; omega, fun j hj => ?_⟩
    have := b _ (getD_mem 0 hj)
    unfold wordB at this
    exact of_decide_eq_true this
  have HR : Hid (printW ns rs = ⟨(printL ns rs).toArray⟩) := Lib.hid (by unfold printW; rw [hv]; rfl)
  have PS := Lib.hid (prK_succ ns rs)
  have PA := Lib.hid (prK_all ns rs)
  have PL := Lib.hid (prK_le ns rs)
  have P0 := Lib.hid (prK_zero ns rs)
  have hp0 := prK_le ns rs 0
  rw [prK_zero, lnW_len] at hp0
  have CJ := Lib.hid (fun W (hW : Below w.heap.size w W) => joinS W v1 ns (h1.below hW) (by have := hV.1; omega) (by omega))
  have HX := Lib.hid (fun W (hW : Below w.heap.size w W) => (h2.below hW).ils)
  have PD := Lib.hid (lnW_data ns)
  obtain ⟨xn, hxn⟩ : ∃ x : ByteArray, x = ⟨(joinP ns).toArray⟩ := ⟨_, rfl⟩
  have hxs : xn.size + 1 = (lnW ns).length := by rw [hxn, lnW_len, Lib.size_eq]
  rw [← hxn] at CJ PD
  obtain ⟨A2, c2, rfl, hc2⟩ := h2.slice
  obtain ⟨A1, c1, rfl, hc1, -⟩ := h1
  obtain ⟨M, hM⟩ : ∃ M, M = rs.length := ⟨_, rfl⟩
  have HMM := Lib.hid hM
  have hM4 : M ≤ 4096 := by rw [hM]; exact hV.2.1
  rw [← hM] at CV PA HX ⊢
  generalize ns.length = N at *
  generalize printW ns rs = r at *
  generalize prK ns rs = pk at *
  generalize printL ns rs = pl at *
  have hxl : (lnW ns).length ≤ 140737488355328 := by rw [← P0.out]; exact Nat.le_trans (PL.out 0) hpl
  rw [← hxs] at hxl
  obtain ⟨i0, hi, hz0, hz1, hz2⟩ := info_parts istr
  have JI := Lib.hid hi
  have JZ0 := Lib.hid hz0
  have JZ1 := Lib.hid hz1
  have JZ2 := Lib.hid hz2
  have HPL := Lib.hid hpl
  clear hi hz0 hz1 hz2 hv h2 hz hk hm ht hc1 hc2 hV hM hp0 hxn hpl hxs
  have f5 : ¬ 9223372036854775807 < xn.size + 1 := by omega
  go_enter Tryd.func15, Tryd.ntmps15
  go_upto_region 1 with fail
  have XA := Lib.hid (box_new (W := w) (g := w.heap.size) 26 #[.slice A1 N c1, .slice A2 M c2] (by simp))
  have HB := Lib.hid (below_alloc w (.cells #[.slice A1 N c1, .slice A2 M c2] 26))
  generalize w.alloc (.cells #[.slice A1 N c1, .slice A2 M c2] 26) = w1 at *
  have XA_0 := XA.out.at_ 0 _ rfl
  have XA_1 := XA.out.at_ 1 _ rfl
  go_wp2_with fail
  refine (CV.out _ HB.out).mono ?_; rintro e w2 ⟨rfl, hb⟩
  clear XA_0 XA_1
  replace XA := Lib.hid (XA.out.below hb)
  replace HB := Lib.hid (below_step HB.out hb)
  clear hb
  clear CV
  have hB0 : w.heap.size ≤ w2.heap.size := HB.out.size
  have HI := Lib.hid (Lib.fresh_isBuilder 65 5 w2)
  have hXA : w.heap.size < w2.heap.size := XA.out.lt
  go_upto_region 4 with fail
  have XB := Lib.hid (box_new (W := w2) (g := w2.heap.size) 65 #[.pointer none, .slice none 0 0] (by simp))
  have hba := (below_alloc w2 (.cells #[.pointer none, .slice none 0 0] 65))
  replace XA := Lib.hid (XA.out.below hba)
  replace HB := Lib.hid (below_step HB.out hba)
  clear hba
  generalize w2.alloc (.cells #[.pointer none, .slice none 0 0] 65) = w3 at *
  have hB3 : w2.heap.size ≤ w3.heap.size := Nat.le_of_lt XB.out.lt
  clear XB
  obtain ⟨B, hBe⟩ : ∃ B, B = w2.heap.size := ⟨_, rfl⟩
  rw [← hBe] at HI hB3 hB0 hXA ⊢
  clear hBe
  have XA_0 := XA.out.at_ 0 _ rfl
  go_wp2_with fail
  refine (CJ.out _ HB.out).mono ?_; rintro e w4 ⟨rfl, hb⟩
  clear CJ
  replace HI := Lib.hid (builder_keepW HI.out hb)
  have hB4 : B ≤ w4.heap.size := Nat.le_trans hB3 hb.size
  clear XA_0
  replace XA := Lib.hid (XA.out.below hb)
  replace HB := Lib.hid (below_step HB.out hb)
  clear hb
  go_wp2_with fail
  refine (bWriteW B B [] _ _ HI.out (by rw [ByteArray.size_append]; simp only [List.length_nil, Nat.zero_add]; exact hxl) hB4).mono ?_; rintro e w5 ⟨rfl, hi, hb⟩
  rw [List.nil_append, PD.out, ← P0.out] at hi
  replace HI := Lib.hid hi
  replace XA := Lib.hid (XA.out.belowB hb hXA)
  have hB5 : B ≤ w5.heap.size := Nat.le_trans hB4 hb.size
  replace HB := Lib.hid (HB.out.trans (hb.mono hB0))
  clear hi hb PD P0 f5 hxl
  have XA_1 := XA.out.at_ 1 _ rfl
  go_wp2_with fail
  clear XA_1
  clear XA
  go_loopw [20] (fun i wr => ∃ k : Nat, k ≤ M ∧ i = .int .i64 k ∧ Lib.IsBuilder 65 5 B B (Lib.byteCells (pk k)) wr ∧ B ≤ wr.heap.size ∧ Below w.heap.size w wr) (fun i _ => M - (intOf i).toNat)
  case atStart => exact ⟨0, Nat.zero_le _, rfl, HI.out, hB5, HB.out⟩
  case round =>
    clear HI HB hB3 hB4 hB5
    obtain ⟨k, hk, rfl, hi, hBr, hb⟩ := hrel
    have HI := Lib.hid hi
    have HB := Lib.hid hb
    clear hi hb
    by_cases hlt : k < M
    · have hlt2 : (k : Int) < M := by omega
      have hk0 : (0 : Int) ≤ (k : Int) := by omega
      have hkn : k < rs.length := by rw [← HMM.out]; exact hlt
      obtain ⟨A', c', e', -, hx⟩ := HX.out _ HB.out
      simp only [Value.slice.injEq] at e'
      obtain ⟨rfl, -, rfl⟩ := e'
      obtain ⟨b, o, u, rfl, hbl, q0, hu, -⟩ := hx k hlt
      obtain ⟨hr48, hword⟩ := HWD.out k hkn
      have HWK := Lib.hid hword
      have HSU := Lib.hid (PS.out k hkn)
      have hle := PL.out (k + 1)
      rw [HSU.out, List.length_append, lnW_len] at hle
      have HU := Lib.hid hu
      obtain ⟨E, e1, rfl, -⟩ := id hu
      generalize rs.getD k [] = row at *
      obtain ⟨L, hL⟩ : ∃ L, L = row.length := ⟨_, rfl⟩
      have HL := Lib.hid hL
      rw [← hL] at q0 hr48 HU
      have HFS := Lib.hid (map_snocF row)
      clear hx hu hword hkn hL
      obtain ⟨wo, rfl⟩ : ∃ wo : World, wo = wr := ⟨_, rfl⟩
      go_wp2_with fail
      clear q0
      go_loopw [6, 26] (fun lv i wr => ∃ j : Nat, j ≤ L ∧ i = .int .i64 j ∧ OG strR wr wo.heap.size 0 9 lv ((row.take j).map fmtS) ∧ Below wo.heap.size wo wr) (fun _ i _ => L - (intOf i).toNat)
      case atStart => exact ⟨0, Nat.zero_le _, rfl, OG.nil strR _ _ _ _ (by decide) (Nat.zero_le _), Below.refl _ _⟩
      case round =>
        obtain ⟨j, hj, rfl, hog, hc⟩ := hrel
        have HC := Lib.hid hc
        have HOG := Lib.hid hog
        obtain ⟨OA, oc, rfl⟩ := hog.slice
        have hlj : ((row.take j).map fmtS).length = j := by rw [List.length_map, List.length_take]; have := HL.out; omega
        clear hc hog
        rw [hlj] at HOG ⊢
        by_cases hjt : j < L
        · have hjt2 : (j : Int) < L := by omega
          have hj0 : (0 : Int) ≤ (j : Int) := by omega
          have hjr : j < row.length := by rw [← HL.out]; exact hjt
          obtain ⟨E', e', ee, -, hcell⟩ := HU.out
          simp only [Value.slice.injEq] at ee
          obtain ⟨rfl, -, rfl⟩ := ee
          obtain ⟨a2, rfl, ha2, hcell⟩ := hcell (by omega)
          have q1 : wr.cell? (a2.add j) = some (.int .i64 (row.getD j 0)) := by rw [HC.out.cell (by rw [block_of_add]; exact ha2)]; exact hcell j hjr
          obtain ⟨z0, z1⟩ := HWK.out j hjr
          have HFj := Lib.hid (HFS.out j hjr)
          generalize row.getD j 0 = z at *
          have CN := Lib.hid (fun W h => numFormat z W (by omega) (by omega) h)
          clear hcell hjr z0 z1
          go_wp2_with fail
          refine (CN.out _ (HT.out.below (below_step HB.out HC.out))).mono ?_; rintro e w6 ⟨rfl, hb⟩
          clear q1 CN
          generalize fmtS z = tx at *
          replace HOG := Lib.hid (HOG.out.below hb)
          replace HC := Lib.hid (below_step HC.out hb)
          clear hb
          have hbl2 := below_alloc w6 (.cells #[.string tx] 9)
          have HR4 : Hid (Rs strR (w6.alloc (.cells #[.string tx] 9)) (.slice (some ⟨w6.heap.size, 0, none⟩) 1 1) [tx] (Ty (w6.alloc (.cells #[.string tx] 9)) 0 strR.ts)) :=
            Lib.hid (Rs.one (φ := strR) (us := [.string tx]) (x := tx) rfl 9)
          have HOGa := Lib.hid (HOG.out.below hbl2)
          have HCa := Lib.hid (below_step HC.out hbl2)
          have HLJ := Lib.hid hlj
          clear hbl2 hlj
          go_wp2_with (at_builtin; refine wpList_append_og (φ := strR) (T := 9) (B := wo.heap.size) (C := 0) (xs := (row.take j).map fmtS) (ys := [tx]) rfl _ _ 23 rfl i0 (.string ⟨#[]⟩) 16 Tryd.underlying23 JI.out JZ0.out JZ1.out JZ2.out rfl rfl HOGa.out (.slice (some ⟨w6.heap.size, 0, none⟩) 1 1) rfl HR4.out ?c1 ?c2 ?c3 ?_)
          case c1 => (try simp only [List.length_cons, List.length_nil]); rw [HLJ.out]; omega
          case c2 => (try simp only [List.length_cons, List.length_nil]); rw [HLJ.out]; unfold maxLen; omega
          case c3 => have := HCa.out.size; first | exact this | simpa using this
          intro v' w7 hog7 hg7
          clear HC HOG
          have HC := Lib.hid (HOGa.out.belowG hg7.out HCa.out HCa.out.size (Nat.le_refl _))
          have hog7 : Hid (OG strR w7 wo.heap.size 0 9 v' ((row.take (j + 1)).map fmtS)) := Lib.hid (by rw [HFj.out]; first | exact hog7.out | (rw [List.map_take]; exact hog7.out))
          clear HOGa HCa hg7 HR4
          go_wp2_with fail
          go_roundw
          case rel => exact ⟨j + 1, by omega, by go_num, hog7.out, HC.out⟩
          case measure => simp [intOf]; omega
        · have hjt2 : ¬ (j : Int) < L := by omega
          have hjL : j = row.length := by have := HL.out; omega
          have HTX : Hid ((row.take j).map fmtS = row.map fmtS) := Lib.hid (by rw [hjL, List.take_length])
          rw [HTX.out] at HOG
          have HSL := Lib.hid HOG.out.any.sl
          have hpl := HPL.out
          have CJ2 := Lib.hid (joinS wr (.slice OA j oc) (row.map fmtS) HSL.out (by rw [List.length_map]; have := HL.out; omega) (by omega))
          have PD2 := Lib.hid (lnW_data (row.map fmtS))
          obtain ⟨xr, hxr⟩ : ∃ x : ByteArray, x = ⟨(joinP (row.map fmtS)).toArray⟩ := ⟨_, rfl⟩
          have hxs : xr.size = (joinP (row.map fmtS)).length := by rw [hxr, Lib.size_eq]
          rw [← hxr] at CJ2 PD2
          rw [← hxs] at hle
          have f5 : ¬ 9223372036854775807 < xr.size + 1 := by omega
          have HI2 := Lib.hid (builder_keepW HI.out HC.out)
          have hB6 : B ≤ wr.heap.size := Nat.le_trans hBr HC.out.size
          have HB2 := Lib.hid (below_step HB.out HC.out)
          clear hjL HOG HTX HSL hxr hxs HI HB HC hlj
          go_wp2_with fail
          refine CJ2.out.mono ?_; rintro e w6 ⟨rfl, hb⟩
          replace HI2 := Lib.hid (builder_keepW HI2.out hb)
          have hB7 : B ≤ w6.heap.size := Nat.le_trans hB6 hb.size
          replace HB2 := Lib.hid (below_step HB2.out hb)
          clear hb CJ2
          go_wp2_with fail
          refine (bWriteW B B (pk k) _ _ HI2.out (by rw [ByteArray.size_append]; show (pk k).length + (xr.size + 1) ≤ _; omega) hB7).mono ?_; rintro e w7 ⟨rfl, hi, hb⟩
          rw [PD2.out, ← HSU.out] at hi
          have HI := Lib.hid hi
          have hB8 : B ≤ w7.heap.size := Nat.le_trans hB7 hb.size
          have HB := Lib.hid (HB2.out.trans (hb.mono hB0))
          clear hi hb hle hpl f5 HI2 HB2
          go_wp2_with fail
          go_roundw
          case rel => exact ⟨k + 1, by omega, by go_num, HI.out, hB8, HB.out⟩
          case measure => simp [intOf]; omega
    · have hlt2 : ¬ (k : Int) < M := by omega
      obtain rfl : k = M := by omega
      rw [PA.out] at HI
      go_wp2_with fail
      refine (Tryd.Builder_String_any B B pl _ HI.out hBr).mono ?_; rintro e w8 ⟨rfl, hb⟩
      replace HB := Lib.hid (HB.out.trans (hb.mono hB0))
      clear hb
      go_wp2_with fail
      go_ret
      exact ⟨by rw [HR.out]; rfl, HB.out⟩

end Go.Proofs.YthpioaboekpjoaaDoor

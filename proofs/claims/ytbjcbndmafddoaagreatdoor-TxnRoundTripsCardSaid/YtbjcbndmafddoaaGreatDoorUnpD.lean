/-
  Contract of txn.Pack.
-/
import Derived.Test.YtbjcbndmafddoaaGreatDoorUnpA
import Derived.Test.YtbjcbndmafddoaaGreatDoorTxnQ
import Derived.Test.YtbjcbndmafddoaaGreatDoorShelf
import Derived.Lib.Builder
import Derived.Lib.UnsafeStr
namespace Go.Proofs.YtbjcbndmafddoaaGreatDoor
open Go.RowKit
set_option linter.unusedVariables false
set_option linter.unusedSimpArgs false

theorem bWrite (B b : Nat) (l : List UInt8) (s : ByteArray) (w : World) (h : Lib.IsBuilder 48 5 B b (Lib.byteCells l) w) (hlen : l.length + s.size ≤ 140737488355328) (hBw : B ≤ w.heap.size) :
    Calls Tryz.prog 22 #[.pointer (some ⟨b, 0, none⟩), .string s] w fun e w' => e = .returned (.tuple #[.int .i64 s.size, .nilIface]) ∧ (Lib.IsBuilder 48 5 B b (Lib.byteCells (l ++ s.data.toList)) w' ∧ Below B w w') := by
  refine (Any.Builder_WriteString (P := Tryz.prog) (ρ := Tryz.lays156_ren) { Tryz.lays156 with } Tryz.Builder_Extra_156 B b (Lib.byteCells l) s w h (by rw [Lib.byteCells_length]; exact hlen) hBw).mono fun e w' ⟨he, hb, hw⟩ => ⟨he, ?_, hw⟩
  rw [Lib.byteCells_append, ← Lib.strCells_eq]
  exact .inr hb
theorem builder_keep {T e : TypeId} {B b : Nat} {bs : List Value} {w w' : World} (h : Lib.IsBuilder T e B b bs w) (hb : Below w.heap.size w w') : Lib.IsBuilder T e B b bs w' := by
  have key : ∀ p, Lib.BuilderAt T e B b p bs w → Lib.BuilderAt T e B b p bs w' := fun p h => by
    have hlt := h.lt
    obtain ⟨hB, v, hbk, hown, hne⟩ := h
    exact ⟨hB, v, (hb.block b hlt).trans hbk, own_below hown hb, hne⟩
  exact h.imp (key _) (key _)
/-- The bytes of the encoding, as far as the k-th value. -/
def pkP (ns : List ByteArray) (zs : List Int) (k : Nat) : List UInt8 := pList ns ++ ((zs.take k).map pNum).flatten
theorem pkP_zero (ns : List ByteArray) (zs : List Int) : pkP ns zs 0 = pList ns := by simp [pkP]
theorem pkP_succ (ns : List ByteArray) (zs : List Int) {k : Nat} (h : k < zs.length) : pkP ns zs (k + 1) = pkP ns zs k ++ pNum (zs.getD k 0) := by
  unfold pkP; rw [take_snocD zs k 0 h]; simp
theorem pkP_all (ns : List ByteArray) (zs : List Int) : pkP ns zs zs.length = pkL ns zs := by simp [pkP, pkL]
theorem flat_le (f : Int → List UInt8) (zs : List Int) (k : Nat) : (((zs.take k).map f).flatten).length ≤ ((zs.map f).flatten).length := by
  have e : (zs.map f).flatten = ((zs.take k).map f).flatten ++ ((zs.drop k).map f).flatten := by
    rw [← List.flatten_append, ← List.map_append, List.take_append_drop]
  rw [e, List.length_append]; omega
theorem pkP_le (ns : List ByteArray) (zs : List Int) (k : Nat) : (pkP ns zs k).length ≤ (pkL ns zs).length := by
  have := flat_le pNum zs k
  unfold pkP pkL
  rw [List.length_append, List.length_append]; omega

set_option maxRecDepth 100000 in
set_option maxHeartbeats 8000000 in
theorem txnPack (w : World) (v1 v2 : Value) (ns : List ByteArray) (zs : List Int) (h1 : SL w v1 ns) (h2 : IL w v2 zs) (hsz : ∀ s ∈ ns, s.size ≤ 2000000) (hn : ns.length ≤ 9223372036854775807) (hz : zs.length ≤ 9223372036854775807) (hpk : txV ns zs = true → (pkL ns zs).length ≤ 140737488355328) (hk : KW w) (hm : MLen w) (ht : Tab w) :
    Calls Tryz.prog 8 #[.agg #[v1, v2]] w fun e w' => e = .returned (.tuple #[.string (if txV ns zs = true then mkS (pkL ns zs) else ⟨#[]⟩), .int .i64 (if txV ns zs = true then 0 else 1)]) ∧ Below w.heap.size w w' := by
  have HK := Lib.hid hk
  have HM := Lib.hid hm
  have HT := Lib.hid ht
  have HQ1 := Lib.hid h1
  have HQ2 := Lib.hid h2
  have CV := Lib.hid (fun W h1 h2 hk hm => txnValid W v1 v2 ns zs h1 h2 hsz hn hz hk hm)
  cases hv : txV ns zs
  · rw [hv] at CV
    simp only [Bool.false_eq_true, if_false]
    clear hv h1 h2 hsz hn hz hpk hk hm ht
    go_enter Tryz.func8, Tryz.ntmps8
    go_wp2_with fail
    have XA := Lib.hid (box_new (W := w) (g := w.heap.size) 25 #[v1, v2] (by simp))
    have HB := Lib.hid (below_alloc w (.cells #[v1, v2] 25))
    generalize w.alloc (.cells #[v1, v2] 25) = w1 at *
    refine (CV.out _ (HQ1.out.below HB.out) (HQ2.out.below HB.out) (HK.out.below HB.out) (HM.out.below HB.out)).mono ?_; rintro e w2 ⟨rfl, hb⟩
    replace XA := Lib.hid (XA.out.below hb)
    replace HB := Lib.hid (below_step HB.out hb)
    clear hb
    go_wp2_with fail
    go_ret2
    exact ⟨rfl, HB.out⟩
  rw [hv] at CV
  simp only [if_true]
  have hword : ∀ z ∈ zs, wordB z = true := (txv_parts hv).2.2.2.2
  replace hpk := hpk hv
  obtain ⟨A1, c1, rfl, hc1, hs1⟩ := h1
  obtain ⟨A2, c2, rfl, hc2, hs2⟩ := h2
  have HS1 := Lib.hid hs1
  have HS2 := Lib.hid hs2
  have hple : (pList ns).length ≤ 140737488355328 := by
    have := pkP_le ns zs 0
    rw [pkP_zero] at this
    omega
  have CL := Lib.hid (fun W (h : SL W (.slice A1 ns.length c1) ns) ht => packList W A1 ns c1 (by
    obtain ⟨A, c, e, _, hh⟩ := h
    simp only [Value.slice.injEq, true_and] at e
    obtain ⟨rfl, rfl⟩ := e
    exact hh) hn hple ht)
  have HSU := Lib.hid (fun k (h : k < zs.length) => pkP_succ ns zs h)
  have HALL := Lib.hid (pkP_all ns zs)
  have HLE := Lib.hid (fun k => pkP_le ns zs k)
  have HZ0 := Lib.hid (pkP_zero ns zs)
  have HWD := Lib.hid hword
  obtain ⟨N, hN⟩ : ∃ N, N = ns.length := ⟨_, rfl⟩
  obtain ⟨M, hM⟩ : ∃ M, M = zs.length := ⟨_, rfl⟩
  rw [← hN] at CV HQ1 CL ⊢
  rw [← hM] at CV HQ2 HS2 HALL hz ⊢
  have HMM := Lib.hid hM
  generalize pkL ns zs = pl at *
  generalize pkP ns zs = pp at *
  have CL2 : Hid (∀ W, SL W (.slice A1 N c1) ns → Tab W → Calls Tryz.prog 23 #[.slice A1 N c1] W fun e w' => e = .returned (.string (mkS (pp 0))) ∧ Below W.heap.size W w') := Lib.hid (by rw [HZ0.out]; exact CL.out)
  clear hv hsz hn hk hm ht hs1 hs2 hc1 hc2 hN hM hword hple CL HZ0
  go_enter Tryz.func8, Tryz.ntmps8
  go_wp2_with fail
  have XA := Lib.hid (box_new (W := w) (g := w.heap.size) 25 #[.slice A1 N c1, .slice A2 M c2] (by simp))
  have HB := Lib.hid (below_alloc w (.cells #[.slice A1 N c1, .slice A2 M c2] 25))
  generalize w.alloc (.cells #[.slice A1 N c1, .slice A2 M c2] 25) = w1 at *
  refine (CV.out _ (HQ1.out.below HB.out) (HQ2.out.below HB.out) (HK.out.below HB.out) (HM.out.below HB.out)).mono ?_; rintro e w2 ⟨rfl, hb⟩
  replace XA := Lib.hid (XA.out.below hb)
  replace HB := Lib.hid (below_step HB.out hb)
  clear hb
  have hB0 : w.heap.size ≤ w2.heap.size := HB.out.size
  have HI := Lib.hid (Lib.fresh_isBuilder 48 5 w2)
  have hXA : w.heap.size < w2.heap.size := XA.out.lt
  have XA_0 := XA.out.at_ 0 _ rfl
  have XA_l := XA.out.lt
  go_wp2_with fail
  clear XA_0 XA_l
  have XB := Lib.hid (box_new (W := w2) (g := w2.heap.size) 48 #[.pointer none, .slice none 0 0] (by simp))
  have hba := (below_alloc w2 (.cells #[.pointer none, .slice none 0 0] 48))
  replace XA := Lib.hid (XA.out.below hba)
  replace HB := Lib.hid (below_step HB.out hba)
  clear hba
  generalize w2.alloc (.cells #[.pointer none, .slice none 0 0] 48) = w3 at *
  have hB3 : w2.heap.size ≤ w3.heap.size := Nat.le_of_lt XB.out.lt
  clear XB
  obtain ⟨B, hBe⟩ : ∃ B, B = w2.heap.size := ⟨_, rfl⟩
  rw [← hBe] at HI hB3 hB0 hXA ⊢
  clear hBe
  refine (CL2.out _ (HQ1.out.below HB.out) (HT.out.below HB.out)).mono ?_; rintro e w4 ⟨rfl, hb⟩
  replace HI := Lib.hid (builder_keep HI.out hb)
  have hB4 : B ≤ w4.heap.size := Nat.le_trans hB3 hb.size
  replace XA := Lib.hid (XA.out.below hb)
  replace HB := Lib.hid (below_step HB.out hb)
  clear hb
  go_wp2_with fail
  refine (bWrite B B [] _ _ HI.out (by
    have := HLE.out 0
    rw [mkS_size]; simp only [List.length_nil, Nat.zero_add]; omega) hB4).mono ?_; rintro e w5 ⟨rfl, hi, hb⟩
  rw [List.nil_append, mkS_data] at hi
  replace HI := Lib.hid hi
  replace XA := Lib.hid (XA.out.belowB hb hXA)
  have hB5 : B ≤ w5.heap.size := Nat.le_trans hB4 hb.size
  replace HB := Lib.hid (HB.out.trans (hb.mono hB0))
  clear hi hb
  have XA_1 := XA.out.at_ 1 _ rfl
  go_wp2_with fail
  clear XA_1
  clear XA
  go_loopw [17] (fun i wr => ∃ k : Nat, k ≤ M ∧ i = .int .i64 k ∧ Lib.IsBuilder 48 5 B B (Lib.byteCells (pp k)) wr ∧ B ≤ wr.heap.size ∧ Below w.heap.size w wr) (fun i _ => M - (intOf i).toNat)
  case atStart => exact ⟨0, Nat.zero_le _, rfl, HI.out, hB5, HB.out⟩
  case round =>
    obtain ⟨k, hk, rfl, hi, hBr, hb⟩ := hrel
    clear HI HB hB3 hB4 hB5
    have HI := Lib.hid hi
    have HB := Lib.hid hb
    clear hi hb
    by_cases hlt : k < M
    · have hlt2 : (k : Int) < M := by omega
      have hkz : k < zs.length := by rw [← HMM.out]; exact hlt
      obtain ⟨x2, rfl, hx2, hr2⟩ := HS2.out (by omega)
      have q2 : wr.cell? (x2.add k) = some (.int .i64 (zs.getD k 0)) := by
        rw [HB.out.cell (p := x2.add k) (by rw [block_of_add]; exact hx2)]
        exact hr2 k hlt
      have hwz : 0 ≤ zs.getD k 0 ∧ zs.getD k 0 ≤ 65535 := by
        have := HWD.out _ (getD_mem 0 hkz)
        unfold wordB at this
        exact of_decide_eq_true this
      have hsu := HSU.out k hkz
      have hle := HLE.out (k + 1)
      rw [hsu, List.length_append] at hle
      have HS := Lib.hid hsu
      generalize zs.getD k 0 = z at *
      have CN := Lib.hid (fun W ht => packNumber W z (by omega) (by omega) ht)
      obtain ⟨hw0, hw1⟩ := hwz
      clear hsu hkz hr2
      go_wp2_with fail
      clear q2
      refine (CN.out _ (HT.out.below HB.out)).mono ?_; rintro e w6 ⟨rfl, hb⟩
      replace HI := Lib.hid (builder_keep HI.out hb)
      have hB6 : B ≤ w6.heap.size := Nat.le_trans hBr hb.size
      replace HB := Lib.hid (below_step HB.out hb)
      clear hb
      go_wp2_with fail
      refine (bWrite B B (pp k) _ _ HI.out (by rw [mkS_size]; omega) hB6).mono ?_; rintro e w7 ⟨rfl, hi, hb⟩
      rw [mkS_data, ← HS.out] at hi
      replace HI := Lib.hid hi
      have hB7 : B ≤ w7.heap.size := Nat.le_trans hB6 hb.size
      replace HB := Lib.hid (HB.out.trans (hb.mono hB0))
      clear hi hb hle hw0 hw1
      go_wp2_with fail
      go_roundw
      case rel => exact ⟨k + 1, by omega, by go_num, HI.out, hB7, HB.out⟩
      case measure => simp [intOf]; omega
    · have hlt2 : ¬ (k : Int) < M := by omega
      obtain rfl : k = M := by omega
      rw [HALL.out] at HI
      go_wp2_with fail
      refine (Tryz.Builder_String_any B B pl _ HI.out hBr).mono ?_; rintro e w8 ⟨rfl, hb⟩
      replace HB := Lib.hid (HB.out.trans (hb.mono hB0))
      clear hb
      go_wp2_with fail
      go_ret2
      exact ⟨rfl, HB.out⟩

end Go.Proofs.YtbjcbndmafddoaaGreatDoor

/-
  Contracts of the reference's line and Print.
-/
import Derived.Test.YthpioaboekpjoaaDoorWavI
import Derived.Test.YthpioaboekpjoaaDoorWavJ
import Derived.Test.YthpioaboekpjoaaDoorWavG
import Derived.Test.YthpioaboekpjoaaDoorWavY
namespace Go.Proofs.YthpioaboekpjoaaDoor
open Go.RowKit
set_option linter.unusedVariables false
set_option linter.unusedSimpArgs false

theorem jl_snoc (b : UInt8) (x : List UInt8) : ∀ ps : List (List UInt8), ps ≠ [] → joinL b (ps ++ [x]) = joinL b ps ++ b :: x
  | [], h => absurd rfl h
  | [p], _ => rfl
  | p :: q :: r, _ => by
    have := jl_snoc b x (q :: r) (by simp)
    simp only [List.cons_append, joinL] at this ⊢
    rw [this]; simp
theorem jl_len (b : UInt8) (B : Nat) : ∀ ps : List (List UInt8), (∀ p ∈ ps, p.length ≤ B) → (joinL b ps).length ≤ ps.length * (B + 1)
  | [], _ => by simp [joinL]
  | [p], h => by have := h p (by simp); simp only [joinL, List.length_cons, List.length_nil]; omega
  | p :: q :: r, h => by
    have h1 := h p (by simp)
    have h2 := jl_len b B (q :: r) (fun x hx => h x (List.mem_cons_of_mem _ hx))
    simp only [joinL, List.length_append, List.length_cons] at h2 ⊢
    have e : (r.length + 1 + 1) * (B + 1) = (r.length + 1) * (B + 1) + (B + 1) := by rw [Nat.succ_mul]
    omega
/-- A line as far as the k-th word. -/
def lnB (l : List ByteArray) (k : Nat) : ByteArray := ⟨(joinP (l.take k)).toArray⟩
theorem lnB_zero (l : List ByteArray) : lnB l 0 = ⟨#[]⟩ := by unfold lnB; rfl
theorem lnB_data (l : List ByteArray) (k : Nat) : (lnB l k).data.toList = joinL 32 ((l.take k).map (·.data.toList)) := by
  unfold lnB; rw [joinP_joinL]
theorem lnB_take1 {l : List ByteArray} {k : Nat} (h : k < l.length) : (l.take (k + 1)).map (·.data.toList) = (l.take k).map (·.data.toList) ++ [(l.getD k ⟨#[]⟩).data.toList] := by
  rw [take_snocD l k ⟨#[]⟩ h, List.map_append]; rfl
theorem lnB_first {l : List ByteArray} (h : 0 < l.length) : lnB l 1 = lnB l 0 ++ l.getD 0 ⟨#[]⟩ := by
  apply ba_eq
  rw [lnB_data, lnB_take1 h, lnB_zero]
  simp [joinL]
theorem lnB_succ {l : List ByteArray} {k : Nat} (h0 : 0 < k) (h : k < l.length) : lnB l (k + 1) = (lnB l k ++ ⟨#[32]⟩) ++ l.getD k ⟨#[]⟩ := by
  apply ba_eq
  rw [lnB_data, lnB_take1 h, jl_snoc _ _ _ (by
    intro hh
    have := congrArg List.length hh
    simp only [List.length_map, List.length_take, List.length_nil] at this
    omega), ← lnB_data]
  simp
theorem lnB_all (l : List ByteArray) : lnB l l.length ++ ⟨#[10]⟩ = ⟨(lnW l).toArray⟩ := by
  apply ba_eq
  unfold lnB
  rw [List.take_length, lnW_data]
theorem lnB_size {l : List ByteArray} {B : Nat} (hB : ∀ s ∈ l, s.size ≤ B) (k : Nat) : (lnB l k).size ≤ k * (B + 1) := by
  rw [Lib.size_eq, lnB_data]
  have h := jl_len 32 B ((l.take k).map (·.data.toList)) (fun q hq => by
    obtain ⟨p, hp, rfl⟩ := List.mem_map.1 hq
    rw [← Lib.size_eq]
    exact hB _ (List.mem_of_mem_take hp))
  rw [List.length_map, List.length_take] at h
  exact Nat.le_trans h (Nat.mul_le_mul_right _ (Nat.min_le_left _ _))
theorem lnW_size {l : List ByteArray} {B : Nat} (hB : ∀ s ∈ l, s.size ≤ B) : (lnW l).length ≤ l.length * (B + 1) + 1 := by
  have h := lnB_size hB l.length
  unfold lnB at h
  rw [List.take_length, Lib.size_eq, List.toList_toArray] at h
  rw [lnW_len]; omega

set_option maxRecDepth 100000 in
set_option maxHeartbeats 8000000 in
theorem refLine (w : World) (v : Value) (l : List ByteArray) (h : SL w v l) (hsz : ∀ s ∈ l, s.size ≤ 2000000) (hn : l.length ≤ 1000000) :
    Calls Tryd.prog 47 #[v] w fun e w' => e = .returned (.string ⟨(lnW l).toArray⟩) ∧ w = w' := by
  have HSZ := Lib.hid (fun k => lnB_size hsz k)
  have HFI := Lib.hid (fun h => @lnB_first l h)
  have HSU := Lib.hid (fun k h0 h => @lnB_succ l k h0 h)
  have HZ0 := Lib.hid (lnB_zero l)
  have HAL := Lib.hid (lnB_all l)
  have HNM := Lib.hid hsz
  obtain ⟨A1, c1, rfl, hc1, hs1⟩ := h
  have HS1 := Lib.hid hs1
  obtain ⟨N, hN⟩ : ∃ N, N = l.length := ⟨_, rfl⟩
  have HN := Lib.hid hN
  rw [← hN] at hn HS1 HAL ⊢
  generalize lnB l = pb at *
  clear hs1 hsz hc1 hN
  go_enter Tryd.func47, Tryd.ntmps47
  go_wp2_with fail
  go_loopw [3, 4] (fun s i wr => ∃ k : Nat, k ≤ N ∧ s = .string (pb k) ∧ i = .int .i64 k ∧ w = wr) (fun _ i _ => N - (intOf i).toNat)
  case atStart => exact ⟨0, Nat.zero_le _, by rw [HZ0.out], rfl, rfl⟩
  case round =>
    obtain ⟨k, hk, rfl, rfl, rfl⟩ := hrel
    have hsk : (pb k).size ≤ 2000001000000 := by
      have h1 := HSZ.out k
      have : k * (2000000 + 1) ≤ 1000000 * (2000000 + 1) := Nat.mul_le_mul_right _ (by omega)
      omega
    by_cases hlt : k < N
    · have hlt2 : (k : Int) < N := by omega
      have hk0 : (0 : Int) ≤ (k : Int) := by omega
      have hkn : k < l.length := by rw [← HN.out]; exact hlt
      obtain ⟨a1, rfl, hr1⟩ := HS1.out (by omega)
      have q1 := hr1.cells k hkn
      have hns := HNM.out _ (getD_mem ⟨#[]⟩ hkn)
      have hcase : (k = 0 ∧ pb (k + 1) = pb k ++ l.getD k ⟨#[]⟩) ∨ (0 < k ∧ pb (k + 1) = (pb k ++ ⟨#[32]⟩) ++ l.getD k ⟨#[]⟩) := by
        by_cases e : k = 0
        · left; subst e; exact ⟨rfl, HFI.out hkn⟩
        · right; exact ⟨by omega, HSU.out k (by omega) hkn⟩
      generalize l.getD k ⟨#[]⟩ = n at *
      generalize hpk : pb k = a at *
      generalize hpk1 : pb (k + 1) = a1' at *
      have HP1 := Lib.hid hpk1
      clear hpk hpk1 hr1 hkn
      rcases hcase with ⟨h0, he⟩ | ⟨h0, he⟩
      · have HEQ := Lib.hid he
        subst h0
        rw [add_zero] at q1
        have f1 : ¬ 9223372036854775807 < a.size + n.size := by omega
        clear he
        go_wp2_with fail
        go_roundw
        case rel => exact ⟨1, by omega, by rw [HP1.out, HEQ.out], by go_num, by first | rfl | trivial⟩
        case measure => simp [intOf]; omega
      · have HEQ := Lib.hid he
        have g0 : (0 : Int) < k := by omega
        have f0 : ¬ 9223372036854775807 < a.size + 1 := by omega
        have f1 : ¬ 9223372036854775807 < (a ++ (⟨#[32]⟩ : ByteArray)).size + n.size := by rw [ByteArray.size_append]; show ¬ 9223372036854775807 < a.size + 1 + n.size; omega
        have f1' : ¬ 9223372036854775807 < a.size + 1 + n.size := by omega
        clear he
        go_wp2_with fail
        go_roundw
        case rel => exact ⟨k + 1, by omega, by rw [HP1.out, HEQ.out], by go_num, by first | rfl | trivial⟩
        case measure => simp [intOf]; omega
    · have hlt2 : ¬ (k : Int) < N := by omega
      obtain rfl : k = N := by omega
      have HEQ : Hid (pb k ++ ⟨#[10]⟩ = ⟨(lnW l).toArray⟩) := HAL
      have f0 : ¬ 9223372036854775807 < (pb k).size + 1 := by omega
      generalize pb k = a at *
      go_wp2_with fail
      go_ret
      exact ⟨by rw [← HEQ.out]; rfl, by first | rfl | trivial⟩

/-- The text as far as the k-th row, as a string. -/
def prS (ns : List ByteArray) (rs : List (List Int)) (k : Nat) : ByteArray := ⟨(prK ns rs k).toArray⟩
theorem prS_zero (ns : List ByteArray) (rs : List (List Int)) : prS ns rs 0 = ⟨(lnW ns).toArray⟩ := by unfold prS; rw [prK_zero]
theorem prS_succ (ns : List ByteArray) (rs : List (List Int)) (k : Nat) (h : k < rs.length) : prS ns rs (k + 1) = prS ns rs k ++ ⟨(lnW ((rs.getD k []).map fmtS)).toArray⟩ := by
  apply ba_eq
  unfold prS
  rw [prK_succ _ _ _ h]
  simp
theorem row_line {ns : List ByteArray} {rs : List (List Int)} (h : WvV ns rs) {k : Nat} (hk : k < rs.length) : (lnW ((rs.getD k []).map fmtS)).length ≤ 1100 := by
  obtain ⟨h1, h2, h3, h4⟩ := h
  have hr := h4 _ (getD_mem [] hk)
  have := lnW_size (l := (rs.getD k []).map fmtS) (B := 21) (fun s hs => by
    obtain ⟨z, hz, rfl⟩ := List.mem_map.1 hs
    have hw : 0 ≤ z ∧ z ≤ 65535 := of_decide_eq_true (hr.2 z hz)
    exact fmt_sz z hw.1 hw.2)
  rw [List.length_map, hr.1] at this
  omega
theorem prK_size {ns : List ByteArray} {rs : List (List Int)} (h : WvV ns rs) : ∀ k, k ≤ rs.length → (prK ns rs k).length ≤ 1100 * (k + 1)
  | 0, _ => by
    rw [prK_zero]
    have := lnW_size (l := ns) (B := 19) (fun s hs => var_size (h.2.2.1.2 s hs))
    have := h.1
    omega
  | k + 1, hk => by
    rw [prK_succ _ _ _ (by omega), List.length_append]
    have h1 := prK_size h k (by omega)
    have h2 := row_line h (k := k) (by omega)
    omega
theorem printL_size {ns : List ByteArray} {rs : List (List Int)} (h : WvV ns rs) : (printL ns rs).length ≤ 5000000 := by
  rw [← prK_all]
  have := prK_size h rs.length (Nat.le_refl _)
  have := h.2.1
  omega

set_option maxRecDepth 100000 in
set_option maxHeartbeats 8000000 in
theorem refPrintW (w : World) (v1 v2 : Value) (ns : List ByteArray) (rs : List (List Int)) (h1 : SL w v1 ns) (h2 : Rs ilR w v2 rs anyB) (hz : WZ ns rs) :
    Calls Tryd.prog 17 #[.agg #[v1, v2]] w fun e w' => e = .returned (.string (printW ns rs)) ∧ Below w.heap.size w w' := by
  have CV := Lib.hid (fun W (hW : Below w.heap.size w W) => refValidW W v1 v2 ns rs (h1.below hW) (h2.below hW) hz)
  cases hv : wvV ns rs
  · rw [hv] at CV
    have HR : Hid (printW ns rs = ⟨#[]⟩) := Lib.hid (by unfold printW; rw [hv]; rfl)
    generalize printW ns rs = r at *
    obtain ⟨A2, c2, rfl, hc2⟩ := h2.slice
    obtain ⟨A1, c1, rfl, hc1, -⟩ := h1
    generalize ns.length = N at *
    generalize rs.length = M at *
    clear hv h2 hz hc1 hc2
    go_enter Tryd.func17, Tryd.ntmps17
    go_upto_region 1 with fail
    have XA := Lib.hid (box_new (W := w) (g := w.heap.size) 26 #[.slice A1 N c1, .slice A2 M c2] (by simp))
    have HB := Lib.hid (below_alloc w (.cells #[.slice A1 N c1, .slice A2 M c2] 26))
    generalize w.alloc (.cells #[.slice A1 N c1, .slice A2 M c2] 26) = w1 at *
    have XA_0 := XA.out.at_ 0 _ rfl
    have XA_1 := XA.out.at_ 1 _ rfl
    go_wp2_with fail
    refine (CV.out _ HB.out).mono ?_; rintro e w2 ⟨rfl, hb⟩
    clear XA_0 XA_1
    replace XA := Lib.hid (XA.out.below hb)
    replace HB := Lib.hid (below_step HB.out hb)
    clear hb
    go_wp2_with fail
    go_ret
    exact ⟨by rw [HR.out]; rfl, HB.out⟩
  rw [hv] at CV
  have hV : WvV ns rs := of_decide_eq_true hv
  have HWD : Hid (∀ k, k < rs.length → (rs.getD k []).length ≤ 48 ∧ ∀ j, j < (rs.getD k []).length → 0 ≤ (rs.getD k []).getD j 0 ∧ (rs.getD k []).getD j 0 ≤ 65535) := Lib.hid fun k hk => by
    obtain ⟨a, b⟩ := hV.2.2.2 _ (getD_mem [] hk)
    refine ⟨by have := hV.1; omega, fun j hj => ?_⟩
    have := b _ (getD_mem 0 hj)
    unfold wordB at this
    exact of_decide_eq_true this
  have HR : Hid (printW ns rs = prS ns rs rs.length) := Lib.hid (by unfold printW; rw [hv]; unfold prS; rw [prK_all]; rfl)
  have PS := Lib.hid (prS_succ ns rs)
  have P0 := Lib.hid (prS_zero ns rs)
  have HSZ : Hid (∀ k, k ≤ rs.length → (prS ns rs k).size ≤ 4600000) := Lib.hid fun k hk => by
    have a := prK_size hV k hk
    have b := hV.2.1
    unfold prS
    rw [Lib.size_eq, List.toList_toArray]; omega
  have HRL : Hid (∀ k, k < rs.length → (⟨(lnW ((rs.getD k []).map fmtS)).toArray⟩ : ByteArray).size ≤ 1100) := Lib.hid fun k hk => by
    rw [Lib.size_eq, List.toList_toArray]; exact row_line hV hk
  have CL := Lib.hid (fun W (hW : Below w.heap.size w W) => refLine W v1 ns (h1.below hW) (fun s hs => by have := var_size (hV.2.2.1.2 s hs); omega) (by have := hV.1; omega))
  have HRA := Lib.hid (fun k hk => row_at (rs := rs) (k := k) (w := w) (A := (match v2 with | .slice A _ _ => A | _ => none)) (M := rs.length) (c := (match v2 with | .slice _ _ c => c | _ => 0)) (by obtain ⟨A, c, rfl, _⟩ := h2.slice; exact h2) hk)
  obtain ⟨A2, c2, rfl, hc2⟩ := h2.slice
  obtain ⟨A1, c1, rfl, hc1, -⟩ := h1
  simp only at HRA
  obtain ⟨M, hM⟩ : ∃ M, M = rs.length := ⟨_, rfl⟩
  have HMM := Lib.hid hM
  have hM4 : M ≤ 4096 := by rw [hM]; exact hV.2.1
  rw [← hM] at CV HSZ HR ⊢
  generalize ns.length = N at *
  generalize printW ns rs = r at *
  generalize prS ns rs = pk at *
  obtain ⟨i0, hi, hz0, hz1, hz2⟩ := info_parts istr
  have JI := Lib.hid hi
  have JZ0 := Lib.hid hz0
  have JZ1 := Lib.hid hz1
  have JZ2 := Lib.hid hz2
  clear hi hz0 hz1 hz2 hv h2 hz hc1 hc2 hV hM
  go_enter Tryd.func17, Tryd.ntmps17
  go_upto_region 1 with fail
  have XA := Lib.hid (box_new (W := w) (g := w.heap.size) 26 #[.slice A1 N c1, .slice A2 M c2] (by simp))
  have HB := Lib.hid (below_alloc w (.cells #[.slice A1 N c1, .slice A2 M c2] 26))
  generalize w.alloc (.cells #[.slice A1 N c1, .slice A2 M c2] 26) = w1 at *
  have XA_0 := XA.out.at_ 0 _ rfl
  have XA_1 := XA.out.at_ 1 _ rfl
  go_wp2_with fail
  refine (CV.out _ HB.out).mono ?_; rintro e w2 ⟨rfl, hb⟩
  clear XA_0 XA_1
  replace XA := Lib.hid (XA.out.below hb)
  replace HB := Lib.hid (below_step HB.out hb)
  clear hb
  clear CV
  have XA_0 := XA.out.at_ 0 _ rfl
  go_wp2_with fail
  clear XA_0
  refine (CL.out _ HB.out).mono ?_; rintro e w3 ⟨rfl, rfl⟩
  clear CL
  rw [← P0.out]
  go_wp2_with fail
  go_loopw [3, 4] (fun s i wr => ∃ k : Nat, k ≤ M ∧ s = .string (pk k) ∧ i = .int .i64 k ∧ Box wr w.heap.size #[.slice A1 N c1, .slice A2 M c2] 26 ∧ Below w.heap.size w wr) (fun _ i _ => M - (intOf i).toNat)
  case atStart => exact ⟨0, Nat.zero_le _, rfl, rfl, XA.out, HB.out⟩
  case round =>
    clear XA HB
    obtain ⟨k, hk, rfl, rfl, hxa, hb⟩ := hrel
    have XA := Lib.hid hxa
    have HB := Lib.hid hb
    clear hxa hb
    by_cases hlt : k < M
    · have hlt2 : (k : Int) < M := by omega
      have hk0 : (0 : Int) ≤ (k : Int) := by omega
      have hkn : k < rs.length := by rw [← HMM.out]; exact hlt
      have hps := HSZ.out k hk
      have hrl := HRL.out k hkn
      obtain ⟨bq, oq, E, e1, rfl, QA, IA⟩ := HRA.out k hkn
      obtain ⟨hr48, hword⟩ := HWD.out k hkn
      have HSU := Lib.hid (PS.out k hkn)
      have HWK := Lib.hid hword
      generalize rs.getD k [] = row at *
      obtain ⟨L, hL⟩ : ∃ L, L = row.length := ⟨_, rfl⟩
      have HL := Lib.hid hL
      rw [← hL] at QA IA hr48
      have HQA := Lib.hid QA
      have HIA := Lib.hid IA
      have HFS := Lib.hid (map_snocF row)
      clear QA IA hword hkn hL
      obtain ⟨wo, rfl⟩ : ∃ wo : World, wo = wr := ⟨_, rfl⟩
      have XA_1 := XA.out.at_ 1 _ rfl
      go_wp2_with fail
      clear XA_1
      go_loopw [5, 6] (fun lv i wr => ∃ j : Nat, j ≤ L ∧ i = .int .i64 j ∧ OG strR wr wo.heap.size 0 9 lv ((row.take j).map fmtS) ∧ Below wo.heap.size wo wr) (fun _ i _ => L - (intOf i).toNat)
      case atStart => exact ⟨0, Nat.zero_le _, rfl, OG.nil strR _ _ _ _ (by decide) (Nat.zero_le _), Below.refl _ _⟩
      case round =>
        obtain ⟨j, hj, rfl, hog, hc⟩ := hrel
        have HC := Lib.hid hc
        have HOG := Lib.hid hog
        obtain ⟨OA, oc, rfl⟩ := hog.slice
        have hlj : ((row.take j).map fmtS).length = j := by rw [List.length_map, List.length_take]; have := HL.out; omega
        clear hc hog
        rw [hlj] at HOG ⊢
        have XA := Lib.hid (XA.out.below HC.out)
        have q0 := HQA.out _ (below_step HB.out HC.out)
        by_cases hjt : j < L
        · have hjt2 : (j : Int) < L := by omega
          have hj0 : (0 : Int) ≤ (j : Int) := by omega
          have hjr : j < row.length := by rw [← HL.out]; exact hjt
          obtain ⟨ea, rfl, EA⟩ := il_at HIA.out (j := j) hjr
          have q1 := EA wr (below_step HB.out HC.out)
          obtain ⟨z0, z1⟩ := HWK.out j hjr
          have HFj := Lib.hid (HFS.out j hjr)
          generalize row.getD j 0 = z at *
          have CN := Lib.hid (fun W => refFormat z W (by omega) (by omega))
          clear hjr z0 z1 EA
          have XA_1 := XA.out.at_ 1 _ rfl
          go_wp2_with fail
          clear XA_1
          refine (CN.out _).mono ?_; rintro e w6 ⟨rfl, hb⟩
          clear q1 CN q0
          generalize fmtS z = tx at *
          replace HOG := Lib.hid (HOG.out.below hb)
          replace HC := Lib.hid (below_step HC.out hb)
          clear hb XA
          have hbl2 := below_alloc w6 (.cells #[.string tx] 9)
          have HR4 : Hid (Rs strR (w6.alloc (.cells #[.string tx] 9)) (.slice (some ⟨w6.heap.size, 0, none⟩) 1 1) [tx] (Ty (w6.alloc (.cells #[.string tx] 9)) 0 strR.ts)) :=
            Lib.hid (Rs.one (φ := strR) (us := [.string tx]) (x := tx) rfl 9)
          have HOGa := Lib.hid (HOG.out.below hbl2)
          have HCa := Lib.hid (below_step HC.out hbl2)
          have HLJ := Lib.hid hlj
          clear hbl2 hlj
          go_wp2_with (at_builtin; refine wpList_append_og (φ := strR) (T := 9) (B := wo.heap.size) (C := 0) (xs := (row.take j).map fmtS) (ys := [tx]) rfl _ _ 23 rfl i0 (.string ⟨#[]⟩) 16 Tryd.underlying23 JI.out JZ0.out JZ1.out JZ2.out rfl rfl HOGa.out (.slice (some ⟨w6.heap.size, 0, none⟩) 1 1) rfl HR4.out ?c1 ?c2 ?c3 ?_)
          case c1 => (try simp only [List.length_cons, List.length_nil]); rw [HLJ.out]; omega
          case c2 => (try simp only [List.length_cons, List.length_nil]); rw [HLJ.out]; unfold maxLen; omega
          case c3 => have := HCa.out.size; first | exact this | simpa using this
          intro v' w7 hog7 hg7
          clear HC HOG
          have HC := Lib.hid (HOGa.out.belowG hg7.out HCa.out HCa.out.size (Nat.le_refl _))
          have hog7 : Hid (OG strR w7 wo.heap.size 0 9 v' ((row.take (j + 1)).map fmtS)) := Lib.hid (by rw [HFj.out]; first | exact hog7.out | (rw [List.map_take]; exact hog7.out))
          clear HOGa HCa hg7 HR4
          go_wp2_with fail
          go_roundw
          case rel => exact ⟨j + 1, by omega, by go_num, hog7.out, HC.out⟩
          case measure => simp [intOf]; omega
        · have hjt2 : ¬ (j : Int) < L := by omega
          have hjL : j = row.length := by have := HL.out; omega
          have HTX : Hid ((row.take j).map fmtS = row.map fmtS) := Lib.hid (by rw [hjL, List.take_length])
          rw [HTX.out] at HOG
          have HSL := Lib.hid HOG.out.any.sl
          have CJ2 := Lib.hid (refLine wr (.slice OA j oc) (row.map fmtS) HSL.out (fun s hs => by
            obtain ⟨z, hz, rfl⟩ := List.mem_map.1 hs
            obtain ⟨i, hi, rfl⟩ := List.mem_iff_getElem.1 hz
            have := HWK.out i (by omega)
            rw [List.getD_eq_getElem?_getD, List.getElem?_eq_getElem hi] at this
            have := fmt_sz row[i] this.1 this.2
            omega) (by rw [List.length_map]; have := HL.out; omega))
          have HEQ := Lib.hid HSU.out
          generalize (⟨(lnW (row.map fmtS)).toArray⟩ : ByteArray) = xr at *
          have f5 : ¬ 9223372036854775807 < (pk k).size + xr.size := by omega
          have HB2 := Lib.hid (below_step HB.out HC.out)
          clear hjL HOG HTX HSL HB HC hlj
          have XA_1 := XA.out.at_ 1 _ rfl
          go_wp2_with fail
          clear XA_1
          refine CJ2.out.mono ?_; rintro e w6 ⟨rfl, rfl⟩
          clear CJ2
          go_wp2_with fail
          go_roundw
          case rel => first | exact ⟨k + 1, by omega, by rw [HEQ.out], by go_num, XA.out, HB2.out⟩ | ((repeat apply Exists.intro); exact ⟨⟨k + 1, by omega, by rw [HEQ.out], by go_num, XA.out, HB2.out⟩, rfl⟩)
          case measure => simp [intOf]; omega
    · have hlt2 : ¬ (k : Int) < M := by omega
      obtain rfl : k = M := by omega
      have XA_1 := XA.out.at_ 1 _ rfl
      go_wp2_with fail
      go_ret
      exact ⟨by rw [HR.out]; rfl, HB.out⟩

end Go.Proofs.YthpioaboekpjoaaDoor

/-
  Contracts of the reference's Print and Pack.
-/
import Derived.Test.YtbjcbndmafddoaaGreatDoorRtA
import Derived.Test.YtbjcbndmafddoaaGreatDoorUnpD
import Derived.Test.YtbjcbndmafddoaaGreatDoorUnpB
namespace Go.Proofs.YtbjcbndmafddoaaGreatDoor
open Go.RowKit
set_option linter.unusedVariables false
set_option linter.unusedSimpArgs false

theorem joinL_snoc (b : UInt8) (x : List UInt8) : ∀ ps : List (List UInt8), ps ≠ [] → joinL b (ps ++ [x]) = joinL b ps ++ b :: x
  | [], h => absurd rfl h
  | [p], _ => rfl
  | p :: q :: r, _ => by
    have := joinL_snoc b x (q :: r) (by simp)
    simp only [List.cons_append, joinL] at this ⊢
    rw [this]; simp
theorem joinL_len (b : UInt8) (B : Nat) : ∀ ps : List (List UInt8), (∀ p ∈ ps, p.length ≤ B) → (joinL b ps).length ≤ ps.length * (B + 1)
  | [], _ => by simp [joinL]
  | [p], h => by have := h p (by simp); simp only [joinL, List.length_cons, List.length_nil]; omega
  | p :: q :: r, h => by
    have h1 := h p (by simp)
    have h2 := joinL_len b B (q :: r) (fun x hx => h x (List.mem_cons_of_mem _ hx))
    simp only [joinL, List.length_append, List.length_cons] at h2 ⊢
    have e : (r.length + 1 + 1) * (B + 1) = (r.length + 1) * (B + 1) + (B + 1) := by rw [Nat.succ_mul]
    omega
/-- The text as far as the k-th pair. -/
def prB (ns : List ByteArray) (zs : List Int) (k : Nat) : ByteArray := ⟨(joinP (((prs ns zs).take k).map pstr)).toArray⟩
theorem prB_zero (ns : List ByteArray) (zs : List Int) : prB ns zs 0 = ⟨#[]⟩ := by unfold prB; rfl
theorem prB_data (ns : List ByteArray) (zs : List Int) (k : Nat) : (prB ns zs k).data.toList = joinL 32 (((prs ns zs).take k).map fun p => (pstr p).data.toList) := by
  unfold prB; rw [joinP_joinL]; simp [List.map_map, Function.comp_def]
theorem prs_take1 {ns : List ByteArray} {zs : List Int} {k : Nat} (h1 : k < ns.length) (h2 : k < zs.length) : ((prs ns zs).take (k + 1)).map (fun p => (pstr p).data.toList) = ((prs ns zs).take k).map (fun p => (pstr p).data.toList) ++ [(ns.getD k ⟨#[]⟩).data.toList ++ 61 :: (fmtS (zs.getD k 0)).data.toList] := by
  rw [take_snocD _ k pr0 (by rw [prs_len]; omega), prs_get ns zs k h1 h2, List.map_append, List.map_cons, List.map_nil, pstr_data]
theorem prB_first {ns : List ByteArray} {zs : List Int} (h1 : 0 < ns.length) (h2 : 0 < zs.length) : prB ns zs 1 = ((prB ns zs 0 ++ ns.getD 0 ⟨#[]⟩) ++ ⟨#[61]⟩) ++ fmtS (zs.getD 0 0) := by
  apply ba_eq
  rw [prB_data, prs_take1 h1 h2, prB_zero]
  simp [joinL]
theorem prB_succ {ns : List ByteArray} {zs : List Int} {k : Nat} (h0 : 0 < k) (h1 : k < ns.length) (h2 : k < zs.length) : prB ns zs (k + 1) = (((prB ns zs k ++ ⟨#[32]⟩) ++ ns.getD k ⟨#[]⟩) ++ ⟨#[61]⟩) ++ fmtS (zs.getD k 0) := by
  apply ba_eq
  rw [prB_data, prs_take1 h1 h2, joinL_snoc _ _ _ (by
    intro h
    have := congrArg List.length h
    simp only [List.length_map, List.length_take, prs_len, List.length_nil] at this
    omega), ← prB_data]
  simp
theorem prB_all {ns : List ByteArray} {zs : List Int} {N : Nat} (h1 : ns.length = N) (h2 : zs.length = N) : prB ns zs N = ⟨(joinP ((prs ns zs).map pstr)).toArray⟩ := by
  unfold prB; rw [List.take_of_length_le (by rw [prs_len]; omega)]
/-- Sizes of texts: names of at most B bytes, values of a word. -/
theorem prB_size {ns : List ByteArray} {zs : List Int} {B : Nat} (hB : ∀ s ∈ ns, s.size ≤ B) (hz : ∀ z ∈ zs, wordB z = true) (k : Nat) : (prB ns zs k).size ≤ k * (B + 23) := by
  rw [Lib.size_eq, prB_data]
  have h := joinL_len 32 (B + 22) (((prs ns zs).take k).map fun p => (pstr p).data.toList) (fun q hq => by
    obtain ⟨p, hp, rfl⟩ := List.mem_map.1 hq
    have hm := List.of_mem_zip (show (p.1, p.2) ∈ List.zip ns zs from List.mem_of_mem_take hp)
    have h1 := hB _ hm.1
    have h2 := hz _ hm.2
    unfold wordB at h2
    have h2' := of_decide_eq_true h2
    have h3 := fmt_sz p.2 h2'.1 h2'.2
    rw [pstr_data, List.length_append, List.length_cons, ← Lib.size_eq, ← Lib.size_eq]
    omega)
  rw [List.length_map, List.length_take] at h
  exact Nat.le_trans h (Nat.mul_le_mul_right _ (Nat.min_le_left _ _))

set_option maxRecDepth 100000 in
set_option maxHeartbeats 8000000 in
theorem refPrint (w : World) (v1 v2 : Value) (ns : List ByteArray) (zs : List Int) (h1 : SL w v1 ns) (h2 : IL w v2 zs) (hsz : ∀ s ∈ ns, s.size ≤ 2000000) (hn : ns.length ≤ 9223372036854775807) (hz : zs.length ≤ 9223372036854775807) :
    Calls Tryz.prog 7 #[.agg #[v1, v2]] w fun e w' => e = .returned (.string (printT ns zs)) ∧ Below w.heap.size w w' := by
  have HQ1 := Lib.hid h1
  have HQ2 := Lib.hid h2
  have CV := Lib.hid (fun W h1 h2 => refValidT W v1 v2 ns zs h1 h2 hsz hn hz)
  have HE : Hid (printT ns zs = if txV ns zs = true then ⟨(joinP ((prs ns zs).map pstr)).toArray⟩ else ⟨#[]⟩) := Lib.hid rfl
  generalize printT ns zs = r at *
  cases hv : txV ns zs
  · have HR : Hid (r = ⟨#[]⟩) := Lib.hid (by rw [HE.out, hv]; rfl)
    rw [hv] at CV
    clear hv HE h1 h2 hsz hn hz
    go_enter Tryz.func7, Tryz.ntmps7
    go_wp2_with fail
    have XA := Lib.hid (box_new (W := w) (g := w.heap.size) 25 #[v1, v2] (by simp))
    have HB := Lib.hid (below_alloc w (.cells #[v1, v2] 25))
    generalize w.alloc (.cells #[v1, v2] 25) = w1 at *
    refine (CV.out _ (HQ1.out.below HB.out) (HQ2.out.below HB.out)).mono ?_; rintro e w2 ⟨rfl, hb⟩
    replace XA := Lib.hid (XA.out.below hb)
    replace HB := Lib.hid (below_step HB.out hb)
    clear hb
    go_wp2_with fail
    go_ret
    exact ⟨by rw [HR.out]; rfl, HB.out⟩
  obtain ⟨hlz, h128, _, _, hword⟩ := txv_parts hv
  have HR : Hid (r = prB ns zs ns.length) := Lib.hid (by rw [HE.out, hv, if_pos rfl, prB_all rfl hlz.symm])
  rw [hv] at CV
  have HSZ := Lib.hid (fun k => prB_size hsz hword k)
  have HWD := Lib.hid hword
  have HFI := Lib.hid (fun h1 h2 => @prB_first ns zs h1 h2)
  have HSU := Lib.hid (fun k h0 h1 h2 => @prB_succ ns zs k h0 h1 h2)
  have HNM := Lib.hid hsz
  obtain ⟨A1, c1, rfl, hc1, hs1⟩ := h1
  obtain ⟨A2, c2, rfl, hc2, hs2⟩ := h2
  have HS1 := Lib.hid hs1
  have HS2 := Lib.hid hs2
  obtain ⟨N, hN⟩ : ∃ N, N = ns.length := ⟨_, rfl⟩
  have hM : zs.length = N := by omega
  have hN128 : N ≤ 128 := by omega
  rw [← hN] at HR HS1 HQ1 CV ⊢
  rw [hM] at HS2 HQ2 CV ⊢
  have HN := Lib.hid hN
  have HM := Lib.hid hM
  have HZ0 := Lib.hid (prB_zero ns zs)
  generalize prB ns zs = pb at *
  clear hv HE hsz hn hz hlz h128 hword hs1 hs2 hc1 hc2 hN hM
  go_enter Tryz.func7, Tryz.ntmps7
  go_wp2_with fail
  have XA := Lib.hid (box_new (W := w) (g := w.heap.size) 25 #[.slice A1 N c1, .slice A2 N c2] (by simp))
  have HB := Lib.hid (below_alloc w (.cells #[.slice A1 N c1, .slice A2 N c2] 25))
  generalize w.alloc (.cells #[.slice A1 N c1, .slice A2 N c2] 25) = w1 at *
  refine (CV.out _ (HQ1.out.below HB.out) (HQ2.out.below HB.out)).mono ?_; rintro e w2 ⟨rfl, hb⟩
  replace XA := Lib.hid (XA.out.below hb)
  replace HB := Lib.hid (below_step HB.out hb)
  clear hb
  go_wp2_with fail
  go_loopw [3, 4] (fun s i wr => ∃ k : Nat, k ≤ N ∧ s = .string (pb k) ∧ i = .int .i64 k ∧ Box wr w.heap.size #[.slice A1 N c1, .slice A2 N c2] 25 ∧ Below w.heap.size w wr) (fun _ i _ => N - (intOf i).toNat)
  case atStart => exact ⟨0, Nat.zero_le _, by rw [HZ0.out], rfl, XA.out, HB.out⟩
  case round =>
    obtain ⟨k, hk, rfl, rfl, hxa, hb⟩ := hrel
    clear XA HB
    have XA := Lib.hid hxa
    have HB := Lib.hid hb
    clear hxa hb
    by_cases hlt : k < N
    · have hlt2 : (k : Int) < N := by omega
      have hk0 : (0 : Int) ≤ (k : Int) := by omega
      have hkn : k < ns.length := by rw [← HN.out]; exact hlt
      have hkz : k < zs.length := by rw [HM.out]; exact hlt
      obtain ⟨x1, rfl, hr1⟩ := HS1.out (by omega)
      obtain ⟨x2, rfl, hx2, hr2⟩ := HS2.out (by omega)
      have hq1 : ∀ p : Lat wr, p.w.cell? (x1.add k) = some (.string (ns.getD k ⟨#[]⟩)) := fun p => (hr1.below (below_step HB.out p.h)).cells k hkn
      have hq2 : ∀ p : Lat wr, p.w.cell? (x2.add k) = some (.int .i64 (zs.getD k 0)) := fun p => by
        rw [(below_step HB.out p.h).cell (p := x2.add k) (by rw [block_of_add]; exact hx2)]
        exact hr2 k hlt
      have hwz : 0 ≤ zs.getD k 0 ∧ zs.getD k 0 ≤ 65535 := by
        have := HWD.out _ (getD_mem 0 hkz)
        unfold wordB at this
        exact of_decide_eq_true this
      have hns := HNM.out _ (getD_mem ⟨#[]⟩ hkn)
      have hsk := HSZ.out k
      have hsk2 : (pb k).size ≤ 300000000 := by
        have : k * (2000000 + 23) ≤ 128 * (2000000 + 23) := Nat.mul_le_mul_right _ (by omega)
        omega
      have hcase : (k = 0 ∧ pb (k + 1) = ((pb k ++ ns.getD k ⟨#[]⟩) ++ ⟨#[61]⟩) ++ fmtS (zs.getD k 0)) ∨ (0 < k ∧ pb (k + 1) = (((pb k ++ ⟨#[32]⟩) ++ ns.getD k ⟨#[]⟩) ++ ⟨#[61]⟩) ++ fmtS (zs.getD k 0)) := by
        by_cases e : k = 0
        · left; subst e; exact ⟨rfl, HFI.out hkn hkz⟩
        · right; exact ⟨by omega, HSU.out k (by omega) hkn hkz⟩
      generalize ns.getD k ⟨#[]⟩ = n at *
      generalize zs.getD k 0 = z at *
      generalize hpk : pb k = a at *
      generalize hpk1 : pb (k + 1) = a1 at *
      have HP1 := Lib.hid hpk1
      have hfz := fmt_sz z hwz.1 hwz.2
      have VF := Lib.hid (fun p : Lat wr => refFormat z p.w (by omega) (by omega))
      clear hpk hpk1 hsk hr1 hr2 hkn hkz hwz
      rcases hcase with ⟨h0, he⟩ | ⟨h0, he⟩
      · have HEQ := Lib.hid he
        subst h0
        simp only [add_zero] at hq1 hq2
        have f1 : ¬ 9223372036854775807 < a.size + n.size := by omega
        have f2 : ¬ 9223372036854775807 < (a ++ n).size + 1 := by rw [ByteArray.size_append]; omega
        have f3 : ¬ 9223372036854775807 < a.size + n.size + 1 := by omega
        have f4 : ¬ 9223372036854775807 < ((a ++ n) ++ (⟨#[61]⟩ : ByteArray)).size + (fmtS z).size := by rw [ByteArray.size_append, ByteArray.size_append]; show ¬ 9223372036854775807 < a.size + n.size + 1 + (fmtS z).size; omega
        have f5 : ¬ 9223372036854775807 < a.size + n.size + 1 + (fmtS z).size := by omega
        clear he
        have XA_0 := XA.out.at_ 0 _ rfl
        go_wp2_with fail
        clear XA_0
        have l0 := XA.out.lat 0 _ rfl
        have l1 := XA.out.lat 1 _ rfl
        refine wp_region_lat (by kernel_rfl) (by kernel_rfl) ?_
        repeat (go_big_quiet_step (with_reducible exact lat_call (VF.out _)))
        refine wpQuiet_nil ?_; intro w9 hb
        clear l0 l1 VF hq1 hq2 f1 f2 f3 f4 f5
        replace XA := Lib.hid (XA.out.below hb)
        replace HB := Lib.hid (below_step HB.out hb)
        clear hb
        go_wp2_with fail
        go_roundw
        case rel => exact ⟨1, by omega, by rw [HP1.out, HEQ.out], by go_num, XA.out, HB.out⟩
        case measure => simp [intOf]; omega
      · have HEQ := Lib.hid he
        have g0 : (0 : Int) < k := by omega
        have f0 : ¬ 9223372036854775807 < a.size + 1 := by omega
        have f1 : ¬ 9223372036854775807 < (a ++ (⟨#[32]⟩ : ByteArray)).size + n.size := by rw [ByteArray.size_append]; show ¬ 9223372036854775807 < a.size + 1 + n.size; omega
        have f1' : ¬ 9223372036854775807 < a.size + 1 + n.size := by omega
        have f2 : ¬ 9223372036854775807 < ((a ++ (⟨#[32]⟩ : ByteArray)) ++ n).size + 1 := by rw [ByteArray.size_append, ByteArray.size_append]; show ¬ 9223372036854775807 < a.size + 1 + n.size + 1; omega
        have f3 : ¬ 9223372036854775807 < a.size + 1 + n.size + 1 := by omega
        have f4 : ¬ 9223372036854775807 < (((a ++ (⟨#[32]⟩ : ByteArray)) ++ n) ++ (⟨#[61]⟩ : ByteArray)).size + (fmtS z).size := by rw [ByteArray.size_append, ByteArray.size_append, ByteArray.size_append]; show ¬ 9223372036854775807 < a.size + 1 + n.size + 1 + (fmtS z).size; omega
        have f5 : ¬ 9223372036854775807 < a.size + 1 + n.size + 1 + (fmtS z).size := by omega
        clear he
        have XA_0 := XA.out.at_ 0 _ rfl
        go_wp2_with fail
        clear XA_0
        have l0 := XA.out.lat 0 _ rfl
        have l1 := XA.out.lat 1 _ rfl
        refine wp_region_lat (by kernel_rfl) (by kernel_rfl) ?_
        repeat (go_big_quiet_step (with_reducible exact lat_call (VF.out _)))
        refine wpQuiet_nil ?_; intro w9 hb
        clear l0 l1 VF hq1 hq2 f0 f1 f1' f2 f3 f4 f5
        replace XA := Lib.hid (XA.out.below hb)
        replace HB := Lib.hid (below_step HB.out hb)
        clear hb
        go_wp2_with fail
        go_roundw
        case rel => exact ⟨k + 1, by omega, by rw [HP1.out, HEQ.out], by go_num, XA.out, HB.out⟩
        case measure => simp [intOf]; omega
    · have hlt2 : ¬ (k : Int) < N := by omega
      obtain rfl : k = N := by omega
      have XA_0 := XA.out.at_ 0 _ rfl
      go_wp2_with fail
      go_ret
      exact ⟨by rw [HR.out]; rfl, HB.out⟩

set_option maxRecDepth 100000 in
set_option maxHeartbeats 8000000 in
theorem refPack (w : World) (v1 v2 : Value) (ns : List ByteArray) (zs : List Int) (h1 : SL w v1 ns) (h2 : IL w v2 zs) (hsz : ∀ s ∈ ns, s.size ≤ 2000000) (hn : ns.length ≤ 9223372036854775807) (hz : zs.length ≤ 9223372036854775807) (hpk : txV ns zs = true → (pkL ns zs).length ≤ 140737488355328) :
    Calls Tryz.prog 9 #[.agg #[v1, v2]] w fun e w' => e = .returned (.tuple #[.string (if txV ns zs = true then mkS (pkL ns zs) else ⟨#[]⟩), .int .i64 (if txV ns zs = true then 0 else 1)]) ∧ Below w.heap.size w w' := by
  have HQ1 := Lib.hid h1
  have HQ2 := Lib.hid h2
  have CV := Lib.hid (fun W h1 h2 => refValidT W v1 v2 ns zs h1 h2 hsz hn hz)
  cases hv : txV ns zs
  · rw [hv] at CV
    simp only [Bool.false_eq_true, if_false]
    clear hv h1 h2 hsz hn hz hpk
    go_enter Tryz.func9, Tryz.ntmps9
    go_wp2_with fail
    have XA := Lib.hid (box_new (W := w) (g := w.heap.size) 25 #[v1, v2] (by simp))
    have HB := Lib.hid (below_alloc w (.cells #[v1, v2] 25))
    generalize w.alloc (.cells #[v1, v2] 25) = w1 at *
    refine (CV.out _ (HQ1.out.below HB.out) (HQ2.out.below HB.out)).mono ?_; rintro e w2 ⟨rfl, hb⟩
    replace XA := Lib.hid (XA.out.below hb)
    replace HB := Lib.hid (below_step HB.out hb)
    clear hb
    go_wp2_with fail
    go_ret2
    exact ⟨rfl, HB.out⟩
  rw [hv] at CV
  simp only [if_true]
  have hword : ∀ z ∈ zs, wordB z = true := (txv_parts hv).2.2.2.2
  replace hpk := hpk hv
  obtain ⟨A1, c1, rfl, hc1, hs1⟩ := h1
  obtain ⟨A2, c2, rfl, hc2, hs2⟩ := h2
  have HS2 := Lib.hid hs2
  have hple : (pList ns).length ≤ 140737488355328 := by
    have := pkP_le ns zs 0
    rw [pkP_zero] at this
    omega
  have CL := Lib.hid (fun W (h : SL W (.slice A1 ns.length c1) ns) => refList W A1 ns c1 (by
    obtain ⟨A, c, e, _, hh⟩ := h
    simp only [Value.slice.injEq, true_and] at e
    obtain ⟨rfl, rfl⟩ := e
    exact hh) hn hple)
  have HSU := Lib.hid (fun k (h : k < zs.length) => pkP_succ ns zs h)
  have HALL := Lib.hid (pkP_all ns zs)
  have HLE := Lib.hid (fun k => pkP_le ns zs k)
  have HZ0 := Lib.hid (pkP_zero ns zs)
  have HWD := Lib.hid hword
  obtain ⟨N, hN⟩ : ∃ N, N = ns.length := ⟨_, rfl⟩
  obtain ⟨M, hM⟩ : ∃ M, M = zs.length := ⟨_, rfl⟩
  rw [← hN] at CV HQ1 CL ⊢
  rw [← hM] at CV HQ2 HS2 HALL hz ⊢
  have HMM := Lib.hid hM
  generalize pkL ns zs = pl at *
  generalize pkP ns zs = pp at *
  have CL2 : Hid (∀ W, SL W (.slice A1 N c1) ns → Calls Tryz.prog 26 #[.slice A1 N c1] W fun e w' => e = .returned (.string (mkS (pp 0))) ∧ Below W.heap.size W w') := Lib.hid (by rw [HZ0.out]; exact CL.out)
  clear hv hsz hn hs1 hs2 hc1 hc2 hN hM hword hple CL HZ0
  go_enter Tryz.func9, Tryz.ntmps9
  go_wp2_with fail
  have XA := Lib.hid (box_new (W := w) (g := w.heap.size) 25 #[.slice A1 N c1, .slice A2 M c2] (by simp))
  have HB := Lib.hid (below_alloc w (.cells #[.slice A1 N c1, .slice A2 M c2] 25))
  generalize w.alloc (.cells #[.slice A1 N c1, .slice A2 M c2] 25) = w1 at *
  refine (CV.out _ (HQ1.out.below HB.out) (HQ2.out.below HB.out)).mono ?_; rintro e w2 ⟨rfl, hb⟩
  replace XA := Lib.hid (XA.out.below hb)
  replace HB := Lib.hid (below_step HB.out hb)
  clear hb
  have XA_0 := XA.out.at_ 0 _ rfl
  go_wp2_with fail
  clear XA_0
  refine (CL2.out _ (HQ1.out.below HB.out)).mono ?_; rintro e w3 ⟨rfl, hb⟩
  replace XA := Lib.hid (XA.out.below hb)
  replace HB := Lib.hid (below_step HB.out hb)
  clear hb
  go_wp2_with fail
  go_loopw [4, 5] (fun s i wr => ∃ k : Nat, k ≤ M ∧ s = .string (mkS (pp k)) ∧ i = .int .i64 k ∧ Box wr w.heap.size #[.slice A1 N c1, .slice A2 M c2] 25 ∧ Below w.heap.size w wr) (fun _ i _ => M - (intOf i).toNat)
  case atStart => exact ⟨0, Nat.zero_le _, rfl, rfl, XA.out, HB.out⟩
  case round =>
    obtain ⟨k, hk, rfl, rfl, hxa, hb⟩ := hrel
    clear XA HB
    have XA := Lib.hid hxa
    have HB := Lib.hid hb
    clear hxa hb
    by_cases hlt : k < M
    · have hlt2 : (k : Int) < M := by omega
      have hkz : k < zs.length := by rw [← HMM.out]; exact hlt
      obtain ⟨x2, rfl, hx2, hr2⟩ := HS2.out (by omega)
      have q2 : wr.cell? (x2.add k) = some (.int .i64 (zs.getD k 0)) := by
        rw [HB.out.cell (p := x2.add k) (by rw [block_of_add]; exact hx2)]
        exact hr2 k hlt
      have hwz : 0 ≤ zs.getD k 0 ∧ zs.getD k 0 ≤ 65535 := by
        have := HWD.out _ (getD_mem 0 hkz)
        unfold wordB at this
        exact of_decide_eq_true this
      have hsu := HSU.out k hkz
      have hle := HLE.out (k + 1)
      rw [hsu, List.length_append] at hle
      generalize zs.getD k 0 = z at *
      have CN := Lib.hid (fun W => refNumber W z (by omega) (by omega))
      have f1 : ¬ 9223372036854775807 < (mkS (pp k)).size + (mkS (pNum z)).size := by rw [mkS_size, mkS_size]; omega
      have HEQ : Hid (mkS (pp k) ++ mkS (pNum z) = mkS (pp (k + 1))) := Lib.hid (by rw [hsu]; apply ba_eq; simp [mkS])
      clear hsu hkz hr2 hle hwz
      generalize mkS (pp k) = t0 at *
      have XA_1 := XA.out.at_ 1 _ rfl
      go_wp2_with fail
      clear q2
      refine (CN.out _).mono ?_; rintro e w6 ⟨rfl, hb⟩
      clear XA_1
      replace XA := Lib.hid (XA.out.below hb)
      replace HB := Lib.hid (below_step HB.out hb)
      clear hb
      go_wp2_with fail
      go_roundw
      case rel => exact ⟨k + 1, by omega, by rw [HEQ.out], by go_num, XA.out, HB.out⟩
      case measure => simp [intOf]; omega
    · have hlt2 : ¬ (k : Int) < M := by omega
      obtain rfl : k = M := by omega
      rw [HALL.out]
      have XA_1 := XA.out.at_ 1 _ rfl
      go_wp2_with fail
      go_ret2
      exact ⟨rfl, HB.out⟩

end Go.Proofs.YtbjcbndmafddoaaGreatDoor

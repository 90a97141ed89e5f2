/-
  Contract of txn.Print.
  The law's awake.
  What every law's frame uses: the last step where a walk leaves 'Below'; the listed variables' facts.
  The plain wrap of a contract with a further condition of the row, the world's shape kept.
  Reading the arguments of the laws of chapter 26; the table of keywords out of the listed variables.
-/
import Derived.Test.YtbjcbndmafddoaaGreatDoorTxD
import Derived.Lib.ItoaLen
import Derived.Test.YtbjcbndmafddoaaGreatDoorDec
import Derived.Test.YtbjcbndmafddoaaGreatDoorRows
import Derived.ProofKit
import Derived.OpenShut
import Derived.LaidMore
import Derived.Lib.LaidTab
import Derived.Carry
import Derived.Test.YtbjcbndmafddoaaGreatDoorBase
import Derived.Handed
import Derived.Deep.Slices
import Derived.ChangeSame
import Derived.Deep.Fields
import Derived.SliceStrings
import Derived.ChangeSlices
namespace Go.Proofs.YtbjcbndmafddoaaGreatDoor
section
open Go.RowKit
set_option linter.unusedVariables false
set_option linter.unusedSimpArgs false

def fVal (j : Nat) (D : List Nat) (v : Value) : FOp := ⟨j, D, fun u => u = v, fun u w => u = v⟩
theorem fVal_st (j : Nat) (D : List Nat) (v : Value) : ∀ u w w', (fVal j D v).Φ u w → Below w.heap.size w w' → (fVal j D v).Φ u w' := fun u w w' h _ => h
theorem fVal_kn (j : Nat) (D : List Nat) (v : Value) : (∀ u w, (fVal j D v).Φ u w → (fVal j D v).S u) ∧ ∃ u, (fVal j D v).S u := ⟨fun u w h => h, v, rfl⟩
theorem fmt_sz (n : Int) (h0 : 0 ≤ n) (h1 : n ≤ 65535) : (fmtS n).size ≤ 21 := by
  have := Lib.itoa_length_le n (by omega) (by omega)
  unfold fmtS
  rw [Lib.size_eq]; simpa using this
theorem prs_sz {ns : List ByteArray} {zs : List Int} (h : ∀ s ∈ ns, s.size ≤ 2000000) {k : Nat} (hk : k < (prs ns zs).length) : ((prs ns zs).getD k pr0).1.size ≤ 2000000 := by
  have hl := prs_len ns zs
  have hkn : k < ns.length := by omega
  have hkz : k < zs.length := by omega
  rw [prs_get ns zs k hkn hkz]
  exact h _ (getD_mem ⟨#[]⟩ hkn)
/-- The text of a pair. -/
def pstr (p : Pr) : ByteArray := (p.1 ++ ⟨#[61]⟩) ++ fmtS p.2
def joinP (l : List ByteArray) : List UInt8 := Lib.join (l.map (·.data.toList)) [32]
def printT (ns : List ByteArray) (zs : List Int) : ByteArray := if txV ns zs = true then ⟨(joinP ((prs ns zs).map pstr)).toArray⟩ else ⟨#[]⟩
theorem joinCall (w : World) (base : Nat) (v : Value) (xs : List ByteArray) (n : Nat) (h : w.ownsRow base 9 1 v n (scells xs)) (hn : n ≤ 140737488355328) (hj : (joinP xs).length ≤ 140737488355328) :
    Calls Tryz.prog 20 #[v, .string ⟨#[32]⟩] w fun e w' => e = .returned (.string ⟨(joinP xs).toArray⟩) ∧ Below w.heap.size w w' := by
  have hl : xs.length = n := by have := h.1; simpa [scells] using this
  have h0 := h
  rcases h.2 with ⟨rfl, h2⟩ | ⟨g, cap, cur, rfl, hg, hh, hnc, _⟩
  · have : xs = [] := List.eq_nil_of_length_eq_zero (by omega)
    subst this
    exact (Tryz.strings_Join_none none 0 ⟨#[32]⟩ w).mono fun e w' ⟨he, hw⟩ => ⟨he, by rw [hw]; exact Below.refl _ _⟩
  · subst hl
    have hlt : g < w.heap.size := by
      rcases Nat.lt_or_ge g w.heap.size with hlt | hge
      · exact hlt
      · rw [Array.getElem?_eq_none hge] at hh; cases hh
    refine Tryz.strings_Join g 0 cap xs ⟨#[32]⟩ w (fun j x hx => ?_) hlt hn (by omega) hj
    have := World.ownsRow.cells h0 (g := g) rfl j (.string x) (by simp [scells, hx])
    rw [show (⟨g, 0, none⟩ : Addr).add j = ⟨g, j, none⟩ by unfold Addr.add; split <;> simp_all] at this
    rw [Nat.zero_add]; exact this
theorem map_snocD {l : List Pr} {k : Nat} (h : k < l.length) : (l.take (k + 1)).map pstr = (l.take k).map pstr ++ [pstr (l.getD k pr0)] := by
  rw [take_snocD _ k pr0 h, List.map_append]; rfl
theorem prs_word {ns : List ByteArray} {zs : List Int} (h : txV ns zs = true) {k : Nat} (hk : k < (prs ns zs).length) : 0 ≤ ((prs ns zs).getD k pr0).2 ∧ ((prs ns zs).getD k pr0).2 ≤ 65535 := by
  have hv : TxV ns zs := of_decide_eq_true h
  have hl := prs_len ns zs
  have hkn : k < ns.length := by omega
  have hkz : k < zs.length := by omega
  rw [prs_get ns zs k hkn hkz]
  have := hv.2.2.2.2 _ (getD_mem 0 hkz)
  exact of_decide_eq_true this

set_option maxRecDepth 100000 in
set_option maxHeartbeats 8000000 in
theorem txnPrint (w : World) (v1 v2 : Value) (ns : List ByteArray) (zs : List Int) (h1 : SL w v1 ns) (h2 : IL w v2 zs) (hsz : ∀ s ∈ ns, s.size ≤ 2000000) (hn : ns.length * 24 ≤ 140737488355328) (hz : zs.length ≤ 9223372036854775807)
    (hj : txV ns zs = true → (joinP ((prs ns zs).map pstr)).length ≤ 140737488355328) (hk : KW w) (hm : MLen w) (ht : Tab w) :
    Calls Tryz.prog 6 #[.agg #[v1, v2]] w fun e w' => e = .returned (.string (printT ns zs)) ∧ Below w.heap.size w w' := by
  have HK := Lib.hid hk
  have HM := Lib.hid hm
  have HT := Lib.hid ht
  obtain ⟨i0, hi, hz0, hz1, hz2⟩ := info_parts istr
  have HI := Lib.hid hi
  have HZ0 := Lib.hid hz0
  have HZ1 := Lib.hid hz1
  have HZ2 := Lib.hid hz2
  have HQ1 := Lib.hid h1
  have HQ2 := Lib.hid h2
  have CV := Lib.hid (fun W h1 h2 h3 h4 => txnValid W v1 v2 ns zs h1 h2 hsz (by omega) hz h3 h4)
  have CP := Lib.hid (fun W h1 h2 => txnPairs W v1 v2 ns zs h1 h2 hn hz)
  have HW := Lib.hid (fun h k h' => @prs_word ns zs h k h')
  have HSP := Lib.hid (fun k h => @prs_sz ns zs hsz k h)
  have HE : Hid (printT ns zs = if txV ns zs = true then ⟨(joinP ((prs ns zs).map pstr)).toArray⟩ else ⟨#[]⟩) := Lib.hid rfl
  have hpl : (prs ns zs).length * 24 ≤ 140737488355328 := by rw [prs_len]; omega
  have CF := Lib.hid (fun z w h0 h1 ht => numFormat z w h0 h1 ht)
  clear hi hz0 hz1 hz2 h1 h2 hk hm ht hsz hn hz
  generalize prs ns zs = ps at *
  generalize printT ns zs = r at *
  cases hv : txV ns zs
  · have HR : Hid (r = ⟨#[]⟩) := Lib.hid (by rw [HE.out, hv]; rfl)
    rw [hv] at CV
    clear hv HE HW hpl hj
    go_enter Tryz.func6, Tryz.ntmps6
    go_wp2_with fail
    have XA := Lib.hid (box_new (W := w) (g := w.heap.size) 25 #[v1, v2] (by simp))
    have HB := Lib.hid (below_alloc w (.cells #[v1, v2] 25))
    generalize w.alloc (.cells #[v1, v2] 25) = w1 at *
    refine (CV.out _ (HQ1.out.below HB.out) (HQ2.out.below HB.out) (HK.out.below HB.out) (HM.out.below HB.out)).mono ?_; rintro e w2 ⟨rfl, hb⟩
    replace XA := Lib.hid (XA.out.below hb)
    replace HB := Lib.hid (below_step HB.out hb)
    clear hb
    go_wp2_with fail
    go_ret
    exact ⟨by rw [HR.out]; rfl, HB.out⟩
  have HR : Hid (r = ⟨(joinP (ps.map pstr)).toArray⟩) := Lib.hid (by rw [HE.out, hv]; rfl)
  replace HW := Lib.hid (HW.out hv)
  replace hj := hj hv
  rw [hv] at CV
  clear hv HE
  go_enter Tryz.func6, Tryz.ntmps6
  go_wp2_with fail
  have XA := Lib.hid (box_new (W := w) (g := w.heap.size) 25 #[v1, v2] (by simp))
  have HB := Lib.hid (below_alloc w (.cells #[v1, v2] 25))
  generalize w.alloc (.cells #[v1, v2] 25) = w1 at *
  refine (CV.out _ (HQ1.out.below HB.out) (HQ2.out.below HB.out) (HK.out.below HB.out) (HM.out.below HB.out)).mono ?_; rintro e w2 ⟨rfl, hb⟩
  replace XA := Lib.hid (XA.out.below hb)
  replace HB := Lib.hid (below_step HB.out hb)
  clear hb
  have XA_0 := XA.out.at_ 0 _ rfl
  have XA_1 := XA.out.at_ 1 _ rfl
  go_wp2_with fail
  clear XA_0 XA_1
  refine (CP.out _ (HQ1.out.below HB.out) (HQ2.out.below HB.out)).mono ?_; rintro e w3 ⟨v, rfl, hpv, hb⟩
  replace HB := Lib.hid (below_step HB.out hb)
  clear hb
  obtain ⟨A, c, rfl, hc, hp⟩ := hpv
  have HP := Lib.hid hp
  obtain ⟨N, hN⟩ : ∃ N, N = ps.length := ⟨_, rfl⟩
  have HN := Lib.hid hN
  rw [← hN] at hc hpl ⊢
  have HA := Lib.hid HB.out
  have HT3 := Lib.hid (HT.out.below HB.out)
  clear hp hN XA CV CP HQ1 HQ2 HB HT
  go_wp2_with fail
  go_loopw [12, 3] (fun i o wr => ∃ (k : Nat) (v0 : Value), k ≤ N ∧ v0 = o ∧ i = .int .i64 k ∧ wr.ownsRow w3.heap.size 9 1 v0 k (scells ((ps.take k).map pstr)) ∧ Below w3.heap.size w3 wr) (fun i _ _ => N - (intOf i).toNat)
  case atStart => exact ⟨0, _, Nat.zero_le _, rfl, rfl, World.ownsRow_nil _ _ _ _, Below.refl _ _⟩
  case round =>
    obtain ⟨k, v0, hk, rfl, rfl, hown, hb⟩ := hrel
    have HB := Lib.hid hb
    clear hb
    by_cases hlt : k < N
    · have hlt2 : (k : Int) < N := by omega
      have hkn : k < ps.length := by rw [← HN.out]; exact hlt
      obtain ⟨b1, o1, rfl, hb1, hc1⟩ := HP.out (by rw [← HN.out]; omega)
      have q1 := hc1 k hkn
      have hw := HW.out k hkn
      have hsp := HSP.out k hkn
      have HSU : Hid (scells ((ps.take (k + 1)).map pstr) = scells ((ps.take k).map pstr) ++ [.string (pstr (ps.getD k pr0))]) := Lib.hid (by rw [map_snocD hkn, scells_snoc])
      have m1 : wr.cell? ⟨b1, o1 + k * 2, none⟩ = some (.string (ps.getD k pr0).1) := by rw [HB.out.cell (p := ⟨b1, o1 + k * 2, none⟩) hb1]; exact q1.1
      have m2 : wr.cell? ⟨b1, o1 + k * 2 + 1, none⟩ = some (.int .i64 (ps.getD k pr0).2) := by rw [HB.out.cell (p := ⟨b1, o1 + k * 2 + 1, none⟩) hb1]; exact q1.2
      have HOWN := Lib.hid hown
      generalize ps.getD k pr0 = p at *
      obtain ⟨s, z⟩ := p
      simp only [pstr] at HSU m1 m2 hw hsp
      have hfz := fmt_sz z hw.1 hw.2
      have f5 : ¬ 9223372036854775807 < s.size + 1 := by omega
      have f6 : ¬ 9223372036854775807 < (s ++ (⟨#[61]⟩ : ByteArray)).size + (fmtS z).size := by rw [ByteArray.size_append]; show ¬ 9223372036854775807 < s.size + 1 + (fmtS z).size; omega
      have f7 : ¬ 9223372036854775807 < s.size + 1 + (fmtS z).size := by omega
      clear hown hkn q1 hc1
      have hk0 : (0 : Int) ≤ (k : Int) := by omega
      go_wp2_with fail
      clear m1 m2
      replace HOWN := Lib.hid (HOWN.out.alloc (.cells #[.string s, .int .i64 z] 42))
      have XP := Lib.hid (box_new (W := wr) (g := wr.heap.size) 42 #[.string s, .int .i64 z] (by simp))
      have hba := (below_alloc wr (.cells #[.string s, .int .i64 z] 42))
      replace HB := Lib.hid (below_step HB.out hba)
      clear hba
      generalize wr.alloc (.cells #[.string s, .int .i64 z] 42) = w4 at *
      have HT4 := Lib.hid (HT3.out.below HB.out)
      have D4 := Lib.hid (fun w h => numFormat z w (by omega) (by omega) h)
      refine wp_region_gen 9 (Kit.of [fVal 6 [] (.string (fmtS z)), fSlice 8 [] w4.heap.size #[.string ((s ++ ⟨#[61]⟩) ++ fmtS z)] 9]) (by kernel_rfl) (by kernel_rfl) (fun γ => by kernel_rfl) (by kernel_rfl) (Kit.of_stable ?_) (Kit.of_known ?_) ?_
      · intro z hz; simp only [List.mem_cons, List.not_mem_nil, or_false] at hz; rcases hz with rfl | rfl
        · apply fVal_st
        · apply fSlice_st
      · intro z hz; simp only [List.mem_cons, List.not_mem_nil, or_false] at hz; rcases hz with rfl | rfl
        · apply fVal_kn
        · apply fSlice_kn
      intro γ hγ C hC hne
      have e6 : γ 6 = .string (fmtS z) := hγ 6 rfl
      obtain ⟨g8, e8⟩ : ∃ g, γ 8 = .slice (some ⟨g, 0, none⟩) 1 1 := hγ 8 rfl
      have l0 := XP.out.latC (C := C) 0 _ rfl
      have l1 := XP.out.latC (C := C) 1 _ rfl
      simp only [List.take_succ_cons, List.take_zero, List.drop_succ_cons, List.drop_zero]
      iterate 6 (refine wpF_quiet rfl ?_; go_big_quiet_step (fail); refine wpQuiet_nil ?_)
      refine wpF_fresh rfl (freshAt_call (args := #[.int .i64 z]) rfl _ _ _ (run_go Tryz.func19 (by kernel_rfl) (by kernel_rfl)) rfl (by simp [Act.eval]) (fun w' hb hf => (D4.out w' (HT4.out.below hb)).mono fun e w2 ⟨he, h1⟩ => ⟨_, he, rfl, h1⟩)) ?_
      simp only [Nat.zero_add, Nat.reduceAdd, e6]
      go_simp
      iterate 1 (refine wpF_quiet rfl ?_; go_big_quiet_step (fail); refine wpQuiet_nil ?_)
      refine wpF_fresh rfl (freshAt_slice rfl (fun w => by kernel_rfl) (fun w' g hg hx => ⟨g, rfl, hx, hg⟩)) ?_
      simp only [Nat.zero_add, Nat.reduceAdd, e8]
      go_simp
      intro w6 hb hF
      obtain ⟨Y, hgy⟩ := slice_at e8 (hF 8 (by decide) rfl)
      have HY := Lib.hid Y
      replace HOWN := Lib.hid (own_below HOWN.out hb)
      clear l0 l1 hF hγ hC hne e6 e8 Y hgy XP
      replace HB := Lib.hid (below_step HB.out hb)
      clear hb
      go_wp2_with (at_builtin; refine wpList_append_own _ rfl _ _ 22 rfl w3.heap.size 9 i0 (.string ⟨#[]⟩) 1 16 Tryz.underlying22 HI.out HZ0.out HZ1.out HZ2.out rfl (by decide) v0 k (scells ((ps.take k).map pstr)) rfl HOWN.out ⟨g8, 0, none⟩ 1 1 [.string ((s ++ ⟨#[61]⟩) ++ fmtS z)] rfl rfl ?c1 ?c2 ?c3 ?c4 ?c5 ?_)
      case c1 => exact newsB HY.out
      case c2 => intro u hu; simp at hu; subst hu; rfl
      case c3 => unfold maxLen; omega
      case c4 => omega
      case c5 => exact HB.out.size
      intro v' w7 hown7 hgrow _
      have HOWN7 : Hid (w7.ownsRow w3.heap.size 9 1 v' (k + 1) (scells ((ps.take (k + 1)).map pstr))) := Lib.hid (by
        rw [HSU.out, List.map_take]; exact hown7)
      have HB7 := Lib.hid (below_grown0 HB.out HB.out.size (Nat.le_refl _) HOWN.out hgrow)
      clear hown7 hgrow
      go_wp2_with fail
      go_roundw
      case rel => exact ⟨k + 1, v', by omega, rfl, by go_num, HOWN7.out, HB7.out⟩
      case measure => simp [intOf]; omega
    · have hkn : k = N := by omega
      have hlt2 : ¬ (k : Int) < N := by omega
      rw [List.take_of_length_le (by rw [hkn, HN.out]; exact Nat.le_refl _)] at hown
      have CJ := Lib.hid (joinCall wr _ _ _ _ hown (by omega) hj)
      clear hown hkn
      go_wp2_with fail
      refine CJ.out.mono ?_; rintro e w5 ⟨rfl, hb⟩
      replace HB := Lib.hid (below_step HB.out hb)
      clear hb
      go_wp2_with fail
      go_ret
      exact ⟨by rw [HR.out]; rfl, below_step HA.out HB.out⟩
end

section
section
open Go.RowKit
set_option linter.unusedVariables false
set_option linter.unusedSimpArgs false

def xA : ByteArray := ⟨#[97]⟩
def xB2 : ByteArray := ⟨#[98, 91, 50, 93]⟩
theorem fmt_one {i : Nat} (h : i < 10) : fmtS (i : Int) = ⟨#[UInt8.ofNat (48 + i)]⟩ := by
  unfold fmtS
  rw [Lib.itoa_nonneg, Lib.decDigits_one h]
theorem par_one {i : Nat} (h : i < 10) (d : ByteArray) (hd : d = ⟨#[UInt8.ofNat (48 + i)]⟩) : parV d = i ∧ parE d = 0 := by
  rw [hd, ← fmt_one h]
  exact par_fmt (i : Int) (by omega) (by omega)
theorem part_good {s n d : ByteArray} {i : Nat} (h : i < 10) (h1 : hasB 61 s = true) (h2 : preB 61 s = n) (h3 : posB 61 s = d) (h4 : varB n = true) (hd : d = ⟨#[UInt8.ofNat (48 + i)]⟩) : partT s = (n, (i : Int), 0) := by
  have hp := par_one h d hd
  unfold partT
  rw [h2, h3, hp.1, hp.2, if_neg (by simp [h1, h4]), if_neg (by decide), if_neg (by
    have : wordB (i : Int) = true := by unfold wordB; exact decide_eq_true (by omega)
    simp [this])]
theorem partA : partT ⟨#[97, 61, 49]⟩ = (xA, 1, 0) := part_good (d := ⟨#[49]⟩) (i := 1) (by decide) (by decide +kernel) (by decide +kernel) (by decide +kernel) (by decide +kernel) (by decide +kernel)
theorem partB2 : partT ⟨#[98, 91, 50, 93, 61, 55]⟩ = (xB2, 7, 0) := part_good (d := ⟨#[55]⟩) (i := 7) (by decide) (by decide +kernel) (by decide +kernel) (by decide +kernel) (by decide +kernel) (by decide +kernel)
theorem awkParse : parseT ⟨#[97, 61, 49, 32, 98, 91, 50, 93, 61, 55]⟩ = ([xA, xB2], [1, 7], 0) := by
  have hw : words 32 ⟨#[97, 61, 49, 32, 98, 91, 50, 93, 61, 55]⟩ = [⟨#[97, 61, 49]⟩, ⟨#[98, 91, 50, 93, 61, 55]⟩] := by decide +kernel
  have hr : prsRun (words 32 ⟨#[97, 61, 49, 32, 98, 91, 50, 93, 61, 55]⟩) [] [] = ([xA, xB2], [1, 7], 0) := by
    rw [hw, prs_go (by rw [partA]) (by rw [partA]; decide +kernel), partA, prs_go (by rw [partB2]) (by rw [partB2]; decide +kernel), partB2, prs_nil]; rfl
  unfold parseT
  rw [hr, if_neg (by decide), if_neg (by rintro ⟨_, h⟩; revert h; show ¬ 128 < 2; decide)]
theorem awkDup : parseT ⟨#[97, 61, 49, 32, 97, 61, 49]⟩ = ([], [], 8) := by
  have hw : words 32 ⟨#[97, 61, 49, 32, 97, 61, 49]⟩ = [⟨#[97, 61, 49]⟩, ⟨#[97, 61, 49]⟩] := by decide +kernel
  have hr : prsRun (words 32 ⟨#[97, 61, 49, 32, 97, 61, 49]⟩) [] [] = ([], [], 8) := by
    rw [hw, prs_go (by rw [partA]) (by rw [partA]; decide +kernel), partA, prs_dup (by rw [partA]) (by rw [partA]; decide +kernel)]
  unfold parseT
  rw [hr, if_neg (by decide), if_neg (by rintro ⟨h, _⟩; revert h; decide)]
theorem awkGet : getT [xA, xB2] [1, 7] ⟨#[98, 91, 50, 93]⟩ = (7, true) := by decide +kernel
theorem awkValid : txV [xA, xB2] [1, 7] = true := by decide +kernel
theorem awkJoin : joinP ((prs [xA, xB2] [1, 7]).map pstr) = [97, 61, 49, 32, 98, 91, 50, 93, 61, 55] := by
  have h1 : fmtS 1 = ⟨#[49]⟩ := fmt_one (i := 1) (by decide)
  have h7 : fmtS 7 = ⟨#[55]⟩ := fmt_one (i := 7) (by decide)
  have : (prs [xA, xB2] [1, 7]).map pstr = [⟨#[97, 61, 49]⟩, ⟨#[98, 91, 50, 93, 61, 55]⟩] := by
    show [pstr (xA, 1), pstr (xB2, 7)] = _
    unfold pstr
    rw [h1, h7]
    decide +kernel
  rw [this]
  decide +kernel
theorem awkPrint : printT [xA, xB2] [1, 7] = ⟨#[97, 61, 49, 32, 98, 91, 50, 93, 61, 55]⟩ := by
  unfold printT
  rw [if_pos awkValid, awkJoin]
theorem awkDiff : difT [⟨#[97]⟩, ⟨#[98]⟩] [1, 2] [⟨#[98]⟩, ⟨#[99]⟩] [3, 4] = [⟨#[97]⟩, ⟨#[98]⟩, ⟨#[99]⟩] := by decide +kernel
end
open Go.RowKit
set_option linter.unusedVariables false
set_option linter.unusedSimpArgs false

theorem SL.of_cells2 {w : World} {g : Nat} {a b : ByteArray} {t : TypeId} (h : Box w g #[.string a, .string b] t) : SL w (.slice (some ⟨g, 0, none⟩) 2 2) [a, b] := SL.of_box h [a, b] 2 (by simp) rfl
theorem IL.of_cells2 {w : World} {g : Nat} {a b : Int} {t : TypeId} (h : Box w g #[.int .i64 a, .int .i64 b] t) : IL w (.slice (some ⟨g, 0, none⟩) 2 2) [a, b] := by
  refine ⟨_, 2, rfl, by simp, fun _ => ⟨⟨g, 0, none⟩, rfl, h.lt, fun j hj => ?_⟩⟩
  rw [show (⟨g, 0, none⟩ : Addr).add j = ⟨g, j, none⟩ by unfold Addr.add; split <;> simp_all]
  match j, hj with
  | 0, _ => exact h.at_ 0 _ rfl
  | 1, _ => exact h.at_ 1 _ rfl
theorem SL.of_cells3 {w : World} {g : Nat} {a b c : ByteArray} {t : TypeId} (h : Box w g #[.string a, .string b, .string c] t) : SL w (.slice (some ⟨g, 0, none⟩) 3 3) [a, b, c] := SL.of_box h [a, b, c] 3 (by simp) rfl
theorem awkSz : ∀ s ∈ [xA, xB2], s.size ≤ 2000000 := by decide +kernel
set_option maxRecDepth 100000 in
set_option maxHeartbeats 8000000 in
theorem lawAwake (w : World) (hk : KW w) (hm : MLen w) (ht : Tab w) :
    Calls Tryz.prog 5 #[] w fun e w' => e = .returned (.bool true) ∧ Below w.heap.size w w' := by
  have HK := Lib.hid hk
  have HM := Lib.hid hm
  have HT := Lib.hid ht
  have C1 := Lib.hid (fun w h h' => txnParse ⟨#[97, 61, 49, 32, 98, 91, 50, 93, 61, 55]⟩ w (by decide) h h')
  have C2 := Lib.hid (fun w h h' => txnParse ⟨#[97, 61, 49, 32, 97, 61, 49]⟩ w (by decide) h h')
  unfold RET at C1 C2
  rw [awkParse] at C1
  rw [awkDup] at C2
  simp only at C1 C2
  have C3 : Hid (∀ W v1 v2, SL W v1 [xA, xB2] → IL W v2 [1, 7] → Calls Tryz.prog 14 #[.agg #[v1, v2], .string ⟨#[98, 91, 50, 93]⟩] W fun e w' => e = .returned (.tuple #[.int .i64 7, .bool true]) ∧ Below W.heap.size W w') :=
    Lib.hid fun W v1 v2 h1 h2 => by have := txnGet W v1 v2 [xA, xB2] [1, 7] ⟨#[98, 91, 50, 93]⟩ h1 h2 (by decide) (by decide); rw [awkGet] at this; exact this
  have C4 : Hid (∀ W v1 v2, SL W v1 [xA, xB2] → IL W v2 [1, 7] → KW W → MLen W → Calls Tryz.prog 16 #[.agg #[v1, v2]] W fun e w' => e = .returned (.bool true) ∧ Below W.heap.size W w') :=
    Lib.hid fun W v1 v2 h1 h2 hk hm => by have := txnValid W v1 v2 [xA, xB2] [1, 7] h1 h2 awkSz (by decide) (by decide) hk hm; rw [awkValid] at this; exact this
  have C5 : Hid (∀ W v1 v2, SL W v1 [xA, xB2] → IL W v2 [1, 7] → KW W → MLen W → Tab W → Calls Tryz.prog 6 #[.agg #[v1, v2]] W fun e w' => e = .returned (.string ⟨#[97, 61, 49, 32, 98, 91, 50, 93, 61, 55]⟩) ∧ Below W.heap.size W w') :=
    Lib.hid fun W v1 v2 h1 h2 hk hm ht => by have := txnPrint W v1 v2 [xA, xB2] [1, 7] h1 h2 awkSz (by decide) (by decide) (fun _ => by rw [awkJoin]; decide) hk hm ht; rw [awkPrint] at this; exact this
  have C6 : Hid (∀ W v1 v2 v3 v4, SL W v1 [⟨#[97]⟩, ⟨#[98]⟩] → IL W v2 [1, 2] → SL W v3 [⟨#[98]⟩, ⟨#[99]⟩] → IL W v4 [3, 4] → Calls Tryz.prog 15 #[.agg #[v1, v2], .agg #[v3, v4]] W fun e w' => ∃ v, e = .returned v ∧ (SL w' v [⟨#[97]⟩, ⟨#[98]⟩, ⟨#[99]⟩] ∧ Below W.heap.size W w')) :=
    Lib.hid fun W v1 v2 v3 v4 h1 h2 h3 h4 => by have := txnDiff W v1 v2 v3 v4 [⟨#[97]⟩, ⟨#[98]⟩] [1, 2] [⟨#[98]⟩, ⟨#[99]⟩] [3, 4] h1 h2 h3 h4 (by decide) (by decide) (by decide) (by decide); rw [awkDiff] at this; exact this
  have C7 : Hid (∀ W v1 v3, SL W v1 [⟨#[97]⟩, ⟨#[98]⟩, ⟨#[99]⟩] → SL W v3 [⟨#[97]⟩, ⟨#[98]⟩, ⟨#[99]⟩] → Calls Tryz.prog 17 #[v1, v3] W fun e w' => e = .returned (.bool true) ∧ Below W.heap.size W w') :=
    Lib.hid fun W v1 v3 h1 h3 => by have := lawStrings W v1 v3 [⟨#[97]⟩, ⟨#[98]⟩, ⟨#[99]⟩] [⟨#[97]⟩, ⟨#[98]⟩, ⟨#[99]⟩] h1 h3 (by decide) (by decide); rw [decide_eq_true rfl] at this; exact this
  clear hk hm ht
  go_enter Tryz.func5, Tryz.ntmps5
  go_wp2_with fail
  refine (C1.out _ HK.out HM.out).mono ?_; rintro e w1 ⟨v1, v2, rfl, hs1, hs2, hb⟩
  have HS1 := Lib.hid hs1
  have HS2 := Lib.hid hs2
  have HB := Lib.hid hb
  have hsl := hs1
  have hil := hs2
  obtain ⟨A1, c1, rfl, _, _⟩ := hsl
  obtain ⟨A2, c2, rfl, _, _⟩ := hil
  clear hs1 hs2 hb C1
  simp only [List.length_cons, List.length_nil, Nat.zero_add, Nat.reduceAdd] at HS1 HS2 ⊢
  go_wp2_with fail
  have XT := Lib.hid (box_new (W := w1) (g := w1.heap.size) 25 #[.slice A1 2 c1, .slice A2 2 c2] (by simp))
  have hba := (below_alloc w1 (.cells #[.slice A1 2 c1, .slice A2 2 c2] 25))
  replace HS1 := Lib.hid (HS1.out.below hba)
  replace HS2 := Lib.hid (HS2.out.below hba)
  replace HB := Lib.hid (below_step HB.out hba)
  clear hba
  generalize w1.alloc (.cells #[.slice A1 2 c1, .slice A2 2 c2] 25) = w2 at *
  refine (C3.out _ _ _ HS1.out HS2.out).mono ?_; rintro e w3 ⟨rfl, hb⟩
  replace HS1 := Lib.hid (HS1.out.below hb)
  replace HS2 := Lib.hid (HS2.out.below hb)
  replace XT := Lib.hid (XT.out.below hb)
  replace HB := Lib.hid (below_step HB.out hb)
  clear hb
  go_wp2_with fail
  refine (C2.out _ (HK.out.below HB.out) (HM.out.below HB.out)).mono ?_; rintro e w4 ⟨v3, v4, rfl, hs3, hs4, hb⟩
  replace HS1 := Lib.hid (HS1.out.below hb)
  replace HS2 := Lib.hid (HS2.out.below hb)
  replace XT := Lib.hid (XT.out.below hb)
  replace HB := Lib.hid (below_step HB.out hb)
  clear hb
  obtain ⟨A3, c3, rfl, _, _⟩ := hs3
  obtain ⟨A4, c4, rfl, _, _⟩ := hs4
  go_wp2_with fail
  have XU := Lib.hid (((((box_new (W := w4) (g := w4.heap.size) 25 #[.slice A3 0 c3, .slice A4 0 c4] (by simp)).below (below_alloc _ (.cells #[.string ⟨#[97]⟩, .string ⟨#[98]⟩] 9))).below (below_alloc _ (.cells #[.int .i64 1, .int .i64 2] 3))).below (below_alloc _ (.cells #[.string ⟨#[98]⟩, .string ⟨#[99]⟩] 9))).below (below_alloc _ (.cells #[.int .i64 3, .int .i64 4] 3)))
  have Y1 := Lib.hid ((((box_new (W := (w4.alloc (.cells #[.slice A3 0 c3, .slice A4 0 c4] 25))) (g := w4.heap.size + 1) 9 #[.string ⟨#[97]⟩, .string ⟨#[98]⟩] (by simp)).below (below_alloc _ (.cells #[.int .i64 1, .int .i64 2] 3))).below (below_alloc _ (.cells #[.string ⟨#[98]⟩, .string ⟨#[99]⟩] 9))).below (below_alloc _ (.cells #[.int .i64 3, .int .i64 4] 3)))
  have Y2 := Lib.hid (((box_new (W := ((w4.alloc (.cells #[.slice A3 0 c3, .slice A4 0 c4] 25)).alloc (.cells #[.string ⟨#[97]⟩, .string ⟨#[98]⟩] 9))) (g := w4.heap.size + 1 + 1) 3 #[.int .i64 1, .int .i64 2] (by simp)).below (below_alloc _ (.cells #[.string ⟨#[98]⟩, .string ⟨#[99]⟩] 9))).below (below_alloc _ (.cells #[.int .i64 3, .int .i64 4] 3)))
  have Y3 := Lib.hid ((box_new (W := (((w4.alloc (.cells #[.slice A3 0 c3, .slice A4 0 c4] 25)).alloc (.cells #[.string ⟨#[97]⟩, .string ⟨#[98]⟩] 9)).alloc (.cells #[.int .i64 1, .int .i64 2] 3))) (g := w4.heap.size + 1 + 1 + 1) 9 #[.string ⟨#[98]⟩, .string ⟨#[99]⟩] (by simp)).below (below_alloc _ (.cells #[.int .i64 3, .int .i64 4] 3)))
  have Y4 := Lib.hid (box_new (W := ((((w4.alloc (.cells #[.slice A3 0 c3, .slice A4 0 c4] 25)).alloc (.cells #[.string ⟨#[97]⟩, .string ⟨#[98]⟩] 9)).alloc (.cells #[.int .i64 1, .int .i64 2] 3)).alloc (.cells #[.string ⟨#[98]⟩, .string ⟨#[99]⟩] 9))) (g := w4.heap.size + 1 + 1 + 1 + 1) 3 #[.int .i64 3, .int .i64 4] (by simp))
  have hba := (below_step (below_step (below_step (below_step (below_alloc w4 (.cells #[.slice A3 0 c3, .slice A4 0 c4] 25)) (below_alloc (w4.alloc (.cells #[.slice A3 0 c3, .slice A4 0 c4] 25)) (.cells #[.string ⟨#[97]⟩, .string ⟨#[98]⟩] 9))) (below_alloc ((w4.alloc (.cells #[.slice A3 0 c3, .slice A4 0 c4] 25)).alloc (.cells #[.string ⟨#[97]⟩, .string ⟨#[98]⟩] 9)) (.cells #[.int .i64 1, .int .i64 2] 3))) (below_alloc (((w4.alloc (.cells #[.slice A3 0 c3, .slice A4 0 c4] 25)).alloc (.cells #[.string ⟨#[97]⟩, .string ⟨#[98]⟩] 9)).alloc (.cells #[.int .i64 1, .int .i64 2] 3)) (.cells #[.string ⟨#[98]⟩, .string ⟨#[99]⟩] 9))) (below_alloc ((((w4.alloc (.cells #[.slice A3 0 c3, .slice A4 0 c4] 25)).alloc (.cells #[.string ⟨#[97]⟩, .string ⟨#[98]⟩] 9)).alloc (.cells #[.int .i64 1, .int .i64 2] 3)).alloc (.cells #[.string ⟨#[98]⟩, .string ⟨#[99]⟩] 9)) (.cells #[.int .i64 3, .int .i64 4] 3)))
  replace HS1 := Lib.hid (HS1.out.below hba)
  replace HS2 := Lib.hid (HS2.out.below hba)
  replace XT := Lib.hid (XT.out.below hba)
  replace HB := Lib.hid (below_step HB.out hba)
  clear hba
  generalize ((((w4.alloc (.cells #[.slice A3 0 c3, .slice A4 0 c4] 25)).alloc (.cells #[.string ⟨#[97]⟩, .string ⟨#[98]⟩] 9)).alloc (.cells #[.int .i64 1, .int .i64 2] 3)).alloc (.cells #[.string ⟨#[98]⟩, .string ⟨#[99]⟩] 9)).alloc (.cells #[.int .i64 3, .int .i64 4] 3) = w5 at *
  refine (C6.out _ _ _ _ _ (SL.of_cells2 Y1.out) (IL.of_cells2 Y2.out) (SL.of_cells2 Y3.out) (IL.of_cells2 Y4.out)).mono ?_; rintro e w6 ⟨v5, rfl, hs5, hb⟩
  clear Y1 Y2 Y3 Y4 XU
  replace HS1 := Lib.hid (HS1.out.below hb)
  replace HS2 := Lib.hid (HS2.out.below hb)
  replace XT := Lib.hid (XT.out.below hb)
  replace HB := Lib.hid (below_step HB.out hb)
  clear hb
  have HS5 := Lib.hid hs5
  obtain ⟨A5, c5, rfl, _, _⟩ := hs5
  simp only [List.length_cons, List.length_nil, Nat.zero_add, Nat.reduceAdd] at HS5 ⊢
  have XT_0 := XT.out.at_ 0 _ rfl
  have XT_1 := XT.out.at_ 1 _ rfl
  go_wp2_with fail
  clear XT_0 XT_1
  refine (C4.out _ _ _ HS1.out HS2.out (HK.out.below HB.out) (HM.out.below HB.out)).mono ?_; rintro e w7 ⟨rfl, hb⟩
  replace HS1 := Lib.hid (HS1.out.below hb)
  replace HS2 := Lib.hid (HS2.out.below hb)
  replace XT := Lib.hid (XT.out.below hb)
  replace HS5 := Lib.hid (HS5.out.below hb)
  replace HB := Lib.hid (below_step HB.out hb)
  clear hb
  have XT_0 := XT.out.at_ 0 _ rfl
  have XT_1 := XT.out.at_ 1 _ rfl
  go_wp2_with fail
  clear XT_0 XT_1
  refine (C5.out _ _ _ HS1.out HS2.out (HK.out.below HB.out) (HM.out.below HB.out) (HT.out.below HB.out)).mono ?_; rintro e w8 ⟨rfl, hb⟩
  replace HS1 := Lib.hid (HS1.out.below hb)
  replace HS2 := Lib.hid (HS2.out.below hb)
  replace XT := Lib.hid (XT.out.below hb)
  replace HS5 := Lib.hid (HS5.out.below hb)
  replace HB := Lib.hid (below_step HB.out hb)
  clear hb
  go_wp2_with fail
  have Y5 := Lib.hid (box_new (W := w8) (g := w8.heap.size) 9 #[.string ⟨#[97]⟩, .string ⟨#[98]⟩, .string ⟨#[99]⟩] (by simp))
  have hba := (below_alloc w8 (.cells #[.string ⟨#[97]⟩, .string ⟨#[98]⟩, .string ⟨#[99]⟩] 9))
  replace HS1 := Lib.hid (HS1.out.below hba)
  replace HS2 := Lib.hid (HS2.out.below hba)
  replace XT := Lib.hid (XT.out.below hba)
  replace HS5 := Lib.hid (HS5.out.below hba)
  replace HB := Lib.hid (below_step HB.out hba)
  clear hba
  generalize w8.alloc (.cells #[.string ⟨#[97]⟩, .string ⟨#[98]⟩, .string ⟨#[99]⟩] 9) = w9 at *
  refine (C7.out _ _ _ HS5.out (SL.of_cells3 Y5.out)).mono ?_; rintro e wa ⟨rfl, hb⟩
  clear Y5
  replace HB := Lib.hid (below_step HB.out hb)
  clear hb
  go_wp2_with fail
  go_ret
  exact ⟨rfl, HB.out⟩
end

section
open Go.RowKit Go.WideShapes Go.ChangeShapes

section
variable {H : Type} {enc : TypeId × Value → H} {P : Program}
theorem post_of_below {f : Func} {s : ChangeSpec} {apart fresh handsOn again : Bool} {W W' : World} {args : Array Value} {v : Value} {ds gs : List (DataW H)} {before pa pv : List MemPlace}
    (hW : DataW.Whole enc P f.params.toList s.vars apart W args.toList ds gs before)
    (hres : ∀ (b : Nat) (sp : Nat → Bool) (hd : Bool), DataW.TrodAll enc P W' b sp hd f.resultTypes.toList (v.resultList f.resultTypes.size) (s.fn H (ds ++ gs)).results [])
    (hargs : ∀ sp : Nat → Bool, (∀ p ∈ before, sp p.block = true) → DataW.TrodAll enc P W' 0 sp true f.params.toList args.toList (s.fn H (ds ++ gs)).args pa)
    (hvars : ∀ sp : Nat → Bool, (∀ p ∈ before, sp p.block = true) → DataW.TrodVars enc P W' sp s.vars (s.fn H (ds ++ gs)).vars pv)
    (hps : before = pa ++ pv) (hb : Below W.heap.size W W')
    (hok : ∀ (j : Nat) (t : TypeId) (r : Value), f.resultTypes[j]? = some t → (v.resultList f.resultTypes.size)[j]? = some r → Value.okWide P W' .any 0 t r) :
    s.post enc P f apart fresh handsOn again W args v W' := by
  have hlt : ∀ p ∈ before, p.block < W.heap.size := fun p hp => hW.lt p hp
  have hold : ∀ p ∈ before, (fun b => decide (b < W.heap.size)) p.block = true := fun p hp => by simpa using hlt p hp
  refine ⟨ds, gs, before, [], pa, pv, hW, hres _ _ _, hargs _ hold, hvars _ hold, World.keptBut_mono (fun p hp => ⟨hp, ?_⟩) (hb.frame (· ∈ before)), fun _ => ?_⟩
  · rw [hps, List.mem_append] at hp
    exact Or.inr hp
  · obtain ⟨_, _, _, _, _, hz, hn⟩ := hW
    refine ⟨hok, _, _, ([] ++ pa) ++ pv, ⟨[] ++ pa, pv, trodAll_append (hargs _ (fun _ _ => rfl)) (hres _ _ _), hvars _ (fun _ _ => rfl), rfl, ?_, ?_⟩, ?_⟩
    · intro b off hp
      have hin : MemPlace.cell b off ∈ before := by rw [hps]; simpa using hp
      rw [hb.frozen (hlt _ hin)]
      exact hz b off hin
    · intro ha
      have := hn ha
      rw [hps] at this
      simpa using this
    · intro p hp _
      rw [hps]
      simpa using hp
/-- The same where the arguments are read again through 'Below' (the row does not say 'again'). -/
theorem post_of_below3 {f : Func} {s : ChangeSpec} {apart fresh handsOn : Bool} {W W' : World} {args : Array Value} {v : Value} {ds gs : List (DataW H)} {before pa : List MemPlace}
    (hW : DataW.Whole enc P f.params.toList s.vars apart W args.toList ds gs before)
    (hres : ∀ (b : Nat) (sp : Nat → Bool) (hd : Bool), DataW.TrodAll enc P W' b sp hd f.resultTypes.toList (v.resultList f.resultTypes.size) (s.fn H (ds ++ gs)).results [])
    (hargs : DataW.TrodAll enc P W' 0 (fun b => decide (b < W.heap.size)) true f.params.toList args.toList (s.fn H (ds ++ gs)).args pa)
    (hvars : ∀ sp : Nat → Bool, DataW.TrodVars enc P W' sp s.vars (s.fn H (ds ++ gs)).vars [])
    (hps : before = pa ++ []) (hb : Below W.heap.size W W') :
    s.post enc P f apart fresh handsOn false W args v W' := by
  refine ⟨ds, gs, before, [], pa, [], hW, hres _ _ _, hargs, hvars _, World.keptBut_mono (fun p hp => ⟨hp, ?_⟩) (hb.frame (· ∈ before)), fun h => by cases h⟩
  rw [hps, List.mem_append] at hp
  exact Or.inr hp
end

theorem laid_mem {P : Program} {w : World} : ∀ {laid : List (String × DataW Unit)} {ps : List MemPlace}, DataW.LaidVars P w laid ps → ∀ x ∈ laid,
    ∃ g t cs fuel p, P.globalNamed x.1 = some g ∧ (P.globals[g]?).map (·.type) = some t ∧ w.var? P x.1 = some cs ∧ DataW.trod (fun _ => ()) P w 0 (fun _ => true) false fuel t cs.toList = some (x.2, p)
  | [], _, _, x, hx => by cases hx
  | (n, d) :: r, ps, ⟨g, t, cs, fuel, p, q, h1, h2, h3, h4, h5, _⟩, x, hx => by
    rcases List.mem_cons.1 hx with rfl | hx
    · exact ⟨g, t, cs, fuel, p, h1, h2, h3, h4⟩
    · exact laid_mem h5 x hx

theorem tab_of_laid {W : World} (h : laidMetH Tryz.prog [("math/bits.deBruijn32tab", Rows.laid_math_bits_deBruijn32tab), ("math/bits.deBruijn64tab", Rows.laid_math_bits_deBruijn64tab), ("internal/strconv.uint64pow10", Rows.laid_internal_strconv_uint64pow10), ("unicode/utf8.acceptRanges", Rows.laid_unicode_utf8_acceptRanges), ("testbench/lexer.keywords", Rows.laid_testbench_lexer_keywords), ("unicode/utf8.first", Rows.laid_unicode_utf8_first)] W) : Tab W := by
  rw [MakeChecks.laidMetH_plain _ _ _ (by kernel_rfl)] at h
  obtain ⟨ps, hl, _⟩ := h
  obtain ⟨g, t, cs, fuel, p, hg, hty, hv, hd⟩ := laid_mem hl ("internal/strconv.uint64pow10", Rows.laid_internal_strconv_uint64pow10) (by simp)
  obtain rfl := Option.some.inj (gPow.symm.trans hg)
  have hty' : (Tryz.prog.globals[2]?).map (·.type) = some 111 := by kernel_rfl
  obtain rfl := Option.some.inj (hty'.symm.trans hty)
  unfold Tab Lib.TabIs
  rw [hv, ← Lib.cells_of_tab (zs := Lib.pow10Tab) (k := .u64) Tryz.underlying111 Tryz.underlying93 (by kernel_rfl) (by kernel_rfl) hd]
end

section
variable {H : Type} {enc : TypeId × Value → H}

theorem handed_and_shaped {a : Assume} {C : Checked} {os : Os} {f : FuncId} {fn : Func} {s : ChangeSpec} {conds : List PathCond} {apart fresh handsOn again : Bool} {X : World → Array Value → Prop}
    (hX : ∀ (w w' : World) (args : Array Value), w.heap = w'.heap → X w args → X w' args)
    (own : ownKnob C.prog.godebug = none) (started : os.Started) (noInit : C.prog.inits.idxOf? f = none) (hfn : C.prog.funcs[f]? = some fn)
    (witness : ∃ (w : World) (tape : Tape) (i : Input), w.os = os ∧ (w.forCall tape i).Shaped C.prog ∧ i.vars = [] ∧ Input.okWide C.prog (w.forCall tape i) .any w.heap.size f i ∧
      ((s.pre enc C.prog fn conds apart (w.forCall tape i).memory i.args ∧ X (w.forCall tape i).memory i.args) ∧ sizedMet enc C.prog fn (OpenSpec.ofChange s) apart (w.forCall tape i).memory i.args) ∧ a.holds C.prog (lone (Frame.enter C.prog f i.args .normal) [] (w.forCall tape i)))
    (contract : ∀ (W : World) (base : Nat) (args : Array Value) (ds gs : List (DataW H)) (before : List MemPlace),
      (∀ (j : Nat) t v, fn.params[j]? = some t → args[j]? = some v → Value.okWide C.prog W .any base t v) →
      DataW.Whole enc C.prog fn.params.toList s.vars apart W args.toList ds gs before →
      conds.all (PathCond.test C.prog ⟨fn.params.toList, ds, s.plain.varTypes C.prog, gs⟩) = true →
      (DataW.weightsEach C.prog (fn.params.toList ++ s.plain.varTypes C.prog) (ds ++ gs)).all (· ≤ reachBytes) = true → X W args → W.ShapedOpen C.prog →
      a.holds C.prog (lone (Frame.enter C.prog f args .normal) [] W) →
      Calls C.prog f args W fun e W' => ∃ v, e = .returned v ∧ s.post enc C.prog fn apart fresh handsOn again W args v W') :
    ReturnsInHanded a C os f .any (fun w args => (s.pre enc C.prog fn conds apart w args ∧ X w args) ∧ sizedMet enc C.prog fn (OpenSpec.ofChange s) apart w args) (s.post enc C.prog fn apart fresh handsOn again) := by
  refine returnsInHanded_of_calls own started noInit witness ?_
  intro w tape i _ hsh _ hok hpre hholds
  obtain ⟨_, _, _, fn', hfn', _, _, _, _, hval⟩ := hok
  have e : fn' = fn := Option.some.inj (hfn'.symm.trans hfn)
  subst e
  obtain ⟨⟨⟨ds, gs, before, hw, hc⟩, hx⟩, hz⟩ := hpre
  have hw' := DataW.Whole.of_heap (w' := w.forCall tape i) (by rfl) hw
  refine (contract (w.forCall tape i) w.heap.size i.args ds gs before hval hw' hc (hz.weights hw) (hX _ _ _ (by rfl) hx) hsh hholds).mono fun e W' ⟨v, he, hp⟩ => ?_
  subst he
  exact ChangeSpec.post_blind hp
end

section
open Go.RowKit Go.WideShapes Go.ChangeShapes Go.Deep
set_option linter.unusedVariables false
set_option linter.unusedSimpArgs false

section
variable {H : Type} {enc : TypeId × Value → H} {P : Program} {w : World} {base : Nat} {spare : Nat → Bool} {held : Bool}
/-- A struct by value, whatever the number of its one-cell fields: its cells, and each field's own reading. -/
theorem open_struct {r : Reach} {b0 : Nat} {t : TypeId} {fs : Array Field} {v : Value} {d : DataW H} {p : List MemPlace} (hs : P.underlying t = some (.struct fs)) (hone : oneCellFields P fs = true) (hC : P.cellsOf t = fs.size)
    (hv : Value.okWide P w r b0 t v) (h : DataW.Trod enc P w base spare held t v d p) :
    ∃ (cs : List Value) (ys : List (DataW H × List MemPlace)) (n : Nat), v = .agg cs.toArray ∧ d = .agg (ys.map (·.1)) ∧ p = ys.flatMap (·.2) ∧ cs.length = fs.size ∧ ys.length = fs.size ∧
      ∀ (j : Nat) (f : Field), fs[j]? = some f → ∃ c y, cs[j]? = some c ∧ ys[j]? = some y ∧ DataW.trod enc P w base spare held n f.type [c] = some y := by
  obtain ⟨cs, rfl, hsz⟩ := okWide_struct hs hv
  obtain ⟨fuel, hf⟩ := h
  obtain ⟨ys, n, _, hx, _, hlen, hg⟩ := DataW.trod_struct hs hf
  simp only [Prod.mk.injEq] at hx
  refine ⟨cs.toList, ys, n, by simp, hx.1, hx.2, by rw [Array.length_toList, hsz, hC], hlen, fun j f hj => ?_⟩
  obtain ⟨ho, hk⟩ := hone_of hone j f hj
  have hjl : j < fs.size := (Array.getElem?_eq_some_iff.1 hj).1
  have hc : j < cs.toList.length := by rw [Array.length_toList, hsz, hC]; exact hjl
  have h1 := hg j f hj
  rw [ho, hk] at h1
  have e1 : ((Value.agg cs).cells.toList.drop j).take 1 = [cs.toList[j]] := by
    show (cs.toList.drop j).take 1 = _
    rw [List.drop_eq_getElem_cons hc]; rfl
  rw [e1] at h1
  have hy : ys[j]? = some (ys[j]'(by omega)) := List.getElem?_eq_getElem (by omega)
  exact ⟨_, _, List.getElem?_eq_getElem hc, hy, h1.trans hy⟩
end
section
variable {H : Type} {enc : TypeId × Value → H} {w : World} {base : Nat} {spare : Nat → Bool} {held : Bool}
theorem sl_of_trod {fuel : Nat} {c : Value} {x : DataW H × List MemPlace} (h : DataW.trod enc Tryz.prog w base spare held fuel 22 [c] = some x) :
    ∃ ns, SL w c ns ∧ ns.length ≤ 9223372036854775807 ∧ ∀ s ∈ ns, s.size ≤ 9223372036854775807 := by
  rcases ChangeShapes.open_strings Tryz.underlying22 Tryz.underlying9 (by kernel_rfl) h with ⟨h0, _⟩ | ⟨a, len, cap, ss, h0, _, hlc, hcm, hsl, _, hcell, hsz⟩
  · obtain rfl : c = .slice none 0 0 := by simpa using h0
    exact ⟨[], SL.nil w, by simp, by simp⟩
  · obtain rfl : c = .slice (some a) len cap := by simpa using h0
    have hle : len ≤ ss.length := by rw [hsl]; split <;> omega
    have hl : (ss.take len).length = len := by rw [List.length_take]; omega
    refine ⟨ss.take len, ⟨some a, cap, by rw [hl], by omega, fun hp => ⟨a, rfl, ?_, fun j hj => ?_⟩⟩, by rw [hl]; unfold maxLen at hcm; omega, fun s hs => hsz s (List.mem_of_mem_take hs)⟩
    · have := hcell 0 (by omega)
      have := World.block_lt_of_cell? _ _ this
      rwa [block_of_add] at this
    · rw [hcell j (by omega)]
      simp only [List.getD_eq_getElem?_getD]
      rw [List.getElem?_take_of_lt (by omega)]
      rfl
theorem il_of_trod {fuel : Nat} {c : Value} {x : DataW H × List MemPlace} (h : DataW.trod enc Tryz.prog w base spare held fuel 23 [c] = some x) :
    ∃ zs, IL w c zs ∧ zs.length ≤ 9223372036854775807 := by
  rcases ChangeShapes.open_ints Tryz.underlying23 Tryz.underlying3 (by kernel_rfl) h with ⟨h0, _⟩ | ⟨a, len, cap, ss, h0, _, hlc, hcm, hsl, _, hcell, _⟩
  · obtain rfl : c = .slice none 0 0 := by simpa using h0
    exact ⟨[], IL.nil w, by simp⟩
  · obtain rfl : c = .slice (some a) len cap := by simpa using h0
    have hle : len ≤ ss.length := by rw [hsl]; split <;> omega
    have hl : (ss.take len).length = len := by rw [List.length_take]; omega
    refine ⟨ss.take len, ⟨some a, cap, by rw [hl], by omega, fun hp => ⟨a, rfl, ?_, fun j hj => ?_⟩⟩, by rw [hl]; unfold maxLen at hcm; omega⟩
    · have := hcell 0 (by omega)
      have := World.block_lt_of_cell? _ _ this
      rwa [block_of_add] at this
    · rw [hcell j (by omega)]
      simp only [List.getD_eq_getElem?_getD]
      rw [List.getElem?_take_of_lt (by omega)]
end
set_option maxRecDepth 100000 in
/-- An argument that is a transaction. -/
theorem arg_txn {H : Type} {enc : TypeId × Value → H} {W : World} {v : Value} {d : DataW H} {p : List MemPlace} {base : Nat} (h : DataW.Trod enc Tryz.prog W 0 (fun _ => true) true 25 v d p) (hv : Value.okWide Tryz.prog W .any base 25 v) :
    ∃ (v1 v2 : Value) (ns : List ByteArray) (zs : List Int), v = .agg #[v1, v2] ∧ SL W v1 ns ∧ IL W v2 zs ∧ ns.length ≤ 9223372036854775807 ∧ zs.length ≤ 9223372036854775807 ∧ ∀ s ∈ ns, s.size ≤ 9223372036854775807 := by
  obtain ⟨cs, ys, n, rfl, rfl, rfl, hcl, hyl, hf⟩ := open_struct Tryz.underlying25 (by kernel_rfl) (by kernel_rfl) hv h
  obtain ⟨c0, y0, e0, f0, h0⟩ := hf 0 _ rfl
  obtain ⟨c1, y1, e1, f1, h1⟩ := hf 1 _ rfl
  obtain rfl : cs = [c0, c1] := by
    match cs, hcl with
    | [_, _], _ => simp at e0 e1; rw [e0, e1]
  obtain ⟨ns, hs, hl, hz⟩ := sl_of_trod h0
  obtain ⟨zs, hi, hm⟩ := il_of_trod h1
  exact ⟨c0, c1, ns, zs, rfl, hs, hi, hl, hm, hz⟩

theorem strs_inj {H : Type} : ∀ {a b : List ByteArray}, (strs a : List (DataW H)) = strs b → a = b
  | [], [], _ => rfl
  | [], _ :: _, h => by simp [strs] at h
  | _ :: _, [], h => by simp [strs] at h
  | x :: a, y :: b, h => by
    simp only [strs, List.map_cons, List.cons.injEq, DataW.lit.injEq, Lit.string.injEq] at h
    have h2 : (strs a : List (DataW H)) = strs b := h.2
    rw [strs_inj h2, ba_eq h.1]
set_option maxRecDepth 100000 in
theorem kw_of_laid {W : World} (h : laidMetH Tryz.prog [("math/bits.deBruijn32tab", Rows.laid_math_bits_deBruijn32tab), ("math/bits.deBruijn64tab", Rows.laid_math_bits_deBruijn64tab), ("internal/strconv.uint64pow10", Rows.laid_internal_strconv_uint64pow10), ("unicode/utf8.acceptRanges", Rows.laid_unicode_utf8_acceptRanges), ("testbench/lexer.keywords", Rows.laid_testbench_lexer_keywords), ("unicode/utf8.first", Rows.laid_unicode_utf8_first)] W) : KW W := by
  rw [MakeChecks.laidMetH_plain _ _ _ (by kernel_rfl)] at h
  obtain ⟨ps, hl, _⟩ := h
  obtain ⟨g, t, cs, fuel, p, hg, hty, hv, hd⟩ := laid_mem hl ("testbench/lexer.keywords", Rows.laid_testbench_lexer_keywords) (by simp)
  have gk : Tryz.prog.globalNamed "testbench/lexer.keywords" = some 0 := by kernel_rfl
  obtain rfl := Option.some.inj (gk.symm.trans hg)
  have hty' : (Tryz.prog.globals[0]?).map (·.type) = some 22 := by kernel_rfl
  obtain rfl := Option.some.inj (hty'.symm.trans hty)
  rcases ChangeShapes.open_strings Tryz.underlying22 Tryz.underlying9 (by kernel_rfl) hd with ⟨_, h0⟩ | ⟨a, len, cap, ss, h0, _, hlc, hcm, hsl, hx, hcell, hsz⟩
  · exact absurd (Prod.mk.inj h0).1 (by unfold Rows.laid_testbench_lexer_keywords; intro h; cases h)
  · have hx1 := (Prod.mk.inj hx).1
    have hk : (Rows.laid_testbench_lexer_keywords : DataW Unit) = .slice (strs keyWords) [] := by kernel_rfl
    rw [hk] at hx1
    obtain ⟨e1, e2⟩ := DataW.slice.inj hx1
    have hkw := strs_inj e1
    have hc0 : W.cell? ⟨0, 0, none⟩ = some (.slice (some a) len cap) := by
      have := World.var?_cell gk hv 0
      rw [this]
      have : cs.toList[0]? = some (.slice (some a) len cap) := by rw [h0]; rfl
      simpa using this
    have hl : keyWords.length = len := by
      have : (ss.take len).length = len := by rw [List.length_take, hsl]; simp; omega
      rw [hkw]; exact this
    refine ⟨_, hc0, some a, cap, by rw [hl], by omega, fun hp => ⟨a, rfl, ?_, fun j hj => ?_⟩⟩
    · have := hcell 0 (by rw [hsl]; simp; omega)
      have := World.block_lt_of_cell? _ _ this
      rwa [block_of_add] at this
    · rw [hcell j (by rw [hsl]; simp; omega), hkw]
      simp only [List.getD_eq_getElem?_getD]
      rw [List.getElem?_take_of_lt (by omega)]
      rfl
end
end Go.Proofs.YtbjcbndmafddoaaGreatDoor

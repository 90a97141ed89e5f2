/-
  Contract of txn.Print.
-/
import Derived.Test.YtbjcbndmafddoaaDoorTxnO
import Derived.Lib.ItoaLen
namespace Go.Proofs.YtbjcbndmafddoaaDoor
open Go.RowKit
set_option linter.unusedVariables false
set_option linter.unusedSimpArgs false

def fVal (j : Nat) (D : List Nat) (v : Value) : FOp := ⟨j, D, fun u => u = v, fun u w => u = v⟩
theorem fVal_st (j : Nat) (D : List Nat) (v : Value) : ∀ u w w', (fVal j D v).Φ u w → Below w.heap.size w w' → (fVal j D v).Φ u w' := fun u w w' h _ => h
theorem fVal_kn (j : Nat) (D : List Nat) (v : Value) : (∀ u w, (fVal j D v).Φ u w → (fVal j D v).S u) ∧ ∃ u, (fVal j D v).S u := ⟨fun u w h => h, v, rfl⟩
theorem fmt_sz (n : Int) (h0 : 0 ≤ n) (h1 : n ≤ 65535) : (fmtS n).size ≤ 21 := by
  have := Lib.itoa_length_le n (by omega) (by omega)
  unfold fmtS
  rw [Lib.size_eq]; simpa using this
theorem prs_sz {ns : List ByteArray} {zs : List Int} (h : ∀ s ∈ ns, s.size ≤ 2000000) {k : Nat} (hk : k < (prs ns zs).length) : ((prs ns zs).getD k pr0).1.size ≤ 2000000 := by
  have hl := prs_len ns zs
  have hkn : k < ns.length := by omega
  have hkz : k < zs.length := by omega
  rw [prs_get ns zs k hkn hkz]
  exact h _ (getD_mem ⟨#[]⟩ hkn)
/-- The text of a pair. -/
def pstr (p : Pr) : ByteArray := (p.1 ++ ⟨#[61]⟩) ++ fmtS p.2
def joinP (l : List ByteArray) : List UInt8 := Lib.join (l.map (·.data.toList)) [32]
def printT (ns : List ByteArray) (zs : List Int) : ByteArray := if txV ns zs = true then ⟨(joinP ((prs ns zs).map pstr)).toArray⟩ else ⟨#[]⟩
theorem joinCall (w : World) (base : Nat) (v : Value) (xs : List ByteArray) (n : Nat) (h : w.ownsRow base 9 1 v n (scells xs)) (hn : n ≤ 140737488355328) (hj : (joinP xs).length ≤ 140737488355328) :
    Calls Tryd.prog 42 #[v, .string ⟨#[32]⟩] w fun e w' => e = .returned (.string ⟨(joinP xs).toArray⟩) ∧ Below w.heap.size w w' := by
  have hl : xs.length = n := by have := h.1; simpa [scells] using this
  have h0 := h
  rcases h.2 with ⟨rfl, h2⟩ | ⟨g, cap, cur, rfl, hg, hh, hnc, _⟩
  · have : xs = [] := List.eq_nil_of_length_eq_zero (by omega)
    subst this
    exact (Tryd.strings_Join_none none 0 ⟨#[32]⟩ w).mono fun e w' ⟨he, hw⟩ => ⟨he, by rw [hw]; exact Below.refl _ _⟩
  · subst hl
    have hlt : g < w.heap.size := by
      rcases Nat.lt_or_ge g w.heap.size with hlt | hge
      · exact hlt
      · rw [Array.getElem?_eq_none hge] at hh; cases hh
    refine Tryd.strings_Join g 0 cap xs ⟨#[32]⟩ w (fun j x hx => ?_) hlt hn (by omega) hj
    have := World.ownsRow.cells h0 (g := g) rfl j (.string x) (by simp [scells, hx])
    rw [show (⟨g, 0, none⟩ : Addr).add j = ⟨g, j, none⟩ by unfold Addr.add; split <;> simp_all] at this
    rw [Nat.zero_add]; exact this
theorem map_snocD {l : List Pr} {k : Nat} (h : k < l.length) : (l.take (k + 1)).map pstr = (l.take k).map pstr ++ [pstr (l.getD k pr0)] := by
  rw [take_snocD _ k pr0 h, List.map_append]; rfl
theorem prs_word {ns : List ByteArray} {zs : List Int} (h : txV ns zs = true) {k : Nat} (hk : k < (prs ns zs).length) : 0 ≤ ((prs ns zs).getD k pr0).2 ∧ ((prs ns zs).getD k pr0).2 ≤ 65535 := by
  have hv : TxV ns zs := of_decide_eq_true h
  have hl := prs_len ns zs
  have hkn : k < ns.length := by omega
  have hkz : k < zs.length := by omega
  rw [prs_get ns zs k hkn hkz]
  have := hv.2.2.2.2 _ (getD_mem 0 hkz)
  exact of_decide_eq_true this

set_option maxRecDepth 100000 in
set_option maxHeartbeats 8000000 in
theorem txnPrint (w : World) (v1 v2 : Value) (ns : List ByteArray) (zs : List Int) (h1 : SL w v1 ns) (h2 : IL w v2 zs) (hsz : ∀ s ∈ ns, s.size ≤ 2000000) (hn : ns.length * 24 ≤ 140737488355328) (hz : zs.length ≤ 9223372036854775807)
    (hj : (joinP ((prs ns zs).map pstr)).length ≤ 140737488355328) (hk : KW w) (hm : MLen w) (ht : Tab w) :
    Calls Tryd.prog 17 #[.agg #[v1, v2]] w fun e w' => e = .returned (.string (printT ns zs)) ∧ Below w.heap.size w w' := by
  have HK := Lib.hid hk
  have HM := Lib.hid hm
  have HT := Lib.hid ht
  obtain ⟨i0, hi, hz0, hz1, hz2⟩ := info_parts istr
  have HI := Lib.hid hi
  have HZ0 := Lib.hid hz0
  have HZ1 := Lib.hid hz1
  have HZ2 := Lib.hid hz2
  have HQ1 := Lib.hid h1
  have HQ2 := Lib.hid h2
  have CV := Lib.hid (fun W h1 h2 h3 h4 => txnValid W v1 v2 ns zs h1 h2 hsz (by omega) hz h3 h4)
  have CP := Lib.hid (fun W h1 h2 => txnPairs W v1 v2 ns zs h1 h2 hn hz)
  have HW := Lib.hid (fun h k h' => @prs_word ns zs h k h')
  have HSP := Lib.hid (fun k h => @prs_sz ns zs hsz k h)
  have HE : Hid (printT ns zs = if txV ns zs = true then ⟨(joinP ((prs ns zs).map pstr)).toArray⟩ else ⟨#[]⟩) := Lib.hid rfl
  have hpl : (prs ns zs).length * 24 ≤ 140737488355328 := by rw [prs_len]; omega
  have CF := Lib.hid (fun z w h0 h1 ht => numFormat z w h0 h1 ht)
  clear hi hz0 hz1 hz2 h1 h2 hk hm ht hsz hn hz
  generalize prs ns zs = ps at *
  generalize printT ns zs = r at *
  cases hv : txV ns zs
  · have HR : Hid (r = ⟨#[]⟩) := Lib.hid (by rw [HE.out, hv]; rfl)
    rw [hv] at CV
    clear hv HE HW hpl hj
    go_enter Tryd.func17, Tryd.ntmps17
    go_wp2_with fail
    have XA := Lib.hid (box_new (W := w) (g := w.heap.size) 25 #[v1, v2] (by simp))
    have HB := Lib.hid (below_alloc w (.cells #[v1, v2] 25))
    generalize w.alloc (.cells #[v1, v2] 25) = w1 at *
    refine (CV.out _ (HQ1.out.below HB.out) (HQ2.out.below HB.out) (HK.out.below HB.out) (HM.out.below HB.out)).mono ?_; rintro e w2 ⟨rfl, hb⟩
    replace XA := Lib.hid (XA.out.below hb)
    replace HB := Lib.hid (below_step HB.out hb)
    clear hb
    go_wp2_with fail
    go_ret
    exact ⟨by rw [HR.out]; rfl, HB.out⟩
  have HR : Hid (r = ⟨(joinP (ps.map pstr)).toArray⟩) := Lib.hid (by rw [HE.out, hv]; rfl)
  replace HW := Lib.hid (HW.out hv)
  rw [hv] at CV
  clear hv HE
  go_enter Tryd.func17, Tryd.ntmps17
  go_wp2_with fail
  have XA := Lib.hid (box_new (W := w) (g := w.heap.size) 25 #[v1, v2] (by simp))
  have HB := Lib.hid (below_alloc w (.cells #[v1, v2] 25))
  generalize w.alloc (.cells #[v1, v2] 25) = w1 at *
  refine (CV.out _ (HQ1.out.below HB.out) (HQ2.out.below HB.out) (HK.out.below HB.out) (HM.out.below HB.out)).mono ?_; rintro e w2 ⟨rfl, hb⟩
  replace XA := Lib.hid (XA.out.below hb)
  replace HB := Lib.hid (below_step HB.out hb)
  clear hb
  have XA_0 := XA.out.at_ 0 _ rfl
  have XA_1 := XA.out.at_ 1 _ rfl
  go_wp2_with fail
  clear XA_0 XA_1
  refine (CP.out _ (HQ1.out.below HB.out) (HQ2.out.below HB.out)).mono ?_; rintro e w3 ⟨v, rfl, hpv, hb⟩
  replace HB := Lib.hid (below_step HB.out hb)
  clear hb
  obtain ⟨A, c, rfl, hc, hp⟩ := hpv
  have HP := Lib.hid hp
  obtain ⟨N, hN⟩ : ∃ N, N = ps.length := ⟨_, rfl⟩
  have HN := Lib.hid hN
  rw [← hN] at hc hpl ⊢
  have HA := Lib.hid HB.out
  have HT3 := Lib.hid (HT.out.below HB.out)
  clear hp hN XA CV CP HQ1 HQ2 HB HT
  go_wp2_with fail
  go_loopw [12, 3] (fun i o wr => ∃ (k : Nat) (v0 : Value), k ≤ N ∧ v0 = o ∧ i = .int .i64 k ∧ wr.ownsRow w3.heap.size 9 1 v0 k (scells ((ps.take k).map pstr)) ∧ Below w3.heap.size w3 wr) (fun i _ _ => N - (intOf i).toNat)
  case atStart => exact ⟨0, _, Nat.zero_le _, rfl, rfl, World.ownsRow_nil _ _ _ _, Below.refl _ _⟩
  case round =>
    obtain ⟨k, v0, hk, rfl, rfl, hown, hb⟩ := hrel
    have HB := Lib.hid hb
    clear hb
    by_cases hlt : k < N
    · have hlt2 : (k : Int) < N := by omega
      have hkn : k < ps.length := by rw [← HN.out]; exact hlt
      obtain ⟨b1, o1, rfl, hb1, hc1⟩ := HP.out (by rw [← HN.out]; omega)
      have q1 := hc1 k hkn
      have hw := HW.out k hkn
      have hsp := HSP.out k hkn
      have HSU : Hid (scells ((ps.take (k + 1)).map pstr) = scells ((ps.take k).map pstr) ++ [.string (pstr (ps.getD k pr0))]) := Lib.hid (by rw [map_snocD hkn, scells_snoc])
      have m1 : wr.cell? ⟨b1, o1 + k * 2, none⟩ = some (.string (ps.getD k pr0).1) := by rw [HB.out.cell (p := ⟨b1, o1 + k * 2, none⟩) hb1]; exact q1.1
      have m2 : wr.cell? ⟨b1, o1 + k * 2 + 1, none⟩ = some (.int .i64 (ps.getD k pr0).2) := by rw [HB.out.cell (p := ⟨b1, o1 + k * 2 + 1, none⟩) hb1]; exact q1.2
      have HOWN := Lib.hid hown
      generalize ps.getD k pr0 = p at *
      obtain ⟨s, z⟩ := p
      simp only [pstr] at HSU m1 m2 hw hsp
      have hfz := fmt_sz z hw.1 hw.2
      have f5 : ¬ 9223372036854775807 < s.size + 1 := by omega
      have f6 : ¬ 9223372036854775807 < (s ++ (⟨#[61]⟩ : ByteArray)).size + (fmtS z).size := by rw [ByteArray.size_append]; show ¬ 9223372036854775807 < s.size + 1 + (fmtS z).size; omega
      have f7 : ¬ 9223372036854775807 < s.size + 1 + (fmtS z).size := by omega
      clear hown hkn q1 hc1
      have hk0 : (0 : Int) ≤ (k : Int) := by omega
      go_wp2_with fail
      clear m1 m2
      replace HOWN := Lib.hid (HOWN.out.alloc (.cells #[.string s, .int .i64 z] 55))
      have XP := Lib.hid (box_new (W := wr) (g := wr.heap.size) 55 #[.string s, .int .i64 z] (by simp))
      have hba := (below_alloc wr (.cells #[.string s, .int .i64 z] 55))
      replace HB := Lib.hid (below_step HB.out hba)
      clear hba
      generalize wr.alloc (.cells #[.string s, .int .i64 z] 55) = w4 at *
      have HT4 := Lib.hid (HT3.out.below HB.out)
      have D4 := Lib.hid (fun w h => numFormat z w (by omega) (by omega) h)
      refine wp_region_gen 9 (Kit.of [fVal 6 [] (.string (fmtS z)), fSlice 8 [] w4.heap.size #[.string ((s ++ ⟨#[61]⟩) ++ fmtS z)] 9]) (by kernel_rfl) (by kernel_rfl) (fun γ => by kernel_rfl) (by kernel_rfl) (Kit.of_stable ?_) (Kit.of_known ?_) ?_
      · intro z hz; simp only [List.mem_cons, List.not_mem_nil, or_false] at hz; rcases hz with rfl | rfl
        · apply fVal_st
        · apply fSlice_st
      · intro z hz; simp only [List.mem_cons, List.not_mem_nil, or_false] at hz; rcases hz with rfl | rfl
        · apply fVal_kn
        · apply fSlice_kn
      intro γ hγ C hC hne
      have e6 : γ 6 = .string (fmtS z) := hγ 6 rfl
      obtain ⟨g8, e8⟩ : ∃ g, γ 8 = .slice (some ⟨g, 0, none⟩) 1 1 := hγ 8 rfl
      have l0 := XP.out.latC (C := C) 0 _ rfl
      have l1 := XP.out.latC (C := C) 1 _ rfl
      simp only [List.take_succ_cons, List.take_zero, List.drop_succ_cons, List.drop_zero]
      iterate 6 (refine wpF_quiet rfl ?_; go_big_quiet_step (fail); refine wpQuiet_nil ?_)
      refine wpF_fresh rfl (freshAt_call (args := #[.int .i64 z]) rfl _ _ _ (run_go Tryd.func41 (by kernel_rfl) (by kernel_rfl)) rfl (by simp [Act.eval]) (fun w' hb hf => (D4.out w' (HT4.out.below hb)).mono fun e w2 ⟨he, h1⟩ => ⟨_, he, rfl, h1⟩)) ?_
      simp only [Nat.zero_add, Nat.reduceAdd, e6]
      go_simp
      iterate 1 (refine wpF_quiet rfl ?_; go_big_quiet_step (fail); refine wpQuiet_nil ?_)
      refine wpF_fresh rfl (freshAt_slice rfl (fun w => by kernel_rfl) (fun w' g hg hx => ⟨g, rfl, hx, hg⟩)) ?_
      simp only [Nat.zero_add, Nat.reduceAdd, e8]
      go_simp
      intro w6 hb hF
      obtain ⟨Y, hgy⟩ := slice_at e8 (hF 8 (by decide) rfl)
      have HY := Lib.hid Y
      replace HOWN := Lib.hid (own_below HOWN.out hb)
      clear l0 l1 hF hγ hC hne e6 e8 Y hgy XP
      replace HB := Lib.hid (below_step HB.out hb)
      clear hb
      go_wp2_with (at_builtin; refine wpList_append_own _ rfl _ _ 22 rfl w3.heap.size 9 i0 (.string ⟨#[]⟩) 1 16 Tryd.underlying22 HI.out HZ0.out HZ1.out HZ2.out rfl (by decide) v0 k (scells ((ps.take k).map pstr)) rfl HOWN.out ⟨g8, 0, none⟩ 1 1 [.string ((s ++ ⟨#[61]⟩) ++ fmtS z)] rfl rfl ?c1 ?c2 ?c3 ?c4 ?c5 ?_)
      case c1 => exact newsB HY.out
      case c2 => intro u hu; simp at hu; subst hu; rfl
      case c3 => unfold maxLen; omega
      case c4 => omega
      case c5 => exact HB.out.size
      intro v' w7 hown7 hgrow _
      have HOWN7 : Hid (w7.ownsRow w3.heap.size 9 1 v' (k + 1) (scells ((ps.take (k + 1)).map pstr))) := Lib.hid (by
        rw [HSU.out, List.map_take]; exact hown7)
      have HB7 := Lib.hid (below_grown0 HB.out HB.out.size (Nat.le_refl _) HOWN.out hgrow)
      clear hown7 hgrow
      go_wp2_with fail
      go_roundw
      case rel => exact ⟨k + 1, v', by omega, rfl, by go_num, HOWN7.out, HB7.out⟩
      case measure => simp [intOf]; omega
    · have hkn : k = N := by omega
      have hlt2 : ¬ (k : Int) < N := by omega
      rw [List.take_of_length_le (by rw [hkn, HN.out]; exact Nat.le_refl _)] at hown
      have CJ := Lib.hid (joinCall wr _ _ _ _ hown (by omega) hj)
      clear hown hkn
      go_wp2_with fail
      refine CJ.out.mono ?_; rintro e w5 ⟨rfl, hb⟩
      replace HB := Lib.hid (below_step HB.out hb)
      clear hb
      go_wp2_with fail
      go_ret
      exact ⟨by rw [HR.out]; rfl, below_step HA.out HB.out⟩

end Go.Proofs.YtbjcbndmafddoaaDoor

/-
  Contracts of Env, of txn and of its reference.
-/
import Derived.Test.YtbjcbndmafddoaaDoorTxnD
import Derived.Test.YtbjcbndmafddoaaDoorGenS
namespace Go.Proofs.YtbjcbndmafddoaaDoor
open Go.RowKit
set_option linter.unusedVariables false
set_option linter.unusedSimpArgs false

/-- The signals of a transaction. -/
def envT (ns : List ByteArray) (zs : List Int) : List Pr := if txV ns zs = true then prs ns zs else []
theorem txv_lens {ns : List ByteArray} {zs : List Int} (h : txV ns zs = true) : ns.length = zs.length ∧ ns.length ≤ 128 := by
  have := of_decide_eq_true h; exact ⟨this.1, this.2.1⟩

set_option maxRecDepth 100000 in
set_option maxHeartbeats 8000000 in
theorem txnEnv (w : World) (v1 v2 : Value) (ns : List ByteArray) (zs : List Int) (h1 : SL w v1 ns) (h2 : IL w v2 zs) (hsz : ∀ s ∈ ns, s.size ≤ 2000000) (hn : ns.length ≤ 9223372036854775807) (hz : zs.length ≤ 9223372036854775807) (hk : KW w) (hm : MLen w) :
    Calls Tryd.prog 19 #[.agg #[v1, v2]] w fun e w' => ∃ v, e = .returned v ∧ (PL w' v (envT ns zs) ∧ Below w.heap.size w w') := by
  obtain ⟨i0, hi, hz0, hz1, hz2⟩ := info_parts isig
  have HI := Lib.hid hi
  have HZ0 := Lib.hid hz0
  have HZ1 := Lib.hid hz1
  have HZ2 := Lib.hid hz2
  have HK := Lib.hid hk
  have HM := Lib.hid hm
  have HQ1 := Lib.hid h1
  have HQ2 := Lib.hid h2
  have CV := Lib.hid (fun W h1 h2 h h' => txnValid W v1 v2 ns zs h1 h2 hsz hn hz h h')
  have hlens := txv_lens (ns := ns) (zs := zs)
  have HE : Hid (envT ns zs = if txV ns zs = true then prs ns zs else []) := Lib.hid rfl
  generalize envT ns zs = ev at *
  have hpl := prs_len ns zs
  cases hv : txV ns zs
  · have HR : Hid (ev = []) := Lib.hid (by rw [HE.out, hv]; rfl)
    rw [hv] at CV
    clear hlens hv HE hpl hi hz0 hz1 hz2 hk hm h1 h2 hsz
    go_enter Tryd.func19, Tryd.ntmps19
    go_wp2_with fail
    have XA := Lib.hid (box_new (W := w) (g := w.heap.size) 25 #[v1, v2] (by simp))
    have HB := Lib.hid (below_alloc w (.cells #[v1, v2] 25))
    generalize w.alloc (.cells #[v1, v2] 25) = w1 at *
    refine (CV.out _ (HQ1.out.below HB.out) (HQ2.out.below HB.out) (HK.out.below HB.out) (HM.out.below HB.out)).mono ?_; rintro e w2 ⟨rfl, hb⟩
    replace XA := Lib.hid (XA.out.below hb)
    replace HB := Lib.hid (below_step HB.out hb)
    clear hb
    go_wp2_with fail
    go_ret
    exact ⟨_, rfl, by rw [HR.out]; exact PL.nil _, HB.out⟩
  have hln := hlens hv
  have CP := Lib.hid (fun W h1 h2 => txnPairs W v1 v2 ns zs h1 h2 (by omega) hz)
  have HR : Hid (ev = prs ns zs) := Lib.hid (by rw [HE.out, hv]; rfl)
  have hplen : (prs ns zs).length ≤ 128 := by omega
  rw [hv] at CV
  generalize prs ns zs = ps at *
  clear hlens hv HE hpl hi hz0 hz1 hz2 hk hm h1 h2 hsz hln
  go_enter Tryd.func19, Tryd.ntmps19
  go_wp2_with fail
  have XA := Lib.hid (box_new (W := w) (g := w.heap.size) 25 #[v1, v2] (by simp))
  have HB := Lib.hid (below_alloc w (.cells #[v1, v2] 25))
  generalize w.alloc (.cells #[v1, v2] 25) = w1 at *
  refine (CV.out _ (HQ1.out.below HB.out) (HQ2.out.below HB.out) (HK.out.below HB.out) (HM.out.below HB.out)).mono ?_; rintro e w2 ⟨rfl, hb⟩
  replace XA := Lib.hid (XA.out.below hb)
  replace HB := Lib.hid (below_step HB.out hb)
  clear hb
  have XA_0 := XA.out.at_ 0 _ rfl
  have XA_1 := XA.out.at_ 1 _ rfl
  go_wp2_with fail
  refine (CP.out _ (HQ1.out.below HB.out) (HQ2.out.below HB.out)).mono ?_; rintro e w3 ⟨v3, rfl, hp, hb⟩
  clear XA_0 XA_1
  replace XA := Lib.hid (XA.out.below hb)
  replace HB := Lib.hid (below_step HB.out hb)
  clear hb
  obtain ⟨A, c, rfl, hc, hs⟩ := hp
  have HS := Lib.hid hs
  obtain ⟨N, hN⟩ : ∃ N, N = ps.length := ⟨_, rfl⟩
  have HN := Lib.hid hN
  rw [← hN] at hplen hc ⊢
  clear hs hN
  go_wp2_with fail
  go_loopw [12, 3] (fun i o wr => ∃ (k : Nat) (v0 : Value), k ≤ N ∧ v0 = o ∧ i = .int .i64 k ∧ wr.ownsRow w3.heap.size 40 2 v0 k (pcells (ps.take k)) ∧ Below w3.heap.size w3 wr) (fun i _ _ => N - (intOf i).toNat)
  case atStart =>
    refine ⟨0, _, Nat.zero_le _, rfl, rfl, World.ownsRow_nil _ _ _ _, Below.refl _ _⟩
  case round =>
    obtain ⟨k, v0, hk, rfl, rfl, hown, hb⟩ := hrel
    have HC := Lib.hid hb
    clear hb
    by_cases hlt : k < N
    · have hlt2 : (k : Int) < N := by omega
      have hkn : k < ps.length := by rw [← HN.out]; exact hlt
      obtain ⟨b, o, rfl, hbl, hcl⟩ := HS.out (by omega)
      obtain ⟨q1, q2⟩ := hcl k hkn
      rw [← HC.out.cell (p := ⟨b, o + k * 2, none⟩) hbl] at q1
      rw [← HC.out.cell (p := ⟨b, o + k * 2 + 1, none⟩) hbl] at q2
      have HOWN := Lib.hid hown
      have HSU := Lib.hid (take_snocD ps k pr0 hkn)
      obtain ⟨⟨s, z⟩, hp⟩ : ∃ p, p = ps.getD k pr0 := ⟨_, rfl⟩
      rw [← hp] at HSU q1 q2
      simp only at q1 q2
      have hbl2 : b < wr.heap.size := Nat.lt_of_lt_of_le hbl HC.out.size
      have hk128 : k < 128 := by omega
      clear hown hkn hcl hp hbl
      go_wp2_with (at_builtin; refine wpList_append_own _ rfl _ _ 37 rfl w3.heap.size 40 i0 (.agg #[.string ⟨#[]⟩, .int .i64 0]) 2 24 Tryd.underlying37 HI.out HZ0.out HZ1.out HZ2.out rfl (by decide) v0 k (pcells (ps.take k)) rfl ((HOWN.out.alloc _).alloc _) ⟨wr.heap.size + 1, 0, none⟩ 1 1 [.string s, .int .i64 z] rfl rfl ?c1 ?c2 ?c3 ?c4 ?c5 ?_)
      case c1 => exact news2b
      case c2 => intro u hu; simp at hu; rcases hu with rfl | rfl <;> rfl
      case c3 => unfold maxLen; omega
      case c4 => omega
      case c5 => have := HC.out.size; simp; omega
      intro v' w5 hown5 hgrow _
      have HOWN5 : Hid (w5.ownsRow w3.heap.size 40 2 v' (k + 1) (pcells (ps.take (k + 1)))) := by
        rw [HSU.out, pcells_append]; exact hown5
      have HC5 := Lib.hid (below_grownB2 HC.out HC.out.size (Nat.le_refl _) HOWN.out hgrow)
      clear hown5 hgrow q1 q2
      go_wp2_with fail
      go_roundw
      case rel => exact ⟨k + 1, v', by omega, rfl, by go_num, HOWN5.out, HC5.out⟩
      case measure => simp [intOf]; omega
    · have hkn : k = N := by omega
      have hlt2 : ¬ (k : Int) < N := by omega
      have HPP : Hid (PL wr v0 ev) := by
        rw [HR.out]
        rw [List.take_of_length_le (by rw [← HN.out]; omega)] at hown
        exact PL.of_own hown
      clear hown hkn
      go_wp2_with fail
      go_ret
      exact ⟨_, rfl, HPP.out, below_step HB.out HC.out⟩

set_option maxRecDepth 100000 in
set_option maxHeartbeats 8000000 in
theorem refEnv (w : World) (v1 v2 : Value) (ns : List ByteArray) (zs : List Int) (h1 : SL w v1 ns) (h2 : IL w v2 zs) (hsz : ∀ s ∈ ns, s.size ≤ 2000000) (hn : ns.length ≤ 9223372036854775807) (hz : zs.length ≤ 9223372036854775807) :
    Calls Tryd.prog 20 #[.agg #[v1, v2]] w fun e w' => ∃ v, e = .returned v ∧ (PL w' v (envT ns zs) ∧ Below w.heap.size w w') := by
  obtain ⟨i0, hi, hz0, hz1, hz2⟩ := info_parts isig
  have HI := Lib.hid hi
  have HZ0 := Lib.hid hz0
  have HZ1 := Lib.hid hz1
  have HZ2 := Lib.hid hz2
  have HQ1 := Lib.hid h1
  have HQ2 := Lib.hid h2
  have CV := Lib.hid (fun W h1 h2 => refValidT W v1 v2 ns zs h1 h2 hsz hn hz)
  have hlens := txv_lens (ns := ns) (zs := zs)
  have HE : Hid (envT ns zs = if txV ns zs = true then prs ns zs else []) := Lib.hid rfl
  generalize envT ns zs = ev at *
  have hpl := prs_len ns zs
  cases hv : txV ns zs
  · have HR : Hid (ev = []) := Lib.hid (by rw [HE.out, hv]; rfl)
    rw [hv] at CV
    clear hlens hv HE hpl hi hz0 hz1 hz2 h1 h2 hsz
    go_enter Tryd.func20, Tryd.ntmps20
    go_wp2_with fail
    have XA := Lib.hid (box_new (W := w) (g := w.heap.size) 25 #[v1, v2] (by simp))
    have HB := Lib.hid (below_alloc w (.cells #[v1, v2] 25))
    generalize w.alloc (.cells #[v1, v2] 25) = w1 at *
    refine (CV.out _ (HQ1.out.below HB.out) (HQ2.out.below HB.out)).mono ?_; rintro e w2 ⟨rfl, hb⟩
    replace XA := Lib.hid (XA.out.below hb)
    replace HB := Lib.hid (below_step HB.out hb)
    clear hb
    go_wp2_with fail
    go_ret
    exact ⟨_, rfl, by rw [HR.out]; exact PL.nil _, HB.out⟩
  have hln := hlens hv
  have HR : Hid (ev = prs ns zs) := Lib.hid (by rw [HE.out, hv]; rfl)
  rw [hv] at CV
  obtain ⟨A1, c1, rfl, hc1, hs1⟩ := h1
  obtain ⟨A2, c2, rfl, hc2, hs2⟩ := h2
  have HS1 := Lib.hid hs1
  have HS2 := Lib.hid hs2
  obtain ⟨N, hN⟩ : ∃ N, N = ns.length := ⟨_, rfl⟩
  have hM : N = zs.length := by rw [hN]; exact hln.1
  have hPL : (prs ns zs).length = N := by rw [hpl, ← hN, ← hM]; omega
  have HPL := Lib.hid hPL
  have HN := Lib.hid hN
  have HMM := Lib.hid hM
  have h128 : N ≤ 128 := by rw [hN]; exact hln.2
  rw [← hN] at hn hc1 HQ1 CV ⊢
  rw [← hM] at hz hc2 HQ2 CV ⊢
  clear hlens hv HE hpl hi hz0 hz1 hz2 hsz hln hs1 hs2 hN hM hPL
  go_enter Tryd.func20, Tryd.ntmps20
  go_wp2_with fail
  have XA := Lib.hid (box_new (W := w) (g := w.heap.size) 25 #[.slice A1 N c1, .slice A2 N c2] (by simp))
  have HB := Lib.hid (below_alloc w (.cells #[.slice A1 N c1, .slice A2 N c2] 25))
  generalize w.alloc (.cells #[.slice A1 N c1, .slice A2 N c2] 25) = w1 at *
  refine (CV.out _ (HQ1.out.below HB.out) (HQ2.out.below HB.out)).mono ?_; rintro e w2 ⟨rfl, hb⟩
  replace XA := Lib.hid (XA.out.below hb)
  replace HB := Lib.hid (below_step HB.out hb)
  clear hb
  go_wp2_with fail
  have HBASE := Lib.hid XA.out.lt
  go_loopw [4, 3] (fun i o wr => ∃ (k : Nat) (v0 : Value), k ≤ N ∧ v0 = o ∧ i = .int .i64 k ∧ wr.ownsRow (w.heap.size + 1) 40 2 v0 k (pcells ((prs ns zs).take k)) ∧ Box wr w.heap.size #[.slice A1 N c1, .slice A2 N c2] 25 ∧ Below w.heap.size w wr) (fun i _ _ => N - (intOf i).toNat)
  case atStart =>
    refine ⟨0, _, Nat.zero_le _, rfl, rfl, World.ownsRow_nil _ _ _ _, XA.out, HB.out⟩
  case round =>
    obtain ⟨k, v0, hk, rfl, rfl, hown, hx, hb⟩ := hrel
    clear XA HB
    have XA := Lib.hid hx
    have HB := Lib.hid hb
    clear hx hb
    by_cases hlt : k < N
    · have hlt2 : (k : Int) < N := by omega
      have hkn : k < ns.length := by rw [← HN.out]; exact hlt
      have hkz : k < zs.length := by rw [← HMM.out]; exact hlt
      obtain ⟨a1, rfl, hr1⟩ := HS1.out (by omega)
      obtain ⟨a2, rfl, hl2, hr2⟩ := HS2.out (by omega)
      have hsu : (prs ns zs).take (k + 1) = (prs ns zs).take k ++ [(ns.getD k ⟨#[]⟩, zs.getD k 0)] := by
        rw [take_snocD _ k pr0 (by rw [HPL.out]; omega), prs_get ns zs k hkn hkz]
      have HSU := Lib.hid hsu
      have q1 : ∀ p : Lat wr, p.w.cell? (a1.add k) = some (.string (ns.getD k ⟨#[]⟩)) := fun p => (hr1.below (below_step HB.out p.h)).cells k hkn
      have q2 : ∀ p : Lat wr, p.w.cell? (a2.add k) = some (.int .i64 (zs.getD k 0)) := fun p => by rw [(below_step HB.out p.h).cell (by rw [block_of_add]; exact hl2)]; exact hr2 k hkz
      have HOWN := Lib.hid hown
      have hk128 : k < 128 := by omega
      have hk0 : (0 : Int) ≤ (k : Int) := by omega
      generalize ns.getD k ⟨#[]⟩ = s at *
      generalize zs.getD k 0 = z at *
      clear hown hsu hkn hkz hr1 hr2 hl2
      have XA_0 := XA.out.at_ 0 _ rfl
      have XA_1 := XA.out.at_ 1 _ rfl
      go_wp2_with fail
      clear XA_0 XA_1
      refine wp_region_gen 13 (Kit.of [fSlice 12 [] wr.heap.size #[.string s, .int .i64 z] 40]) (by kernel_rfl) (by kernel_rfl) (fun γ => by kernel_rfl) (by kernel_rfl) (Kit.of_stable ?_) (Kit.of_known ?_) ?_
      · intro z hz; simp only [List.mem_cons, List.not_mem_nil, or_false] at hz; rcases hz with rfl
        · apply fSlice_st
      · intro z hz; simp only [List.mem_cons, List.not_mem_nil, or_false] at hz; rcases hz with rfl
        · apply fSlice_kn
      intro γ hγ C hC hne
      obtain ⟨g12, e12⟩ : ∃ g, γ 12 = .slice (some ⟨g, 0, none⟩) 1 1 := hγ 12 rfl
      have l0 := XA.out.latC (C := C) 0 _ rfl
      have l1 := XA.out.latC (C := C) 1 _ rfl
      have q3 := fun p : LatC wr C => q1 ⟨p.w, p.h⟩
      have q4 := fun p : LatC wr C => q2 ⟨p.w, p.h⟩
      simp only at q3 q4
      clear q1 q2
      simp only [List.take_succ_cons, List.take_zero, List.drop_succ_cons, List.drop_zero]
      iterate 12 (refine wpF_quiet rfl ?_; go_big_quiet_step (fail); refine wpQuiet_nil ?_)
      refine wpF_fresh rfl (freshAt_slice rfl (fun w => by kernel_rfl) (fun w' g hg hx => ⟨g, rfl, hx, hg⟩)) ?_
      simp only [Nat.zero_add, Nat.reduceAdd, e12]
      go_simp
      intro w6 hb hF
      obtain ⟨Y, hgy⟩ := slice_at e12 (hF 12 (by decide) rfl)
      have HY := Lib.hid Y
      replace HOWN := Lib.hid (own_below HOWN.out hb)
      clear l0 l1 q3 q4 hF hγ hC hne e12 Y hgy
      replace XA := Lib.hid (XA.out.below hb)
      replace HB := Lib.hid (below_step HB.out hb)
      clear hb
      go_wp2_with (at_builtin; refine wpList_append_own _ rfl _ _ 37 rfl (w.heap.size + 1) 40 i0 (.agg #[.string ⟨#[]⟩, .int .i64 0]) 2 24 Tryd.underlying37 HI.out HZ0.out HZ1.out HZ2.out rfl (by decide) v0 k (pcells ((prs ns zs).take k)) rfl HOWN.out ⟨g12, 0, none⟩ 1 1 [.string s, .int .i64 z] rfl rfl ?c1 ?c2 ?c3 ?c4 ?c5 ?_)
      case c1 => exact newsB HY.out
      case c2 => intro u hu; simp at hu; rcases hu with rfl | rfl <;> rfl
      case c3 => unfold maxLen; omega
      case c4 => omega
      case c5 => have := HB.out.size; have := XA.out.lt; simp; omega
      intro v' w5 hown5 hgrow _
      have HOWN5 : Hid (w5.ownsRow (w.heap.size + 1) 40 2 v' (k + 1) (pcells ((prs ns zs).take (k + 1)))) := by
        rw [HSU.out, pcells_append]; exact hown5
      have HB5 := Lib.hid (below_grown0 HB.out HB.out.size (Nat.le_succ _) HOWN.out hgrow)
      have XA5 := Lib.hid (XA.out.grown0 HOWN.out (Nat.lt_succ_self _) hgrow)
      clear hown5 hgrow
      go_wp2_with fail
      go_roundw
      case rel => exact ⟨k + 1, v', by omega, rfl, by go_num, HOWN5.out, XA5.out, HB5.out⟩
      case measure => simp [intOf]; omega
    · have hkn : k = N := by omega
      have hlt2 : ¬ (k : Int) < N := by omega
      have HPP : Hid (PL wr v0 ev) := by
        rw [HR.out]
        rw [List.take_of_length_le (by rw [HPL.out]; omega)] at hown
        exact PL.of_own hown
      clear hown hkn
      have XA_0 := XA.out.at_ 0 _ rfl
      have XA_1 := XA.out.at_ 1 _ rfl
      go_wp2_with fail
      go_ret
      exact ⟨_, rfl, HPP.out, HB.out⟩

end Go.Proofs.YtbjcbndmafddoaaDoor

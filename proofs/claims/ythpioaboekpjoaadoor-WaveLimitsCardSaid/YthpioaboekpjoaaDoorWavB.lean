/-
  Contracts of wave.header and wave.Valid.
-/
import Derived.Test.YthpioaboekpjoaaDoorWavA
import Derived.Test.YthpioaboekpjoaaDoorWavSpec
import Derived.Test.YthpioaboekpjoaaDoorGenM
namespace Go.Proofs.YthpioaboekpjoaaDoor
open Go.RowKit
set_option linter.unusedVariables false
set_option linter.unusedSimpArgs false

theorem hdr_bad {ns : List ByteArray} (h : (ns.any fun s => !varB s) = true) : hdrT ns = 5 := by
  unfold hdrT
  rw [if_neg]
  intro ha
  obtain ⟨s, hs, h1⟩ := List.any_eq_true.1 h
  rw [ha s hs] at h1; cases h1
theorem hdr_var {ns : List ByteArray} (h : (ns.any fun s => !varB s) = false) : ∀ s ∈ ns, varB s = true := fun s hs => by
  have := (List.any_eq_false.1 h) s hs
  simpa using this
theorem hdr_dup {ns : List ByteArray} (h : ∀ s ∈ ns, varB s = true) (hd : ¬ ns.Nodup) : hdrT ns = 8 := by
  unfold hdrT; rw [if_pos h, if_neg hd]
theorem hdr_big {ns : List ByteArray} (h : ∀ s ∈ ns, varB s = true) (hd : ns.Nodup) (hl : 48 < ns.length) : hdrT ns = 2 := by
  unfold hdrT; rw [if_pos h, if_pos hd, if_pos hl]
theorem hdr_ok {ns : List ByteArray} (h : ∀ s ∈ ns, varB s = true) (hd : ns.Nodup) (hl : ¬ 48 < ns.length) : hdrT ns = 0 := by
  unfold hdrT; rw [if_pos h, if_pos hd, if_neg hl]
theorem nodup_step {α : Type} {l : List α} {k : Nat} (d : α) (hk : k < l.length) (h : (l.take k).Nodup) (hn : l.getD k d ∉ l.take k) : (l.take (k + 1)).Nodup := by
  rw [take_snocD l k d hk, List.nodup_append]
  refine ⟨h, by simp, fun a ha b hb e => ?_⟩
  rw [List.mem_singleton.1 hb] at e
  exact hn (e ▸ ha)
theorem nodup_bad {α : Type} {l : List α} {k : Nat} (d : α) (hk : k < l.length) (hn : l.getD k d ∈ l.take k) : ¬ l.Nodup := fun hd => by
  have := nodup_take hd (k + 1)
  rw [take_snocD l k d hk, List.nodup_append] at this
  exact this.2.2 _ hn _ (by simp) rfl
theorem SL.takeA {w : World} {A : Option Addr} {N c : Nat} {l : List ByteArray} (h : SL w (.slice A N c) l) (k : Nat) (hk : k ≤ N) : SL w (.slice A k c) (l.take k) := by
  obtain ⟨A', c', e, hc, h⟩ := h
  simp only [Value.slice.injEq] at e
  obtain ⟨rfl, rfl, rfl⟩ := e
  have hl : (l.take k).length = k := by rw [List.length_take]; omega
  refine ⟨A, c, by rw [hl], by omega, fun hn => ?_⟩
  obtain ⟨a, e, hr⟩ := h (by omega)
  refine ⟨a, e, hr.lt, fun j hj => ?_⟩
  rw [hl] at hj
  rw [hr.cells j (by omega), List.getD_eq_getElem?_getD, List.getD_eq_getElem?_getD, List.getElem?_take_of_lt hj]

set_option maxRecDepth 100000 in
set_option maxHeartbeats 8000000 in
theorem wavHeader (w : World) (v : Value) (ns : List ByteArray) (h : SL w v ns) (hsz : ∀ s ∈ ns, s.size ≤ 9223372036854775807) (hn : ns.length ≤ 9223372036854775807) (hk : KW w) (hm : MLen w) :
    Calls Tryd.prog 36 #[v] w fun e w' => e = .returned (.int .i64 (hdrT ns)) ∧ Below w.heap.size w w' := by
  have CF := Lib.hid (hasFuncS w v ns h hn 63 #[] (fun s => !varB s) (run_go Tryd.func63 (by kernel_rfl) (by kernel_rfl)) (fun W t hW ht => wavHeader1 t W (hsz t ht) (hk.below hW) (hm.below hW)))
  have H1 : Hid ((ns.any fun s => !varB s) = true → hdrT ns = 5) := Lib.hid hdr_bad
  have H2 : Hid ((ns.any fun s => !varB s) = false → ¬ ns.Nodup → hdrT ns = 8) := Lib.hid fun h => hdr_dup (hdr_var h)
  have H3 : Hid ((ns.any fun s => !varB s) = false → ns.Nodup → 48 < ns.length → hdrT ns = 2) := Lib.hid fun h => hdr_big (hdr_var h)
  have H4 : Hid ((ns.any fun s => !varB s) = false → ns.Nodup → ¬ 48 < ns.length → hdrT ns = 0) := Lib.hid fun h => hdr_ok (hdr_var h)
  have SH := Lib.hid h
  obtain ⟨A1, c1, rfl, hc1, hs1⟩ := h
  have HS1 := Lib.hid hs1
  have HC := Lib.hid hc1
  obtain ⟨N, hN⟩ : ∃ N, N = ns.length := ⟨_, rfl⟩
  have HN := Lib.hid hN
  rw [← hN] at hn H3 H4 CF SH hc1 ⊢
  generalize hdrT ns = r at *
  generalize (ns.any fun s => !varB s) = q at *
  clear hk hm hs1 hsz hN
  cases q
  case true =>
    have HR := Lib.hid (H1.out rfl)
    clear H1 H2 H3 H4 SH HS1
    go_enter Tryd.func36, Tryd.ntmps36
    go_wp2_with fail
    refine CF.out.mono ?_; rintro e w2 ⟨rfl, hb⟩
    have HB := Lib.hid hb
    clear hb
    go_wp2_with fail
    go_ret
    exact ⟨ret1 HR.out.symm, HB.out⟩
  case false =>
    have G2 := Lib.hid (H2.out rfl)
    have G3 := Lib.hid (H3.out rfl)
    have G4 := Lib.hid (H4.out rfl)
    clear H1 H2 H3 H4
    go_enter Tryd.func36, Tryd.ntmps36
    go_wp2_with fail
    refine CF.out.mono ?_; rintro e w2 ⟨rfl, hb⟩
    have HB := Lib.hid hb
    clear hb CF
    go_wp2_with fail
    go_loopw [9] (fun i wr => ∃ k : Nat, k ≤ N ∧ i = .int .i64 k ∧ Hid ((ns.take k).Nodup) ∧ Below w.heap.size w wr) (fun i _ => N - (intOf i).toNat)
    case atStart => exact ⟨0, Nat.zero_le _, rfl, Lib.hid (by simp), HB.out⟩
    case round =>
      clear HB
      obtain ⟨k, hk, rfl, HD, hb⟩ := hrel
      have HB := Lib.hid hb
      clear hb
      by_cases hlt : k < N
      · have hlt2 : (k : Int) < N := by omega
        have hk0 : (0 : Int) ≤ (k : Int) := by omega
        have hkc : (k : Int) ≤ (c1 : Int) := by omega
        have hkc2 : k ≤ c1 := by omega
        have hkn : k < ns.length := by rw [← HN.out]; exact hlt
        obtain ⟨a1, rfl, hr1⟩ := HS1.out (by omega)
        have q1 := (hr1.below HB.out).cells k hkn
        have CS := Lib.hid (fun W (hW : Below w.heap.size w W) => slContains W (.slice (some a1) k c1) (ns.take k) (ns.getD k ⟨#[]⟩) ((SH.out.takeA k (by omega)).below hW) (by rw [List.length_take]; omega))
        have hmem := Lib.containsS_iff (ns.take k) (ns.getD k ⟨#[]⟩)
        have B1 := Lib.hid (nodup_bad (l := ns) (k := k) ⟨#[]⟩ hkn)
        have B2 := Lib.hid (nodup_step (l := ns) (k := k) ⟨#[]⟩ hkn HD.out)
        generalize ns.getD k ⟨#[]⟩ = s at *
        cases hcs : Lib.containsS (ns.take k) s
        · rw [hcs] at CS
          have hno : s ∉ ns.take k := fun h => by rw [hmem.2 h] at hcs; cases hcs
          have HD2 := Lib.hid (B2.out hno)
          clear B1 B2 HD hcs hmem hno hr1 hkn
          go_wp2_with fail
          refine (CS.out _ HB.out).mono ?_; rintro e w3 ⟨rfl, rfl⟩
          clear CS q1
          go_wp2_with fail
          go_roundw
          case rel => exact ⟨k + 1, by omega, by go_num, HD2, HB.out⟩
          case measure => simp [intOf]; omega
        · rw [hcs] at CS
          have HR := Lib.hid (G2.out (B1.out (hmem.1 hcs)))
          clear B1 B2 HD hcs hmem hr1 hkn
          go_wp2_with fail
          refine (CS.out _ HB.out).mono ?_; rintro e w3 ⟨rfl, rfl⟩
          clear CS q1
          go_wp2_with fail
          go_ret
          exact ⟨ret1 HR.out.symm, HB.out⟩
      · have hlt2 : ¬ (k : Int) < N := by omega
        have hkN : k = N := by omega
        have HD2 : Hid ns.Nodup := Lib.hid (by have := HD.out; rwa [hkN, HN.out, List.take_length] at this)
        clear HD hkN
        by_cases hb48 : 48 < N
        · have h48 : (48 : Int) < N := by omega
          have HR := Lib.hid (G3.out HD2.out hb48)
          go_wp2_with fail
          go_ret
          exact ⟨ret1 HR.out.symm, HB.out⟩
        · have h48 : ¬ (48 : Int) < N := by omega
          have HR := Lib.hid (G4.out HD2.out hb48)
          go_wp2_with fail
          go_ret
          exact ⟨ret1 HR.out.symm, HB.out⟩

/-! Valid. -/
def rowV (n : Nat) (r : List Int) : Bool := decide (r.length = n) && !(r.any fun z => !wordB z)
theorem words_any (r : List Int) : (!(r.any fun z => !wordB z)) = decide (∀ z ∈ r, wordB z = true) := by
  rw [Bool.eq_iff_iff]
  simp
theorem all_stepW {α : Type} (p : α → Bool) (l : List α) (d : α) (k : Nat) (hk : k < l.length) : (l.take (k + 1)).all p = ((l.take k).all p && p (l.getD k d)) := by
  rw [take_snocD l k d hk, List.all_append]; simp
theorem wvv_all (ns : List ByteArray) (rs : List (List Int)) : wvV ns rs = (decide (ns.length ≤ 48) && (decide (rs.length ≤ 4096) && (decide (hdrT ns = 0) && rs.all (rowV ns.length)))) := by
  unfold wvV
  rw [Bool.eq_iff_iff]
  simp only [decide_eq_true_eq, Bool.and_eq_true, List.all_eq_true, rowV, words_any]
  unfold WvV
  rw [hdr_zero]
  constructor
  · rintro ⟨a, b, c, d⟩; exact ⟨a, b, ⟨a, c⟩, d⟩
  · rintro ⟨a, b, ⟨_, c⟩, d⟩; exact ⟨a, b, c, d⟩
theorem all_bad {α : Type} {p : α → Bool} {l : List α} (d : α) {k : Nat} (hk : k < l.length) (h : p (l.getD k d) = false) : l.all p = false := by
  rw [List.all_eq_false]
  exact ⟨_, getD_mem d hk, by rw [h]; decide⟩

/-- Sizes of a trace's parts. -/
def WZ (ns : List ByteArray) (rs : List (List Int)) : Prop := ns.length ≤ 9223372036854775807 ∧ rs.length ≤ 9223372036854775807 ∧ (∀ s ∈ ns, s.size ≤ 9223372036854775807) ∧ ∀ r ∈ rs, r.length ≤ 9223372036854775807

set_option maxRecDepth 100000 in
set_option maxHeartbeats 8000000 in
theorem wavValid (w : World) (v1 v2 : Value) (ns : List ByteArray) (rs : List (List Int)) (h1 : SL w v1 ns) (h2 : Rs ilR w v2 rs anyB) (hz : WZ ns rs) (hk : KW w) (hm : MLen w) :
    Calls Tryd.prog 23 #[.agg #[v1, v2]] w fun e w' => e = .returned (.bool (wvV ns rs)) ∧ Below w.heap.size w w' := by
  have CH := Lib.hid (fun W (hW : Below w.heap.size w W) => wavHeader W v1 ns (h1.below hW) hz.2.2.1 hz.1 (hk.below hW) (hm.below hW))
  have CF : Hid (∀ k, k < rs.length → ∀ W u, IL W u (rs.getD k []) → Calls Tryd.prog 53 #[u, .func (.func 54) #[] #[]] W fun e w' => e = .returned (.bool ((rs.getD k []).any fun z => !wordB z)) ∧ Below W.heap.size W w') := Lib.hid fun k hk W u hu =>
    hasFuncI W u _ hu (hz.2.2.2 _ (getD_mem [] hk)) 54 #[] (fun z => !wordB z) (run_go Tryd.func54 (by kernel_rfl) (by kernel_rfl)) (fun W t _ _ => wavValid1 t W)
  have HV := Lib.hid (wvv_all ns rs)
  obtain ⟨A2, c2, rfl, hc2, hx⟩ := h2.ils
  have HX := Lib.hid hx
  have BAD := Lib.hid (fun k hk => all_bad (p := rowV ns.length) (l := rs) (k := k) [] hk)
  have ALL := Lib.hid (all_stepW (rowV ns.length) rs [])
  have RV : Hid (∀ r, rowV ns.length r = (decide (r.length = ns.length) && !(r.any fun z => !wordB z))) := Lib.hid fun r => rfl
  have AN : Hid ((rs.take rs.length).all (rowV ns.length) = rs.all (rowV ns.length)) := Lib.hid (by rw [List.take_length])
  have HRZ : Hid (∀ k, k < rs.length → (rs.getD k []).length ≤ 9223372036854775807) := Lib.hid fun k hk => hz.2.2.2 _ (getD_mem [] hk)
  obtain ⟨A1, c1, rfl, hc1, -⟩ := h1
  obtain ⟨N, hN⟩ : ∃ N, N = ns.length := ⟨_, rfl⟩
  obtain ⟨M, hM⟩ : ∃ M, M = rs.length := ⟨_, rfl⟩
  have HMM := Lib.hid hM
  have n1 := hz.1
  have n2 := hz.2.1
  rw [← hN] at HV CH BAD ALL RV AN n1 ⊢
  rw [← hM] at HV AN n2 ⊢
  generalize wvV ns rs = r at *
  generalize rowV N = rw_ at *
  generalize hdrT ns = he at *
  clear hk hm hz hx hc1 hc2 hN hM h2
  by_cases hb1 : 48 < N
  · have f1 : (48 : Int) < N := by omega
    have HR : Hid (false = r) := Lib.hid (by rw [HV.out, decide_eq_false (by omega : ¬ N ≤ 48)]; rfl)
    clear HV
    go_enter Tryd.func23, Tryd.ntmps23
    go_wp2_with fail
    go_ret
    exact ⟨retb HR.out, below_alloc _ _⟩
  by_cases hb2 : 4096 < M
  · have f1 : ¬ (48 : Int) < N := by omega
    have f2 : (4096 : Int) < M := by omega
    have HR : Hid (false = r) := Lib.hid (by rw [HV.out, decide_eq_false (by omega : ¬ M ≤ 4096), Bool.false_and, Bool.and_false])
    clear HV
    go_enter Tryd.func23, Tryd.ntmps23
    go_wp2_with fail
    go_ret
    exact ⟨retb HR.out, below_alloc _ _⟩
  have f1 : ¬ (48 : Int) < N := by omega
  have f2 : ¬ (4096 : Int) < M := by omega
  by_cases hb3 : he = 0
  case neg =>
    have f3 : (he != 0) = true := by simpa using hb3
    have HR : Hid (false = r) := Lib.hid (by rw [HV.out, decide_eq_false hb3, Bool.false_and, Bool.and_false, Bool.and_false])
    clear HV hb3
    go_enter Tryd.func23, Tryd.ntmps23
    go_upto_region 1 with fail
    have XA := Lib.hid (box_new (W := w) (g := w.heap.size) 26 #[.slice A1 N c1, .slice A2 M c2] (by simp))
    have HB := Lib.hid (below_alloc w (.cells #[.slice A1 N c1, .slice A2 M c2] 26))
    generalize w.alloc (.cells #[.slice A1 N c1, .slice A2 M c2] 26) = w1 at *
    have XA_0 := XA.out.at_ 0 _ rfl
    have XA_1 := XA.out.at_ 1 _ rfl
    go_wp2_with fail
    refine (CH.out _ HB.out).mono ?_; rintro e w2 ⟨rfl, hb⟩
    clear XA_0 XA_1
    replace XA := Lib.hid (XA.out.below hb)
    replace HB := Lib.hid (below_step HB.out hb)
    clear hb
    go_wp2_with fail
    go_ret
    exact ⟨retb HR.out, HB.out⟩
  case pos =>
    subst hb3
    have HR : Hid (r = rs.all rw_) := Lib.hid (by rw [HV.out, decide_eq_true (by omega : N ≤ 48), decide_eq_true (by omega : M ≤ 4096), decide_eq_true rfl]; rfl)
    clear HV hb1 hb2
    go_enter Tryd.func23, Tryd.ntmps23
    go_upto_region 1 with fail
    have XA := Lib.hid (box_new (W := w) (g := w.heap.size) 26 #[.slice A1 N c1, .slice A2 M c2] (by simp))
    have HB := Lib.hid (below_alloc w (.cells #[.slice A1 N c1, .slice A2 M c2] 26))
    generalize w.alloc (.cells #[.slice A1 N c1, .slice A2 M c2] 26) = w1 at *
    have XA_0 := XA.out.at_ 0 _ rfl
    have XA_1 := XA.out.at_ 1 _ rfl
    go_wp2_with fail
    refine (CH.out _ HB.out).mono ?_; rintro e w2 ⟨rfl, hb⟩
    clear XA_0 XA_1
    replace XA := Lib.hid (XA.out.below hb)
    replace HB := Lib.hid (below_step HB.out hb)
    clear hb
    clear CH
    have XA_1 := XA.out.at_ 1 _ rfl
    go_wp2_with fail
    clear XA_1
    go_loopw [24] (fun i wr => ∃ k : Nat, k ≤ M ∧ i = .int .i64 k ∧ Hid ((rs.take k).all rw_ = true) ∧ Box wr w.heap.size #[.slice A1 N c1, .slice A2 M c2] 26 ∧ Below w.heap.size w wr) (fun i _ => M - (intOf i).toNat)
    case atStart => exact ⟨0, Nat.zero_le _, rfl, Lib.hid (by simp), XA.out, HB.out⟩
    case round =>
      clear HB XA
      obtain ⟨k, hk, rfl, HD, hxa, hb⟩ := hrel
      have XA := Lib.hid hxa
      have HB := Lib.hid hb
      clear hb hxa
      by_cases hlt : k < M
      · have hlt2 : (k : Int) < M := by omega
        have hk0 : (0 : Int) ≤ (k : Int) := by omega
        have hkn : k < rs.length := by rw [← HMM.out]; exact hlt
        obtain ⟨b, o, u, rfl, hbl, q0, hu, -⟩ := HX.out k hkn
        have q1 : wr.cell? ⟨b, o + k, none⟩ = some u := (HB.out.cell (p := ⟨b, o + k, none⟩) hbl).trans q0
        have CFk := Lib.hid (fun W (hW : Below w.heap.size w W) => CF.out k hkn W u (hu.below hW))
        have B1 := Lib.hid (BAD.out k hkn)
        have B2 := Lib.hid (ALL.out k hkn)
        have RVk := Lib.hid (RV.out (rs.getD k []))
        have hzl := HRZ.out k hkn
        obtain ⟨E, e1, rfl, -⟩ := id hu
        generalize rs.getD k [] = row at *
        obtain ⟨L, hL⟩ : ∃ L, L = row.length := ⟨_, rfl⟩
        rw [← hL] at RVk q1 CFk hzl
        generalize (row.any fun z => !wordB z) = an at *
        clear q0 hu hbl hkn hL
        have XA_0 := XA.out.at_ 0 _ rfl
        by_cases hl : L = N
        · have f4 : ((L : Int) != (N : Int)) = false := by rw [hl]; simp
          have f5 : (L != N) = false := by rw [hl]; simp
          rw [decide_eq_true hl, Bool.true_and] at RVk
          cases an
          · have HD2 : Hid ((rs.take (k + 1)).all rw_ = true) := Lib.hid (by rw [B2.out, HD.out, RVk.out]; rfl)
            clear B1 B2 RVk HD hl
            go_wp2_with fail
            refine (CFk.out _ HB.out).mono ?_; rintro e w3 ⟨rfl, hb⟩
            clear XA_0
            replace XA := Lib.hid (XA.out.below hb)
            replace HB := Lib.hid (below_step HB.out hb)
            clear hb
            clear q1
            go_wp2_with fail
            go_roundw
            case rel => exact ⟨k + 1, by omega, by go_num, HD2, XA.out, HB.out⟩
            case measure => simp [intOf]; omega
          · have HR2 : Hid (false = r) := Lib.hid (by rw [HR.out, B1.out (by rw [RVk.out]; rfl)])
            clear B1 B2 RVk HD hl
            go_wp2_with fail
            refine (CFk.out _ HB.out).mono ?_; rintro e w3 ⟨rfl, hb⟩
            replace HB := Lib.hid (below_step HB.out hb)
            clear hb q1
            go_wp2_with fail
            go_ret
            exact ⟨retb HR2.out, HB.out⟩
        · have f4 : ((L : Int) != (N : Int)) = true := by
            have : ¬ (L : Int) = N := by omega
            simpa using this
          have f5 : (L != N) = true := by simpa using hl
          rw [decide_eq_false hl, Bool.false_and] at RVk
          have HR2 : Hid (false = r) := Lib.hid (by rw [HR.out, B1.out RVk.out])
          clear B1 B2 RVk HD hl
          go_wp2_with fail
          go_ret
          exact ⟨retb HR2.out, HB.out⟩
      · have hlt2 : ¬ (k : Int) < M := by omega
        have hkM : k = M := by omega
        have HR2 : Hid (true = r) := Lib.hid (by rw [HR.out, ← AN.out, ← hkM]; exact HD.out.symm)
        clear HD hkM
        go_wp2_with fail
        go_ret
        exact ⟨retb HR2.out, HB.out⟩

end Go.Proofs.YthpioaboekpjoaaDoor

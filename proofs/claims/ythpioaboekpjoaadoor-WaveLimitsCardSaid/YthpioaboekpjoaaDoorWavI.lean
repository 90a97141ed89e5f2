/-
  Contracts of the law's Few, of the reference's fits and Valid.
-/
import Derived.Test.YthpioaboekpjoaaDoorWavH
namespace Go.Proofs.YthpioaboekpjoaaDoor
open Go.RowKit
set_option linter.unusedVariables false
set_option linter.unusedSimpArgs false

def fitsB (r : List Int) : Bool := r.all wordB
theorem fits_any (r : List Int) : (!(r.any fun z => !wordB z)) = fitsB r := by
  unfold fitsB
  rw [Bool.eq_iff_iff]
  simp
theorem word_lt {z : Int} (h : z < 0) : wordB z = false := by unfold wordB; exact decide_eq_false (by omega)
theorem word_gt {z : Int} (h : 65535 < z) : wordB z = false := by unfold wordB; exact decide_eq_false (by omega)
theorem word_in {z : Int} (h0 : ¬ z < 0) (h : ¬ 65535 < z) : wordB z = true := by unfold wordB; exact decide_eq_true (by omega)

set_option maxRecDepth 100000 in
set_option maxHeartbeats 8000000 in
theorem refFits (w : World) (v : Value) (r : List Int) (h : IL w v r) (hn : r.length ≤ 9223372036854775807) :
    Calls Tryd.prog 50 #[v] w fun e w' => e = .returned (.bool (fitsB r)) ∧ w = w' := by
  have BAD := Lib.hid (fun k hk => all_bad (p := wordB) (l := r) (k := k) 0 hk)
  have STP := Lib.hid (fun k hk => all_stepW wordB r 0 k hk)
  have AN : Hid ((r.take r.length).all wordB = fitsB r) := Lib.hid (by rw [List.take_length]; rfl)
  have BAD : Hid (∀ k, k < r.length → wordB (r.getD k 0) = false → fitsB r = false) := Lib.hid fun k hk => all_bad (p := wordB) (l := r) (k := k) 0 hk
  obtain ⟨A, c, rfl, hc, hx⟩ := h
  have HX := Lib.hid hx
  obtain ⟨N, hN⟩ : ∃ N, N = r.length := ⟨_, rfl⟩
  have HN := Lib.hid hN
  rw [← hN] at hn AN ⊢
  generalize fitsB r = q at *
  clear hx hc hN
  go_enter Tryd.func50, Tryd.ntmps50
  go_wp2_with fail
  go_loopw [3] (fun i wr => ∃ k : Nat, k ≤ N ∧ i = .int .i64 k ∧ Hid ((r.take k).all wordB = true) ∧ wr = w) (fun i _ => N - (intOf i).toNat)
  case atStart => exact ⟨0, Nat.zero_le _, rfl, Lib.hid (by simp), rfl⟩
  case round =>
    obtain ⟨k, hk, rfl, HD, rfl⟩ := hrel
    by_cases hlt : k < N
    · have hlt2 : (k : Int) < N := by omega
      have hk0 : (0 : Int) ≤ (k : Int) := by omega
      have hkn : k < r.length := by rw [← HN.out]; exact hlt
      obtain ⟨a, rfl, ha, hcell⟩ := HX.out (by omega)
      have q1 := hcell k hkn
      have B1 := Lib.hid (BAD.out k hkn)
      have S1 := Lib.hid (STP.out k hkn)
      generalize r.getD k 0 = z at *
      clear hcell hkn ha
      by_cases h0 : z < 0
      · have HR := Lib.hid (B1.out (word_lt h0))
        clear S1 B1 HD
        go_wp2_with fail
        go_ret
        exact ⟨retb HR.out.symm, rfl⟩
      · by_cases h1 : 65535 < z
        · have HR := Lib.hid (B1.out (word_gt h1))
          clear S1 B1 HD
          go_wp2_with fail
          go_ret
          exact ⟨retb HR.out.symm, rfl⟩
        · have HD2 : Hid ((r.take (k + 1)).all wordB = true) := Lib.hid (by rw [S1.out, HD.out, word_in h0 h1]; rfl)
          clear S1 B1 HD
          go_wp2_with fail
          go_roundw
          case rel => exact ⟨k + 1, by omega, by go_num, HD2, (by first | rfl | trivial)⟩
          case measure => simp [intOf]; omega
    · have hlt2 : ¬ (k : Int) < N := by omega
      have hkN : k = N := by omega
      have HR : Hid (true = q) := Lib.hid (by rw [← AN.out, ← hkN]; exact HD.out.symm)
      clear HD hkN
      go_wp2_with fail
      go_ret
      exact ⟨retb HR.out, rfl⟩

theorem wvv_ref (ns : List ByteArray) (rs : List (List Int)) : wvV ns rs = (decide (ns.length ≤ 48) && (decide (rs.length ≤ 4096) && (decide (Dif ns) && rs.all fun r => decide (r.length = ns.length) && fitsB r))) := by
  unfold wvV
  rw [Bool.eq_iff_iff]
  simp only [decide_eq_true_eq, Bool.and_eq_true, List.all_eq_true, fitsB]
  exact Iff.rfl

set_option maxRecDepth 100000 in
set_option maxHeartbeats 8000000 in
theorem refValidW (w : World) (v1 v2 : Value) (ns : List ByteArray) (rs : List (List Int)) (h1 : SL w v1 ns) (h2 : Rs ilR w v2 rs anyB) (hz : WZ ns rs) :
    Calls Tryd.prog 18 #[.agg #[v1, v2]] w fun e w' => e = .returned (.bool (wvV ns rs)) ∧ Below w.heap.size w w' := by
  have CH := Lib.hid (fun W (hW : Below w.heap.size w W) => refDifferent W v1 ns (h1.below hW) hz.2.2.1 hz.1)
  have CF : Hid (∀ k, k < rs.length → ∀ W u, IL W u (rs.getD k []) → Calls Tryd.prog 50 #[u] W fun e w' => e = .returned (.bool (fitsB (rs.getD k []))) ∧ Below W.heap.size W w') := Lib.hid fun k hk W u hu =>
    (refFits W u _ hu (hz.2.2.2 _ (getD_mem [] hk))).mono fun e w' ⟨he, hw⟩ => ⟨he, by rw [← hw]; exact Below.refl _ _⟩
  have HV := Lib.hid (wvv_ref ns rs)
  obtain ⟨rv, hrv⟩ : ∃ f : List Int → Bool, f = fun r => decide (r.length = ns.length) && fitsB r := ⟨_, rfl⟩
  have RV : Hid (∀ r, rv r = (decide (r.length = ns.length) && fitsB r)) := Lib.hid fun r => by rw [hrv]
  rw [← hrv] at HV
  have BAD : Hid (∀ k, k < rs.length → rv (rs.getD k []) = false → rs.all rv = false) := Lib.hid (fun k hk => all_bad (p := rv) (l := rs) (k := k) [] hk)
  have ALL := Lib.hid (all_stepW rv rs [])
  have AN : Hid ((rs.take rs.length).all rv = rs.all rv) := Lib.hid (by rw [List.take_length])
  have HRZ : Hid (∀ k, k < rs.length → (rs.getD k []).length ≤ 9223372036854775807) := Lib.hid fun k hk => hz.2.2.2 _ (getD_mem [] hk)
  obtain ⟨A2, c2, rfl, hc2, hx⟩ := h2.ils
  have HX := Lib.hid hx
  obtain ⟨A1, c1, rfl, hc1, -⟩ := h1
  have n1 := hz.1
  have n2 := hz.2.1
  obtain ⟨N, hN⟩ : ∃ N, N = ns.length := ⟨_, rfl⟩
  obtain ⟨M, hM⟩ : ∃ M, M = rs.length := ⟨_, rfl⟩
  have HMM := Lib.hid hM
  rw [← hN] at HV CH RV n1 ⊢
  rw [← hM] at HV AN n2 ⊢
  generalize wvV ns rs = r at *
  generalize decide (Dif ns) = he at *
  clear hrv hz hx hc1 hc2 hN hM h2
  by_cases hb1 : 48 < N
  · have f1 : (48 : Int) < N := by omega
    have HR : Hid (false = r) := Lib.hid (by rw [HV.out, decide_eq_false (by omega : ¬ N ≤ 48)]; rfl)
    clear HV
    go_enter Tryd.func18, Tryd.ntmps18
    go_wp2_with fail
    go_ret
    exact ⟨retb HR.out, below_alloc _ _⟩
  by_cases hb2 : 4096 < M
  · have f1 : ¬ (48 : Int) < N := by omega
    have f2 : (4096 : Int) < M := by omega
    have HR : Hid (false = r) := Lib.hid (by rw [HV.out, decide_eq_false (by omega : ¬ M ≤ 4096), Bool.false_and, Bool.and_false])
    clear HV
    go_enter Tryd.func18, Tryd.ntmps18
    go_wp2_with fail
    go_ret
    exact ⟨retb HR.out, below_alloc _ _⟩
  have f1 : ¬ (48 : Int) < N := by omega
  have f2 : ¬ (4096 : Int) < M := by omega
  cases he
  case false =>
    have HR : Hid (false = r) := Lib.hid (by rw [HV.out, Bool.false_and, Bool.and_false, Bool.and_false])
    clear HV
    go_enter Tryd.func18, Tryd.ntmps18
    go_upto_region 1 with fail
    have XA := Lib.hid (box_new (W := w) (g := w.heap.size) 26 #[.slice A1 N c1, .slice A2 M c2] (by simp))
    have HB := Lib.hid (below_alloc w (.cells #[.slice A1 N c1, .slice A2 M c2] 26))
    generalize w.alloc (.cells #[.slice A1 N c1, .slice A2 M c2] 26) = w1 at *
    have XA_0 := XA.out.at_ 0 _ rfl
    have XA_1 := XA.out.at_ 1 _ rfl
    go_wp2_with fail
    refine (CH.out _ HB.out).mono ?_; rintro e w2 ⟨rfl, hb⟩
    clear XA_0 XA_1
    replace XA := Lib.hid (XA.out.below hb)
    replace HB := Lib.hid (below_step HB.out hb)
    clear hb
    go_wp2_with fail
    go_ret
    exact ⟨retb HR.out, HB.out⟩
  case true =>
    have HR : Hid (r = rs.all rv) := Lib.hid (by rw [HV.out, decide_eq_true (by omega : N ≤ 48), decide_eq_true (by omega : M ≤ 4096)]; rfl)
    clear HV hb1 hb2
    go_enter Tryd.func18, Tryd.ntmps18
    go_upto_region 1 with fail
    have XA := Lib.hid (box_new (W := w) (g := w.heap.size) 26 #[.slice A1 N c1, .slice A2 M c2] (by simp))
    have HB := Lib.hid (below_alloc w (.cells #[.slice A1 N c1, .slice A2 M c2] 26))
    generalize w.alloc (.cells #[.slice A1 N c1, .slice A2 M c2] 26) = w1 at *
    have XA_0 := XA.out.at_ 0 _ rfl
    have XA_1 := XA.out.at_ 1 _ rfl
    go_wp2_with fail
    refine (CH.out _ HB.out).mono ?_; rintro e w2 ⟨rfl, hb⟩
    clear XA_0 XA_1
    replace XA := Lib.hid (XA.out.below hb)
    replace HB := Lib.hid (below_step HB.out hb)
    clear hb
    clear CH
    go_wp2_with fail
    go_loopw [3] (fun i wr => ∃ k : Nat, k ≤ M ∧ i = .int .i64 k ∧ Hid ((rs.take k).all rv = true) ∧ Box wr w.heap.size #[.slice A1 N c1, .slice A2 M c2] 26 ∧ Below w.heap.size w wr) (fun i _ => M - (intOf i).toNat)
    case atStart => exact ⟨0, Nat.zero_le _, rfl, Lib.hid (by simp), XA.out, HB.out⟩
    case round =>
      clear HB XA
      obtain ⟨k, hk, rfl, HD, hxa, hb⟩ := hrel
      have XA := Lib.hid hxa
      have HB := Lib.hid hb
      clear hb hxa
      by_cases hlt : k < M
      · have hlt2 : (k : Int) < M := by omega
        have hk0 : (0 : Int) ≤ (k : Int) := by omega
        have hkn : k < rs.length := by rw [← HMM.out]; exact hlt
        obtain ⟨b, o, u, rfl, hbl, q0, hu, -⟩ := HX.out k hkn
        have CFk := Lib.hid (fun W (hW : Below w.heap.size w W) => CF.out k hkn W u (hu.below hW))
        have B1 := Lib.hid (BAD.out k hkn)
        have B2 := Lib.hid (ALL.out k hkn)
        have RVk := Lib.hid (RV.out (rs.getD k []))
        have hzl := HRZ.out k hkn
        obtain ⟨E, e1, rfl, -⟩ := id hu
        generalize rs.getD k [] = row at *
        obtain ⟨L, hL⟩ : ∃ L, L = row.length := ⟨_, rfl⟩
        rw [← hL] at RVk q0 CFk hzl
        generalize fitsB row = an at *
        have y1 : ∀ x : Lat wr, x.w.cell? ⟨b, o + k, none⟩ = some (.slice E L e1) := fun x => ((below_step HB.out x.h).cell (p := ⟨b, o + k, none⟩) hbl).trans q0
        have CL := Lib.hid (fun x : Lat wr => CFk.out x.w (below_step HB.out x.h))
        clear q0 hu hbl hkn hL CFk
        have XA_0 := XA.out.at_ 0 _ rfl
        have XA_1 := XA.out.at_ 1 _ rfl
        go_upto_region 6 with fail
        clear XA_0 XA_1
        have a0 := XA.out.lat 0 _ rfl
        have a1 := XA.out.lat 1 _ rfl
        by_cases hl : L = N
        · have f4 : ((L : Int) != (N : Int)) = false := by rw [hl]; simp
          have f5 : (L != N) = false := by rw [hl]; simp
          rw [decide_eq_true hl, Bool.true_and] at RVk
          cases an
          · have HR2 : Hid (false = r) := Lib.hid (by rw [HR.out, B1.out RVk.out])
            clear B1 B2 RVk HD hl
            refine wp_region_lat (by kernel_rfl) (by kernel_rfl) ?_
            repeat (go_big_quiet_step (with_reducible exact lat_call (CL.out _)))
            refine wpQuiet_nil ?_; intro w3 hb
            clear a0 a1 y1 CL
            replace XA := Lib.hid (XA.out.below hb)
            replace HB := Lib.hid (below_step HB.out hb)
            clear hb
            go_wp2_with fail
            go_ret
            exact ⟨retb HR2.out, HB.out⟩
          · have HD2 : Hid ((rs.take (k + 1)).all rv = true) := Lib.hid (by rw [B2.out, HD.out, RVk.out]; rfl)
            clear B1 B2 RVk HD hl
            refine wp_region_lat (by kernel_rfl) (by kernel_rfl) ?_
            repeat (go_big_quiet_step (with_reducible exact lat_call (CL.out _)))
            refine wpQuiet_nil ?_; intro w3 hb
            clear a0 a1 y1 CL
            replace XA := Lib.hid (XA.out.below hb)
            replace HB := Lib.hid (below_step HB.out hb)
            clear hb
            go_wp2_with fail
            go_roundw
            case rel => exact ⟨k + 1, by omega, by go_num, HD2, XA.out, HB.out⟩
            case measure => simp [intOf]; omega
        · have f4 : ((L : Int) != (N : Int)) = true := by
            have : ¬ (L : Int) = N := by omega
            simpa using this
          have f5 : (L != N) = true := by simpa using hl
          rw [decide_eq_false hl, Bool.false_and] at RVk
          have HR2 : Hid (false = r) := Lib.hid (by rw [HR.out, B1.out RVk.out])
          clear B1 B2 RVk HD hl
          refine wp_region_lat (by kernel_rfl) (by kernel_rfl) ?_
          repeat (go_big_quiet_step (with_reducible exact lat_call (CL.out _)))
          refine wpQuiet_nil ?_; intro w3 hb
          clear a0 a1 y1 CL
          replace XA := Lib.hid (XA.out.below hb)
          replace HB := Lib.hid (below_step HB.out hb)
          clear hb
          go_wp2_with fail
          go_ret
          exact ⟨retb HR2.out, HB.out⟩
      · have hlt2 : ¬ (k : Int) < M := by omega
        have hkM : k = M := by omega
        have HR2 : Hid (true = r) := Lib.hid (by rw [HR.out, ← AN.out, ← hkM]; exact HD.out.symm)
        clear HD hkM
        have XA_1 := XA.out.at_ 1 _ rfl
        go_wp2_with fail
        go_ret
        exact ⟨retb HR2.out, HB.out⟩

/-! Few. -/
def FewW (ns : List ByteArray) (rs : List (List Int)) : Prop := ns.length ≤ 50 ∧ rs.length ≤ 20 ∧ (∀ s ∈ ns, s.size ≤ 40) ∧ ∀ r ∈ rs, r.length ≤ 52
instance (ns : List ByteArray) (rs : List (List Int)) : Decidable (FewW ns rs) := by unfold FewW; infer_instance
def fewW (ns : List ByteArray) (rs : List (List Int)) : Bool := decide (FewW ns rs)
theorem few_all (ns : List ByteArray) (rs : List (List Int)) : fewW ns rs = (decide (ns.length ≤ 50) && (decide (rs.length ≤ 20) && ((ns.all fun s => decide (s.size ≤ 40)) && rs.all fun r => decide (r.length ≤ 52)))) := by
  unfold fewW
  rw [Bool.eq_iff_iff]
  simp only [decide_eq_true_eq, Bool.and_eq_true, List.all_eq_true]
  exact Iff.rfl

set_option maxRecDepth 100000 in
set_option maxHeartbeats 8000000 in
theorem lawFewW (w : World) (v1 v2 : Value) (ns : List ByteArray) (rs : List (List Int)) (h1 : SL w v1 ns) (h2 : Rs ilR w v2 rs anyB) (hz : WZ ns rs) :
    Calls Tryd.prog 16 #[.agg #[v1, v2]] w fun e w' => e = .returned (.bool (fewW ns rs)) ∧ Below w.heap.size w w' := by
  have HV := Lib.hid (few_all ns rs)
  obtain ⟨p1, hp1⟩ : ∃ f : ByteArray → Bool, f = fun s => decide (s.size ≤ 40) := ⟨_, rfl⟩
  obtain ⟨p2, hp2⟩ : ∃ f : List Int → Bool, f = fun r => decide (r.length ≤ 52) := ⟨_, rfl⟩
  have RV1 : Hid (∀ r, p1 r = decide (r.size ≤ 40)) := Lib.hid fun r => by rw [hp1]
  have RV2 : Hid (∀ r, p2 r = decide (r.length ≤ 52)) := Lib.hid fun r => by rw [hp2]
  rw [← hp1, ← hp2] at HV
  have BAD1 : Hid (∀ k, k < ns.length → p1 (ns.getD k ⟨#[]⟩) = false → ns.all p1 = false) := Lib.hid (fun k hk => all_bad (p := p1) (l := ns) (k := k) ⟨#[]⟩ hk)
  have ALL1 := Lib.hid (all_stepW p1 ns ⟨#[]⟩)
  have AN1 : Hid ((ns.take ns.length).all p1 = ns.all p1) := Lib.hid (by rw [List.take_length])
  have BAD2 : Hid (∀ k, k < rs.length → p2 (rs.getD k []) = false → rs.all p2 = false) := Lib.hid (fun k hk => all_bad (p := p2) (l := rs) (k := k) [] hk)
  have ALL2 := Lib.hid (all_stepW p2 rs [])
  have AN2 : Hid ((rs.take rs.length).all p2 = rs.all p2) := Lib.hid (by rw [List.take_length])
  have HZ1 : Hid (∀ k, k < ns.length → (ns.getD k ⟨#[]⟩).size ≤ 9223372036854775807) := Lib.hid fun k hk => hz.2.2.1 _ (getD_mem ⟨#[]⟩ hk)
  have HZ2 : Hid (∀ k, k < rs.length → (rs.getD k []).length ≤ 9223372036854775807) := Lib.hid fun k hk => hz.2.2.2 _ (getD_mem [] hk)
  obtain ⟨A2, c2, rfl, hc2, hx⟩ := h2.ils
  have HX := Lib.hid hx
  obtain ⟨A1, c1, rfl, hc1, hs1⟩ := h1
  have HS1 := Lib.hid hs1
  have n1 := hz.1
  have n2 := hz.2.1
  obtain ⟨N, hN⟩ : ∃ N, N = ns.length := ⟨_, rfl⟩
  obtain ⟨M, hM⟩ : ∃ M, M = rs.length := ⟨_, rfl⟩
  have HNN := Lib.hid hN
  have HMM := Lib.hid hM
  rw [← hN] at HV AN1 n1 ⊢
  rw [← hM] at HV AN2 n2 ⊢
  generalize fewW ns rs = r at *
  clear hp1 hp2 hz hx hs1 hc1 hc2 hN hM h2
  by_cases hb1 : 50 < N
  · have f1 : (50 : Int) < N := by omega
    have HR : Hid (false = r) := Lib.hid (by rw [HV.out, decide_eq_false (by omega : ¬ N ≤ 50)]; rfl)
    clear HV
    go_enter Tryd.func16, Tryd.ntmps16
    go_wp2_with fail
    go_ret
    exact ⟨retb HR.out, below_alloc _ _⟩
  by_cases hb2 : 20 < M
  · have f1 : ¬ (50 : Int) < N := by omega
    have f2 : (20 : Int) < M := by omega
    have HR : Hid (false = r) := Lib.hid (by rw [HV.out, decide_eq_false (by omega : ¬ M ≤ 20), Bool.false_and, Bool.and_false])
    clear HV
    go_enter Tryd.func16, Tryd.ntmps16
    go_wp2_with fail
    go_ret
    exact ⟨retb HR.out, below_alloc _ _⟩
  have f1 : ¬ (50 : Int) < N := by omega
  have f2 : ¬ (20 : Int) < M := by omega
  have HR : Hid (r = (ns.all p1 && rs.all p2)) := Lib.hid (by rw [HV.out, decide_eq_true (by omega : N ≤ 50), decide_eq_true (by omega : M ≤ 20)]; rfl)
  clear HV hb1 hb2
  go_enter Tryd.func16, Tryd.ntmps16
  go_upto_region 1 with fail
  have XA := Lib.hid (box_new (W := w) (g := w.heap.size) 26 #[.slice A1 N c1, .slice A2 M c2] (by simp))
  have HB := Lib.hid (below_alloc w (.cells #[.slice A1 N c1, .slice A2 M c2] 26))
  generalize w.alloc (.cells #[.slice A1 N c1, .slice A2 M c2] 26) = w1 at *
  have XA_0 := XA.out.at_ 0 _ rfl
  have XA_1 := XA.out.at_ 1 _ rfl
  go_wp2_with fail
  clear XA_0 XA_1
  go_loopw [3] (fun i wr => ∃ k : Nat, k ≤ N ∧ i = .int .i64 k ∧ Hid ((ns.take k).all p1 = true) ∧ wr = w1) (fun i _ => N - (intOf i).toNat)
  case atStart => exact ⟨0, Nat.zero_le _, rfl, Lib.hid (by simp), rfl⟩
  case round =>
    obtain ⟨k, hk, rfl, HD, rfl⟩ := hrel
    by_cases hlt : k < N
    · have hlt2 : (k : Int) < N := by omega
      have hk0 : (0 : Int) ≤ (k : Int) := by omega
      have hkn : k < ns.length := by rw [← HNN.out]; exact hlt
      obtain ⟨a1, rfl, hr1⟩ := HS1.out (by omega)
      have q1 := (hr1.below HB.out).cells k hkn
      have B1 := Lib.hid (BAD1.out k hkn)
      have B2 := Lib.hid (ALL1.out k hkn)
      have RVk := Lib.hid (RV1.out (ns.getD k ⟨#[]⟩))
      have hzl := HZ1.out k hkn
      generalize ns.getD k ⟨#[]⟩ = s at *
      clear hr1 hkn
      have XA_0 := XA.out.at_ 0 _ rfl
      by_cases h40 : s.size ≤ 40
      · have g1 : ¬ (40 : Int) < (s.size : Int) := by omega
        rw [decide_eq_true h40] at RVk
        have HD2 : Hid ((ns.take (k + 1)).all p1 = true) := Lib.hid (by rw [B2.out, HD.out, RVk.out]; rfl)
        clear B1 B2 RVk HD h40
        go_wp2_with fail
        go_roundw
        case rel => exact ⟨k + 1, by omega, by go_num, HD2, (by first | rfl | trivial)⟩
        case measure => simp [intOf]; omega
      · have g1 : (40 : Int) < (s.size : Int) := by omega
        rw [decide_eq_false h40] at RVk
        have HR2 : Hid (false = r) := Lib.hid (by rw [HR.out, B1.out RVk.out]; rfl)
        clear B1 B2 RVk HD h40
        go_wp2_with fail
        go_ret
        exact ⟨retb HR2.out, HB.out⟩
    · have hlt2 : ¬ (k : Int) < N := by omega
      have hkN : k = N := by omega
      have HR3 : Hid (r = rs.all p2) := Lib.hid (by rw [HR.out, ← AN1.out, ← hkN, HD.out]; rfl)
      clear HD hkN
      have XA_0 := XA.out.at_ 0 _ rfl
      have XA_1 := XA.out.at_ 1 _ rfl
      go_wp2_with fail
      clear XA_0 XA_1
      go_loopw [4] (fun i wx => ∃ k : Nat, k ≤ M ∧ i = .int .i64 k ∧ Hid ((rs.take k).all p2 = true) ∧ wx = wr) (fun i _ => M - (intOf i).toNat)
      case atStart => exact ⟨0, Nat.zero_le _, rfl, Lib.hid (by simp), rfl⟩
      case round =>
        obtain ⟨k, hk, rfl, HD, rfl⟩ := hrel
        by_cases hlt : k < M
        · have hlt2 : (k : Int) < M := by omega
          have hk0 : (0 : Int) ≤ (k : Int) := by omega
          have hkn : k < rs.length := by rw [← HMM.out]; exact hlt
          obtain ⟨b, o, u, rfl, hbl, q0, hu, -⟩ := HX.out k hkn
          have q1 := (HB.out.cell (p := ⟨b, o + k, none⟩) hbl).trans q0
          have B1 := Lib.hid (BAD2.out k hkn)
          have B2 := Lib.hid (ALL2.out k hkn)
          have RVk := Lib.hid (RV2.out (rs.getD k []))
          have hzl := HZ2.out k hkn
          obtain ⟨E, e1, rfl, -⟩ := id hu
          generalize rs.getD k [] = row at *
          generalize row.length = L at *
          clear q0 hu hbl hkn
          have XA_1 := XA.out.at_ 1 _ rfl
          by_cases h52 : L ≤ 52
          · have g1 : ¬ (52 : Int) < (L : Int) := by omega
            rw [decide_eq_true h52] at RVk
            have HD2 : Hid ((rs.take (k + 1)).all p2 = true) := Lib.hid (by rw [B2.out, HD.out, RVk.out]; rfl)
            clear B1 B2 RVk HD h52
            go_wp2_with fail
            go_roundw
            case rel => exact ⟨k + 1, by omega, by go_num, HD2, (by first | rfl | trivial)⟩
            case measure => simp [intOf]; omega
          · have g1 : (52 : Int) < (L : Int) := by omega
            rw [decide_eq_false h52] at RVk
            have HR2 : Hid (false = r) := Lib.hid (by rw [HR3.out, B1.out RVk.out])
            clear B1 B2 RVk HD h52
            go_wp2_with fail
            go_ret
            exact ⟨retb HR2.out, HB.out⟩
        · have hlt2 : ¬ (k : Int) < M := by omega
          have hkM : k = M := by omega
          have HR2 : Hid (true = r) := Lib.hid (by rw [HR3.out, ← AN2.out, ← hkM]; exact HD.out.symm)
          clear HD hkM
          have XA_1 := XA.out.at_ 1 _ rfl
          go_wp2_with fail
          go_ret
          exact ⟨retb HR2.out, HB.out⟩

end Go.Proofs.YthpioaboekpjoaaDoor

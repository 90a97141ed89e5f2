/-
  Contract of the reference's Only.
-/
import Derived.Test.YthpioaboekpjoaaDoorWavV
namespace Go.Proofs.YthpioaboekpjoaaDoor
open Go.RowKit
set_option linter.unusedVariables false
set_option linter.unusedSimpArgs false

theorem dup_idx {l : List ByteArray} {k : Nat} (hk : k < l.length) : Lib.idxOfS l (l.getD k ⟨#[]⟩) < (k : Int) ↔ Lib.containsS (l.take k) (l.getD k ⟨#[]⟩) = true := by
  have h0 : 0 ≤ Lib.idxOfS l (l.getD k ⟨#[]⟩) := idx_mem.2 (getD_mem _ hk)
  obtain ⟨m, hm⟩ : ∃ m : Nat, Lib.idxOfS l (l.getD k ⟨#[]⟩) = m := ⟨(Lib.idxOfS l (l.getD k ⟨#[]⟩)).toNat, by omega⟩
  obtain ⟨a1, a2, a3⟩ := idx_at hm
  rw [hm, Lib.containsS_iff]
  constructor
  · intro h
    have hmk : m < k := by omega
    have hl : m < (l.take k).length := by rw [List.length_take]; omega
    have : (l.take k).getD m ⟨#[]⟩ = l.getD m ⟨#[]⟩ := by
      rw [List.getD_eq_getElem?_getD, List.getD_eq_getElem?_getD, List.getElem?_take_of_lt hmk]
    rw [← a2, ← this]
    exact getD_mem _ hl
  · intro h
    obtain ⟨j, hj, e⟩ := List.mem_iff_getElem.1 h
    rw [List.length_take] at hj
    have e2 : l.getD j ⟨#[]⟩ = l.getD k ⟨#[]⟩ := by
      rw [← e, List.getD_eq_getElem?_getD, List.getElem?_eq_getElem (by omega)]
      simp
    by_cases hmj : m < k
    · omega
    · exact absurd e2 (a3 j (by omega))

set_option maxRecDepth 100000 in
set_option maxHeartbeats 16000000 in
theorem refOnlyW (w : World) (v1 v2 v3 : Value) (ns l : List ByteArray) (rs : List (List Int)) (h1 : SL w v1 ns) (h2 : Rs ilR w v2 rs anyB) (h3 : SL w v3 l) (hz : WZ ns rs) (hl : l.length ≤ 1000) :
    Calls Tryd.prog 30 #[.agg #[v1, v2], v3] w (PARW w (woT ns rs l)) := by
  have CV := Lib.hid (fun W (hW : Below w.heap.size w W) => refValidW W v1 v2 ns rs (h1.below hW) (h2.below hW) hz)
  have CI := Lib.hid (fun s W (hW : Below w.heap.size w W) => refPlace W v1 ns s (h1.below hW) hz.1)
  have CC := Lib.hid (fun s W (hW : Below w.heap.size w W) => refPlace W v3 l s (h3.below hW) (by omega))
  have HDU := Lib.hid (fun k hk => dup_idx (l := l) (k := k) hk)
  have HG : Hid (woT ns rs l = if wvV ns rs = false then ([], [], 1) else if onlyE ns [] l ≠ 0 then ([], [], onlyE ns [] l) else (l, rs.map (pick ns l), 0)) := Lib.hid rfl
  have HV4 : Hid (wvV ns rs = true → rs.length ≤ 4096 ∧ ∀ k, k < rs.length → (rs.getD k []).length = ns.length) := Lib.hid fun hv => ⟨(of_decide_eq_true hv : WvV ns rs).2.1, fun k hk => ((of_decide_eq_true hv : WvV ns rs).2.2.2 _ (getD_mem [] hk)).1⟩
  have HIX : Hid (∀ s, Lib.idxOfS ns s < ns.length) := Lib.hid fun s => (idx_bd ns s).2
  have HOD := Lib.hid (fun k hk => onlyE_drop ns (l := l) (k := k) hk)
  have HOE := Lib.hid (onlyE_end ns l)
  have HPK : Hid (∀ r, pick ns l r = l.map fun s => r.getD (Lib.idxOfS ns s).toNat 0) := Lib.hid fun r => rfl
  have SV3 := Lib.hid h3
  have HRA := Lib.hid (fun k hk => row_at (rs := rs) (k := k) (w := w) (A := (match v2 with | .slice A _ _ => A | _ => none)) (M := rs.length) (c := (match v2 with | .slice _ _ c => c | _ => 0)) (by obtain ⟨A, c, rfl, _⟩ := h2.slice; exact h2) hk)
  obtain ⟨A2, c2, rfl, hc2⟩ := h2.slice
  obtain ⟨A1, c1, rfl, hc1, -⟩ := h1
  obtain ⟨A3, c3, rfl, hc3, hs3⟩ := h3
  have HS3 := Lib.hid hs3
  have n2 := hz.2.1
  simp only at HRA
  obtain ⟨N, hN⟩ : ∃ N, N = ns.length := ⟨_, rfl⟩
  obtain ⟨M, hM⟩ : ∃ M, M = rs.length := ⟨_, rfl⟩
  obtain ⟨K, hK⟩ : ∃ K, K = l.length := ⟨_, rfl⟩
  have HMM := Lib.hid hM
  have HKK := Lib.hid hK
  rw [← hN] at CV CI HIX HV4 ⊢
  rw [← hM] at CV n2 ⊢
  rw [← hK] at CC SV3 HOE hc3 hl ⊢
  obtain ⟨ixf, hix⟩ : ∃ f : ByteArray → Int, f = Lib.idxOfS ns := ⟨_, rfl⟩
  rw [← hix] at CI HIX HOD HPK
  obtain ⟨oe, hoe⟩ : ∃ f : List ByteArray → List ByteArray → Int, f = onlyE ns := ⟨_, rfl⟩
  rw [← hoe] at HG HOD HOE
  have H0 : Hid (oe [] l = oe (l.take 0) (l.drop 0)) := Lib.hid (by rw [List.take_zero, List.drop_zero])
  generalize woT ns rs l = r at *
  generalize wvV ns rs = va at *
  generalize pick ns l = pk at *
  obtain ⟨i0, hi, hz0, hz1, hz2⟩ := info_parts iint3
  have JI := Lib.hid hi
  have JZ0 := Lib.hid hz0
  have JZ1 := Lib.hid hz1
  have JZ2 := Lib.hid hz2
  clear hi hz0 hz1 hz2
  obtain ⟨i1, hi, hz0, hz1, hz2⟩ := info_parts ilist
  have II := Lib.hid hi
  have IZ0 := Lib.hid hz0
  have IZ1 := Lib.hid hz1
  have IZ2 := Lib.hid hz2
  clear hi hz0 hz1 hz2 h2 hz hc1 hc2 hN hM hK hs3 hix hoe
  go_enter Tryd.func30, Tryd.ntmps30
  go_upto_region 1 with fail
  have XA := Lib.hid ((box_new (W := w) (g := w.heap.size) 26 #[.slice A1 N c1, .slice A2 M c2] (by simp)).below (below_alloc _ (.cells #[.slice none 0 0, .slice none 0 0] 26)))
  have XR := Lib.hid (box_new (W := (w.alloc (.cells #[.slice A1 N c1, .slice A2 M c2] 26))) (g := w.heap.size + 1) 26 #[.slice none 0 0, .slice none 0 0] (by simp))
  have HB := Lib.hid (below_step (below_alloc w (.cells #[.slice A1 N c1, .slice A2 M c2] 26)) (below_alloc (w.alloc (.cells #[.slice A1 N c1, .slice A2 M c2] 26)) (.cells #[.slice none 0 0, .slice none 0 0] 26)))
  generalize (w.alloc (.cells #[.slice A1 N c1, .slice A2 M c2] 26)).alloc (.cells #[.slice none 0 0, .slice none 0 0] 26) = w1 at *
  have XA_0 := XA.out.at_ 0 _ rfl
  have XA_1 := XA.out.at_ 1 _ rfl
  go_wp2_with fail
  refine (CV.out _ HB.out).mono ?_; rintro e w3 ⟨rfl, hb⟩
  clear XA_0 XA_1
  replace XA := Lib.hid (XA.out.below hb)
  replace XR := Lib.hid (XR.out.below hb)
  replace HB := Lib.hid (below_step HB.out hb)
  clear hb
  clear CV
  cases va
  case false =>
    have HR : Hid (r = ([], [], 1)) := Lib.hid (by rw [HG.out, if_pos rfl])
    clear HG HV4 HOD HOE
    have XR_0 := XR.out.at_ 0 _ rfl
    have XR_1 := XR.out.at_ 1 _ rfl
    have XR_l := XR.out.lt
    have XR_z0 := XR.out.frozen 0
    have XR_z1 := XR.out.frozen 1
    go_wp2_with fail
    refine bodyPost_ret (v := .tuple #[.agg #[.slice none 0 0, .slice none 0 0], .int .i64 1]) (by simp [results, Tryd.results30, go_sem, XR_0, XR_1, XR_l]) rfl ?_
    exact parw_no HR.out (below_zrs (g := w.heap.size + 1) HB.out (Nat.le_succ _))
  case true =>
    obtain ⟨hM4, hrow⟩ := HV4.out rfl
    have HROW := Lib.hid hrow
    rw [if_neg (by decide)] at HG
    clear HV4 hrow
    go_wp2_with fail
    go_loopw [6] (fun i wr => ∃ k : Nat, k ≤ K ∧ i = .int .i64 k ∧ Hid (oe [] l = oe (l.take k) (l.drop k)) ∧ Hid (∀ j, j < k → 0 ≤ ixf (l.getD j ⟨#[]⟩)) ∧ Box wr w.heap.size #[.slice A1 N c1, .slice A2 M c2] 26 ∧ Box wr (w.heap.size + 1) #[.slice none 0 0, .slice none 0 0] 26 ∧ Below w.heap.size w wr) (fun i _ => K - (intOf i).toNat)
    case atStart => exact ⟨0, Nat.zero_le _, rfl, H0, Lib.hid (fun j h => by omega), XA.out, XR.out, HB.out⟩
    case round =>
      clear HB XA XR H0
      obtain ⟨k, hk, rfl, HO, HP, hxa, hxr, hb⟩ := hrel
      have XA := Lib.hid hxa
      have XR := Lib.hid hxr
      have HB := Lib.hid hb
      clear hb hxa hxr
      by_cases hlt : k < K
      · have hlt2 : (k : Int) < K := by omega
        have hk0 : (0 : Int) ≤ (k : Int) := by omega
        have hkn : k < l.length := by rw [← HKK.out]; exact hlt
        obtain ⟨a3, rfl, hr3⟩ := HS3.out (by omega)
        have q1 : ∀ p : Lat wr, p.w.cell? (a3.add k) = some (.string (l.getD k ⟨#[]⟩)) := fun p => (hr3.below (below_step HB.out p.h)).cells k hkn
        have CIk := Lib.hid (fun p : Lat wr => (CI.out (l.getD k ⟨#[]⟩) p.w (below_step HB.out p.h)).mono fun e w' (h : _ ∧ _) => (⟨h.1, by rw [← h.2]; exact Below.refl _ _⟩ : _ ∧ Below p.w.heap.size p.w w'))
        have CCk := Lib.hid (CC.out (l.getD k ⟨#[]⟩))
        have HOk := Lib.hid (HO.out.trans (HOD.out k hkn))
        have HDk := Lib.hid (HDU.out k hkn)
        have HP2 : Hid (0 ≤ ixf (l.getD k ⟨#[]⟩) → ∀ j, j < k + 1 → 0 ≤ ixf (l.getD j ⟨#[]⟩)) := Lib.hid fun h j hj => by
          by_cases e : j = k
          · rw [e]; exact h
          · exact HP.out j (by omega)
        have hrr : wr.cell? (a3.add k) = some (.string (l.getD k ⟨#[]⟩)) := (hr3.below HB.out).cells k hkn
        have HRQ : Hid (∀ W, Below w.heap.size w W → W.cell? (a3.add k) = some (.string (l.getD k ⟨#[]⟩))) := Lib.hid fun W hW => (hr3.below hW).cells k hkn
        generalize l.getD k ⟨#[]⟩ = s at *
        generalize Lib.containsS (l.take k) s = cb at *
        generalize Lib.idxOfS l s = y at *
        generalize ixf s = x at *
        clear hr3 hkn HO HP hrr
        have XA_0 := XA.out.at_ 0 _ rfl
        have XA_1 := XA.out.at_ 1 _ rfl
        go_upto_region 6 with fail
        clear XA_0 XA_1
        have l0 := XA.out.lat 0 _ rfl
        refine wp_region_lat (by kernel_rfl) (by kernel_rfl) ?_
        repeat (go_big_quiet_step (with_reducible exact lat_call (CIk.out _)))
        refine wpQuiet_nil ?_; intro w4 hb
        clear l0 q1 CIk
        replace XA := Lib.hid (XA.out.below hb)
        replace XR := Lib.hid (XR.out.below hb)
        replace HB := Lib.hid (below_step HB.out hb)
        clear hb
        have q1 := HRQ.out w4 HB.out
        clear HRQ
        by_cases hx : x < 0
        · have HR : Hid (r = ([], [], 7)) := Lib.hid (by rw [HG.out, HOk.out, if_pos hx]; rfl)
          have hx2 : decide (x < 0) = true := decide_eq_true hx
          clear HG HOk HP2 HDk
          have XR_0 := XR.out.at_ 0 _ rfl
          have XR_1 := XR.out.at_ 1 _ rfl
          have XR_l := XR.out.lt
          have XR_z0 := XR.out.frozen 0
          have XR_z1 := XR.out.frozen 1
          go_wp2_with fail
          refine bodyPost_ret (v := .tuple #[.agg #[.slice none 0 0, .slice none 0 0], .int .i64 7]) (by simp [results, Tryd.results30, go_sem, XR_0, XR_1, XR_l]) rfl ?_
          exact parw_no HR.out (below_zrs (g := w.heap.size + 1) HB.out (Nat.le_succ _))
        · rw [if_neg hx] at HOk
          have hx2 : decide (x < 0) = false := decide_eq_false hx
          go_wp2_with fail
          refine (CCk.out _ HB.out).mono ?_; rintro e w5 ⟨rfl, rfl⟩
          clear CCk q1
          cases cb
          · have HO2 : Hid (oe [] l = oe (l.take (k + 1)) (l.drop (k + 1))) := Lib.hid (by rw [HOk.out]; rfl)
            have HP3 := Lib.hid (HP2.out (by omega))
            have hy : ¬ y < (k : Int) := fun h => by have := HDk.out.1 h; cases this
            clear HOk HP2 hx HDk hx2
            go_wp2_with fail
            go_roundw
            case rel => first | exact ⟨k + 1, by omega, by go_num, HO2, HP3, XA.out, XR.out, HB.out⟩ | ((repeat apply Exists.intro); exact ⟨⟨k + 1, by omega, by go_num, HO2, HP3, XA.out, XR.out, HB.out⟩, rfl⟩)
            case measure => simp [intOf]; omega
          · have HR : Hid (r = ([], [], 8)) := Lib.hid (by rw [HG.out, HOk.out]; rfl)
            have hy : y < (k : Int) := HDk.out.2 rfl
            clear HG HOk HP2 HDk
            have XR_0 := XR.out.at_ 0 _ rfl
            have XR_1 := XR.out.at_ 1 _ rfl
            have XR_l := XR.out.lt
            have XR_z0 := XR.out.frozen 0
            have XR_z1 := XR.out.frozen 1
            go_wp2_with fail
            refine bodyPost_ret (v := .tuple #[.agg #[.slice none 0 0, .slice none 0 0], .int .i64 8]) (by simp [results, Tryd.results30, go_sem, XR_0, XR_1, XR_l]) rfl ?_
            exact parw_no HR.out (below_zrs (g := w.heap.size + 1) HB.out (Nat.le_succ _))
      · have hlt2 : ¬ (k : Int) < K := by omega
        obtain ⟨wl, rfl⟩ : ∃ x : World, x = wr := ⟨_, rfl⟩
        obtain rfl : k = K := by omega
        have HOZ : Hid (oe [] l = 0) := Lib.hid (by rw [HO.out, HOE.out])
        have HR : Hid (r = (l, rs.map pk, 0)) := Lib.hid (by rw [HG.out, HOZ.out, if_neg (by decide)])
        have HTK : Hid (l.take k = l) := Lib.hid (by rw [HKK.out, List.take_length])
        clear HG HO HOD HOE HOZ CC HDU
        have XA5 := XA
        have XR5 := XR
        have HW5 := Lib.hid HB.out.size
        go_upto_region 11 with fail
        have HC := Lib.hid (below_alloc wl (.cells #[.slice A3 k c3, .slice none 0 0] 26))
        have XO := Lib.hid (box_new (W := wl) (g := wl.heap.size) 26 #[.slice A3 k c3, .slice none 0 0] (by simp))
        have hba := (below_alloc wl (.cells #[.slice A3 k c3, .slice none 0 0] 26))
        replace XA := Lib.hid (XA.out.below hba)
        replace HB := Lib.hid (below_step HB.out hba)
        clear hba
        generalize wl.alloc (.cells #[.slice A3 k c3, .slice none 0 0] 26) = w6 at *
        have hw5 : w.heap.size ≤ wl.heap.size := HW5.out
        go_wp2_with fail
        clear XA XR
        go_loopw [8] (fun i wx => ∃ (q : Nat) (RA : Option Addr) (rc : Nat), q ≤ M ∧ i = .int .i64 q ∧ OG ilR wx wl.heap.size 0 44 (.slice RA q rc) ((rs.take q).map pk) ∧ Box wx wl.heap.size #[.slice A3 k c3, .slice RA q rc] 26 ∧ Below wl.heap.size wl wx ∧ Below w.heap.size w wx) (fun i _ => M - (intOf i).toNat)
        case atStart => exact ⟨0, none, 0, Nat.zero_le _, rfl, OG.nil ilR _ _ _ _ (by decide) (Nat.zero_le _), XO.out, HC.out, HB.out⟩
        case round =>
          clear HB HC XO
          obtain ⟨q, RA, rc, hq, rfl, hog, hxo, hc, hb⟩ := hrel
          have HC := Lib.hid hc
          have HB := Lib.hid hb
          have HOG := Lib.hid hog
          have XO := Lib.hid hxo
          have hlq : ((rs.take q).map pk).length = q := by rw [List.length_map, List.length_take, ← HMM.out]; omega
          have HLQ := Lib.hid hlq
          have XA := Lib.hid (XA5.out.below HC.out)
          clear hc hb hog hxo hlq
          have XA_1 := XA.out.at_ 1 _ rfl
          by_cases hlt : q < M
          · have hlt2 : (q : Int) < M := by omega
            have hq0 : (0 : Int) ≤ (q : Int) := by omega
            have hqn : q < rs.length := by rw [← HMM.out]; exact hlt
            obtain ⟨bq, oq, E, e1, rfl, QA, IA⟩ := HRA.out q hqn
            have hlr := HROW.out q hqn
            have HST := Lib.hid (mapI_step pk rs [] q hqn)
            have HPR := Lib.hid (HPK.out (rs.getD q []))
            rw [hlr] at QA IA
            generalize rs.getD q [] = row at *
            generalize pk row = prow at *
            have HQA := Lib.hid QA
            have HIA := Lib.hid IA
            have HLR := Lib.hid hlr
            clear QA IA hqn hlr
            obtain ⟨wo, rfl⟩ : ∃ x : World, x = wr := ⟨_, rfl⟩
            go_wp2_with fail
            clear XA_1
            go_loopw [9, 10] (fun lv i wx => ∃ j : Nat, j ≤ k ∧ i = .int .i64 j ∧ OG intR wx wo.heap.size 0 3 lv ((l.take j).map fun s => row.getD (ixf s).toNat 0) ∧ Below wo.heap.size wo wx) (fun _ i _ => k - (intOf i).toNat)
            case atStart => exact ⟨0, Nat.zero_le _, rfl, OG.nil intR _ _ _ _ (by decide) (Nat.zero_le _), Below.refl _ _⟩
            case round =>
              obtain ⟨j, hj, rfl, hog, hc⟩ := hrel
              have HD := Lib.hid hc
              have HLG := Lib.hid hog
              obtain ⟨LA, lc, rfl⟩ := hog.slice
              have hlj : ((l.take j).map fun s => row.getD (ixf s).toNat 0).length = j := by rw [List.length_map, List.length_take, ← HKK.out]; omega
              rw [hlj] at HLG ⊢
              have HLJ := Lib.hid hlj
              clear hc hog hlj
              by_cases hjt : j < k
              · have hjt2 : (j : Int) < k := by omega
                have hj0 : (0 : Int) ≤ (j : Int) := by omega
                have hjn : j < l.length := by rw [← HKK.out]; exact hjt
                obtain ⟨a3, rfl, hr3⟩ := HS3.out (by omega)
                have y0 : ∀ p : Lat wr, p.w.cell? (a3.add j) = some (.string (l.getD j ⟨#[]⟩)) := fun p => (hr3.below (below_step HB.out (below_step HD.out p.h))).cells j hjn
                have CIk := Lib.hid (CI.out (l.getD j ⟨#[]⟩))
                have hp := HP.out j hjt
                have hpx := HIX.out (l.getD j ⟨#[]⟩)
                have HSJ := Lib.hid (mapI_step (fun s => row.getD (ixf s).toNat 0) l ⟨#[]⟩ j hjn)
                try simp only at HSJ
                generalize l.getD j ⟨#[]⟩ = s at *
                generalize ixf s = x at *
                obtain ⟨m, rfl⟩ : ∃ m : Nat, x = m := ⟨x.toNat, by omega⟩
                rw [Int.toNat_natCast] at HSJ
                have hmN : m < N := by omega
                have hmN2 : (m : Int) < N := by omega
                have hm0 : (0 : Int) ≤ (m : Int) := by omega
                obtain ⟨ea, rfl, EA⟩ := il_at HIA.out (j := m) (by rw [HLR.out]; exact hmN)
                have y1 : ∀ p : Lat wr, p.w.cell? ⟨bq, oq + q, none⟩ = some (.slice (some ea) N e1) := fun p => HQA.out p.w (below_step HB.out (below_step HD.out p.h))
                have y2 : ∀ p : Lat wr, p.w.cell? (ea.add m) = some (.int .i64 (row.getD m 0)) := fun p => EA p.w (below_step HB.out (below_step HD.out p.h))
                generalize row.getD m 0 = z at *
                have XA2 := Lib.hid (XA.out.below HD.out)
                have HBW := Lib.hid (below_step HB.out HD.out)
                clear EA hjn hp hpx hr3
                go_upto_region 18 with fail
                refine wp_region_gen 16 (Kit.of [gVal 12 [] (.int .i64 (m : Int)), fSlice 15 [] wr.heap.size #[.int .i64 z] 3]) (by kernel_rfl) (by kernel_rfl) (fun γ => by kernel_rfl) (by kernel_rfl) (Kit.of_stable ?_) (Kit.of_known ?_) ?_
                · intro z hz; simp only [List.mem_cons, List.not_mem_nil, or_false] at hz; rcases hz with rfl | rfl
                  · apply gVal_st
                  · apply fSlice_st
                · intro z hz; simp only [List.mem_cons, List.not_mem_nil, or_false] at hz; rcases hz with rfl | rfl
                  · apply gVal_kn
                  · apply fSlice_kn
                intro γ hγ C hC hne
                have e12 : γ 12 = .int .i64 (m : Int) := hγ 12 rfl
                obtain ⟨g15, e15⟩ : ∃ g, γ 15 = .slice (some ⟨g, 0, none⟩) 1 1 := hγ 15 rfl
                have l0 := XA2.out.latC (C := C) 0 _ rfl
                have l1 := XA2.out.latC (C := C) 1 _ rfl
                have y3 := fun p : LatC wr C => y0 ⟨p.w, p.h⟩
                have y4 := fun p : LatC wr C => y1 ⟨p.w, p.h⟩
                have y5 := fun p : LatC wr C => y2 ⟨p.w, p.h⟩
                simp only at y3 y4 y5
                clear y0 y1 y2
                simp only [List.take_succ_cons, List.take_zero, List.drop_succ_cons, List.drop_zero]
                iterate 12 (refine wpF_quiet rfl ?_; go_big_quiet_step (fail); refine wpQuiet_nil ?_)
                refine wpF_fresh rfl (freshAt_call (args := #[.slice A1 N c1, .string s]) rfl _ _ _ (run_go Tryd.func52 (by kernel_rfl) (by kernel_rfl)) rfl (by simp [Act.eval]) (fun w' hb hf => (CIk.out w' (below_step HBW.out hb)).mono fun e w2 ⟨he, h1⟩ => ⟨_, he, rfl, by rw [← h1]; exact Below.refl _ _⟩)) ?_
                simp only [Nat.zero_add, Nat.reduceAdd, e12]
                go_simp
                iterate 2 (refine wpF_quiet rfl ?_; go_big_quiet_step (fail); refine wpQuiet_nil ?_)
                refine wpF_fresh rfl (freshAt_slice rfl (fun w => by kernel_rfl) (fun w' g hg hx => ⟨g, rfl, hx, hg⟩)) ?_
                simp only [Nat.zero_add, Nat.reduceAdd, e15]
                go_simp
                intro w6 hb hF
                obtain ⟨Y, hgy⟩ := slice_at e15 (hF 15 (by decide) rfl)
                have HY := Lib.hid Y
                clear l0 l1 y3 y4 y5 hF hγ hC hne e12 e15 Y hgy XA2 HBW CIk
                have HLGa := Lib.hid (HLG.out.below hb)
                have HDa := Lib.hid (below_step HD.out hb)
                clear hb
                have HR4 : Hid (Rs intR w6 (.slice (some ⟨g15, 0, none⟩) 1 1) [z] (Ty w6 0 intR.ts)) := Lib.hid (rs_box1 (φ := intR) (us := [.int .i64 z]) (x := z) HY.out rfl)
                go_wp2_with (at_builtin; refine wpList_append_og (φ := intR) (T := 3) (B := wo.heap.size) (C := 0) (xs := (l.take j).map fun s => row.getD (ixf s).toNat 0) (ys := [z]) rfl _ _ 44 rfl i0 (.int .i64 0) 8 Tryd.underlying44 JI.out JZ0.out JZ1.out JZ2.out rfl rfl HLGa.out (.slice (some ⟨g15, 0, none⟩) 1 1) rfl HR4.out ?c1 ?c2 ?c3 ?_)
                case c1 => (try simp only [List.length_cons, List.length_nil]); rw [HLJ.out]; omega
                case c2 => (try simp only [List.length_cons, List.length_nil]); rw [HLJ.out]; unfold maxLen; omega
                case c3 => have := HDa.out.size; first | exact this | simpa using this
                intro v' w7 hog7 hg7
                clear HD HLG
                have HD := Lib.hid (HLGa.out.belowG hg7.out HDa.out HDa.out.size (Nat.le_refl _))
                have hog8 : Hid (OG intR w7 wo.heap.size 0 3 v' ((l.take (j + 1)).map fun s => row.getD (ixf s).toNat 0)) := Lib.hid (by rw [HSJ.out]; first | exact hog7.out | (rw [List.map_take]; exact hog7.out))
                clear HLGa HDa hg7 HR4 hog7 HY
                go_wp2_with fail
                go_roundw
                case rel => first | exact ⟨j + 1, by omega, by go_num, hog8.out, HD.out⟩ | ((repeat apply Exists.intro); exact ⟨⟨j + 1, by omega, by go_num, hog8.out, HD.out⟩, rfl⟩)
                case measure => simp [intOf]; omega
              · have hjt2 : ¬ (j : Int) < k := by omega
                have hjk : j = k := by omega
                have HGR : Hid (OG intR wr wo.heap.size 0 3 (.slice LA j lc) prow) := Lib.hid (by
                  have := HLG.out
                  rw [HPR.out]
                  rwa [hjk, HTK.out, ← hjk] at this)
                have hpl : prow.length = j := by rw [HPR.out, List.length_map, ← HKK.out]; omega
                replace HOG := Lib.hid (HOG.out.below HD.out)
                replace XO := Lib.hid (XO.out.below HD.out)
                replace HC := Lib.hid (below_step HC.out HD.out)
                replace HB := Lib.hid (below_step HB.out HD.out)
                clear HLG HD HLJ hjk
                have hbl := below_alloc wr (.cells #[.slice LA j lc] 44)
                have HR4 : Hid (Rs ilR (wr.alloc (.cells #[.slice LA j lc] 44)) (.slice (some ⟨wr.heap.size, 0, none⟩) 1 1) [prow] (Ty (wr.alloc (.cells #[.slice LA j lc] 44)) 0 ilR.ts)) :=
                  Lib.hid ((Rs.one (φ := ilR) (us := [.slice LA j lc]) (x := prow) (HGR.out.rowR 0) 44).mono fun q hq => hq.below hbl)
                have HOGa := Lib.hid (HOG.out.below hbl)
                have HBa := Lib.hid (below_step HB.out hbl)
                have HCa := Lib.hid (below_step HC.out hbl)
                have XOa := Lib.hid (XO.out.below hbl)
                have XO_1 := XO.out.at_ 1 _ rfl
                clear hbl HGR hpl
                go_wp2_with (at_builtin; refine wpList_append_og (φ := ilR) (T := 44) (B := wl.heap.size) (C := 0) (xs := (rs.take q).map pk) (ys := [prow]) rfl _ _ 24 rfl i1 (.slice none 0 0) 24 Tryd.underlying24 II.out IZ0.out IZ1.out IZ2.out rfl rfl HOGa.out (.slice (some ⟨wr.heap.size, 0, none⟩) 1 1) rfl HR4.out ?c1 ?c2 ?c3 ?_)
                case c1 => (try simp only [List.length_cons, List.length_nil]); have := HMM.out; first | (rw [HLQ.out]; omega) | (simp only [List.length_map, List.length_take]; omega) | omega
                case c2 => (try simp only [List.length_cons, List.length_nil]); have := HMM.out; first | (rw [HLQ.out]; unfold maxLen; omega) | (simp only [List.length_map, List.length_take, maxLen]; omega) | (unfold maxLen; omega)
                case c3 => have := HCa.out.size; first | exact this | simpa using this
                intro v' w7 hog7 hg7
                clear XO_1 HB HC HOG XO
                have XO := Lib.hid (HOGa.out.boxKept hg7.out XOa.out (.inl (by decide)))
                have HB := Lib.hid (HOGa.out.belowG hg7.out HBa.out HBa.out.size hw5)
                have HC := Lib.hid (HOGa.out.belowG hg7.out HCa.out HCa.out.size (Nat.le_refl _))
                have HOG : Hid (OG ilR w7 wl.heap.size 0 44 v' ((rs.take (q + 1)).map pk)) := Lib.hid (by rw [HST.out]; first | exact hog7.out | (rw [List.map_take]; exact hog7.out))
                obtain ⟨A7, c7, hv'⟩ := HOG.out.slice
                have hl7 : ((rs.take (q + 1)).map pk).length = q + 1 := by rw [List.length_map, List.length_take, ← HMM.out]; omega
                rw [hl7] at hv'
                subst hv'
                clear HOGa HBa HCa XOa hg7 HR4 hog7 hl7
                have HC' := Lib.hid (HC.out.setCell (p := ⟨wl.heap.size, 1, none⟩) (Nat.le_refl _) (.slice A7 (q + 1) c7))
                clear HC
                have XO' := Lib.hid (XO.out.set_ 1 (.slice A7 (q + 1) c7))
                have HOG' := Lib.hid (HOG.out.setBox XO.out (by decide) (by omega) (by decide) 1 (.slice A7 (q + 1) c7))
                have HB' := Lib.hid (HB.out.setCell (p := ⟨wl.heap.size, 1, none⟩) (by show w.heap.size ≤ wl.heap.size; omega) (.slice A7 (q + 1) c7))
                have XO_1 := XO.out.at_ 1 _ rfl
                have XO_l := XO.out.lt
                have XO_z1 := XO.out.frozen 1
                go_upto_region 13 with fail
                clear XO_1 XO_l XO_z1
                clear HB XO HOG
                generalize w7.setCell ⟨wl.heap.size, 1, none⟩ (.slice A7 (q + 1) c7) = w8 at *
                have XO : Hid (Box w8 wl.heap.size #[.slice A3 k c3, .slice A7 (q + 1) c7] 26) := XO'
                have HOG := HOG'
                have HB := HB'
                clear HB' XO' HOG'
                go_wp2_with fail
                go_roundw
                case rel => first | exact ⟨q + 1, A7, c7, by omega, by go_num, HOG.out, XO.out, HC'.out, HB.out⟩ | ((repeat apply Exists.intro); exact ⟨⟨q + 1, A7, c7, by omega, by go_num, HOG.out, XO.out, HC'.out, HB.out⟩, rfl⟩)
                case measure => simp [intOf]; omega
          · have hlt2 : ¬ (q : Int) < M := by omega
            have hqM : q = M := by omega
            have XR := Lib.hid (XR5.out.below HC.out)
            have HRW : Hid ((rs.take q).map pk = rs.map pk) := Lib.hid (by rw [hqM, HMM.out, List.take_length])
            rw [HRW.out] at HOG
            have SN := Lib.hid (SV3.out.below HB.out)
            clear hqM HLQ
            have XA_1 := XA.out.at_ 1 _ rfl
            go_upto_region 20 with fail
            clear XA_1
            have XO_0 := XO.out.at_ 0 _ rfl
            have XO_1 := XO.out.at_ 1 _ rfl
            have XR_0 := XR.out.at_ 0 _ rfl
            have XR_1 := XR.out.at_ 1 _ rfl
            have XR_l := XR.out.lt
            have XR_z0 := XR.out.frozen 0
            have XR_z1 := XR.out.frozen 1
            go_wp2_with fail
            refine bodyPost_ret (v := .tuple #[.agg #[.slice A3 k c3, .slice RA q rc], .int .i64 0]) (by simp [results, Tryd.results30, go_sem, XR_0, XR_1, XR_l]) rfl ?_
            rw [HR.out]
            exact ⟨_, _, rfl, (SN.out.setBoxW XR.out (by simp)).setBoxW (XR.out.set_ 0 (.slice A3 k c3)) (by simp), ((HOG.out.setBox XR.out (by decide) (Nat.zero_le _) (by decide) 0 (.slice A3 k c3)).setBox (XR.out.set_ 0 (.slice A3 k c3)) (by decide) (Nat.zero_le _) (by decide) 1 (.slice RA q rc)).any, (HB.out.setCell (p := ⟨w.heap.size + 1, 0, none⟩) (Nat.le_succ _) _).setCell (p := ⟨w.heap.size + 1, 1, none⟩) (Nat.le_succ _) _⟩

end Go.Proofs.YthpioaboekpjoaaDoor

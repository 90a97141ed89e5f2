/-
  Contract of wave.Only.
-/
import Derived.Test.YthpioaboekpjoaaDoorWavU
namespace Go.Proofs.YthpioaboekpjoaaDoor
open Go.RowKit
set_option linter.unusedVariables false
set_option linter.unusedSimpArgs false

theorem onlyE_drop (ns : List ByteArray) {l : List ByteArray} {k : Nat} (hk : k < l.length) : onlyE ns (l.take k) (l.drop k) = if Lib.idxOfS ns (l.getD k ⟨#[]⟩) < 0 then 7 else if Lib.containsS (l.take k) (l.getD k ⟨#[]⟩) = true then 8 else onlyE ns (l.take (k + 1)) (l.drop (k + 1)) := by
  rw [take_snocD l k ⟨#[]⟩ hk, List.drop_eq_getElem_cons hk, List.getD_eq_getElem?_getD, List.getElem?_eq_getElem hk]; rfl
theorem onlyE_end (ns l : List ByteArray) : onlyE ns (l.take l.length) (l.drop l.length) = 0 := by rw [List.drop_length]; rfl
theorem mapI_step {α β : Type} (f : α → β) (l : List α) (d : α) (k : Nat) (h : k < l.length) : (l.take (k + 1)).map f = (l.take k).map f ++ [f (l.getD k d)] := by
  rw [take_snocD l k d h, List.map_append]; rfl
theorem mapI_get {α β : Type} (f : α → β) (l : List α) (d : α) (e : β) (k : Nat) (h : k < l.length) : (l.map f).getD k e = f (l.getD k d) := by
  simp [List.getD_eq_getElem?_getD, List.getElem?_eq_getElem h]

set_option maxRecDepth 100000 in
set_option maxHeartbeats 16000000 in
theorem wavOnly (w : World) (v1 v2 v3 : Value) (ns l : List ByteArray) (rs : List (List Int)) (h1 : SL w v1 ns) (h2 : Rs ilR w v2 rs anyB) (h3 : SL w v3 l) (hz : WZ ns rs) (hl : l.length ≤ 1000) (hk : KW w) (hm : MLen w) :
    Calls Tryd.prog 29 #[.agg #[v1, v2], v3] w (PARW w (woT ns rs l)) := by
  have CV := Lib.hid (fun W (hW : Below w.heap.size w W) => wavValid W v1 v2 ns rs (h1.below hW) (h2.below hW) hz (hk.below hW) (hm.below hW))
  have CI := Lib.hid (fun s W (hW : Below w.heap.size w W) => slIndex W v1 ns s (h1.below hW) hz.1)
  have CL := Lib.hid (fun W (hW : Below w.heap.size w W) => slCloneS W v3 l (h3.below hW) (by omega))
  have HG : Hid (woT ns rs l = if wvV ns rs = false then ([], [], 1) else if onlyE ns [] l ≠ 0 then ([], [], onlyE ns [] l) else (l, rs.map (pick ns l), 0)) := Lib.hid rfl
  have HV4 : Hid (wvV ns rs = true → rs.length ≤ 4096 ∧ ∀ k, k < rs.length → (rs.getD k []).length = ns.length) := Lib.hid fun hv => ⟨(of_decide_eq_true hv : WvV ns rs).2.1, fun k hk => ((of_decide_eq_true hv : WvV ns rs).2.2.2 _ (getD_mem [] hk)).1⟩
  have HIX : Hid (∀ s, Lib.idxOfS ns s < ns.length) := Lib.hid fun s => (idx_bd ns s).2
  have HOD := Lib.hid (fun k hk => onlyE_drop ns (l := l) (k := k) hk)
  have HOE := Lib.hid (onlyE_end ns l)
  have HPK : Hid (∀ r, pick ns l r = l.map fun s => r.getD (Lib.idxOfS ns s).toNat 0) := Lib.hid fun r => rfl
  have SV3 := Lib.hid h3
  have HRA := Lib.hid (fun k hk => row_at (rs := rs) (k := k) (w := w) (A := (match v2 with | .slice A _ _ => A | _ => none)) (M := rs.length) (c := (match v2 with | .slice _ _ c => c | _ => 0)) (by obtain ⟨A, c, rfl, _⟩ := h2.slice; exact h2) hk)
  obtain ⟨A2, c2, rfl, hc2⟩ := h2.slice
  obtain ⟨A1, c1, rfl, hc1, -⟩ := h1
  obtain ⟨A3, c3, rfl, hc3, hs3⟩ := h3
  have HS3 := Lib.hid hs3
  have n2 := hz.2.1
  simp only at HRA
  obtain ⟨N, hN⟩ : ∃ N, N = ns.length := ⟨_, rfl⟩
  obtain ⟨M, hM⟩ : ∃ M, M = rs.length := ⟨_, rfl⟩
  obtain ⟨K, hK⟩ : ∃ K, K = l.length := ⟨_, rfl⟩
  have HMM := Lib.hid hM
  have HKK := Lib.hid hK
  rw [← hN] at CV CI HIX HV4 ⊢
  rw [← hM] at CV n2 ⊢
  rw [← hK] at CL SV3 HOE hc3 hl ⊢
  have CC := Lib.hid (fun k (hk : k ≤ K) s W (hW : Below w.heap.size w W) => slContains W (.slice A3 k c3) (l.take k) s ((SV3.out.takeA k hk).below hW) (by rw [List.length_take]; omega))
  obtain ⟨ixf, hix⟩ : ∃ f : ByteArray → Int, f = Lib.idxOfS ns := ⟨_, rfl⟩
  rw [← hix] at CI HIX HOD HPK
  obtain ⟨oe, hoe⟩ : ∃ f : List ByteArray → List ByteArray → Int, f = onlyE ns := ⟨_, rfl⟩
  rw [← hoe] at HG HOD HOE
  have H0 : Hid (oe [] l = oe (l.take 0) (l.drop 0)) := Lib.hid (by rw [List.take_zero, List.drop_zero])
  generalize woT ns rs l = r at *
  generalize wvV ns rs = va at *
  generalize pick ns l = pk at *
  obtain ⟨i0, hi, hz0, hz1, hz2⟩ := info_parts iint3
  have JI := Lib.hid hi
  have JZ0 := Lib.hid hz0
  have JZ1 := Lib.hid hz1
  have JZ2 := Lib.hid hz2
  clear hi hz0 hz1 hz2
  obtain ⟨i1, hi, hz0, hz1, hz2⟩ := info_parts ilist
  have II := Lib.hid hi
  have IZ0 := Lib.hid hz0
  have IZ1 := Lib.hid hz1
  have IZ2 := Lib.hid hz2
  clear hi hz0 hz1 hz2 h2 hz hc1 hc2 hN hM hK hs3 hk hm hix hoe
  go_enter Tryd.func29, Tryd.ntmps29
  go_upto_region 1 with fail
  have XA := Lib.hid ((box_new (W := w) (g := w.heap.size) 26 #[.slice A1 N c1, .slice A2 M c2] (by simp)).below (below_alloc _ (.cells #[.slice none 0 0, .slice none 0 0] 26)))
  have XR := Lib.hid (box_new (W := (w.alloc (.cells #[.slice A1 N c1, .slice A2 M c2] 26))) (g := w.heap.size + 1) 26 #[.slice none 0 0, .slice none 0 0] (by simp))
  have HB := Lib.hid (below_step (below_alloc w (.cells #[.slice A1 N c1, .slice A2 M c2] 26)) (below_alloc (w.alloc (.cells #[.slice A1 N c1, .slice A2 M c2] 26)) (.cells #[.slice none 0 0, .slice none 0 0] 26)))
  generalize (w.alloc (.cells #[.slice A1 N c1, .slice A2 M c2] 26)).alloc (.cells #[.slice none 0 0, .slice none 0 0] 26) = w1 at *
  have XA_0 := XA.out.at_ 0 _ rfl
  have XA_1 := XA.out.at_ 1 _ rfl
  go_wp2_with fail
  refine (CV.out _ HB.out).mono ?_; rintro e w3 ⟨rfl, hb⟩
  clear XA_0 XA_1
  replace XA := Lib.hid (XA.out.below hb)
  replace XR := Lib.hid (XR.out.below hb)
  replace HB := Lib.hid (below_step HB.out hb)
  clear hb
  clear CV
  cases va
  case false =>
    have HR : Hid (r = ([], [], 1)) := Lib.hid (by rw [HG.out, if_pos rfl])
    clear HG HV4 HOD HOE
    have XR_0 := XR.out.at_ 0 _ rfl
    have XR_1 := XR.out.at_ 1 _ rfl
    have XR_l := XR.out.lt
    have XR_z0 := XR.out.frozen 0
    have XR_z1 := XR.out.frozen 1
    go_wp2_with fail
    refine bodyPost_ret (v := .tuple #[.agg #[.slice none 0 0, .slice none 0 0], .int .i64 1]) (by simp [results, Tryd.results29, go_sem, XR_0, XR_1, XR_l]) rfl ?_
    exact parw_no HR.out (below_zrs (g := w.heap.size + 1) HB.out (Nat.le_succ _))
  case true =>
    obtain ⟨hM4, hrow⟩ := HV4.out rfl
    have HROW := Lib.hid hrow
    rw [if_neg (by decide)] at HG
    clear HV4 hrow
    go_wp2_with fail
    go_loopw [6, 22] (fun av i wr => ∃ k : Nat, k ≤ K ∧ i = .int .i64 k ∧ OG intR wr w.heap.size 0 3 av ((l.take k).map ixf) ∧ Hid (oe [] l = oe (l.take k) (l.drop k)) ∧ Hid (∀ j, j < k → 0 ≤ ixf (l.getD j ⟨#[]⟩)) ∧ Box wr w.heap.size #[.slice A1 N c1, .slice A2 M c2] 26 ∧ Box wr (w.heap.size + 1) #[.slice none 0 0, .slice none 0 0] 26 ∧ Below w.heap.size w wr) (fun _ i _ => K - (intOf i).toNat)
    case atStart => exact ⟨0, Nat.zero_le _, rfl, OG.nil intR _ _ _ _ (by decide) (Nat.zero_le _), H0, Lib.hid (fun j h => by omega), XA.out, XR.out, HB.out⟩
    case round =>
      clear HB XA XR H0
      obtain ⟨k, hk, rfl, hog, HO, HP, hxa, hxr, hb⟩ := hrel
      have XA := Lib.hid hxa
      have XR := Lib.hid hxr
      have HB := Lib.hid hb
      have HOG := Lib.hid hog
      obtain ⟨OA, oc, rfl⟩ := hog.slice
      have hlj : ((l.take k).map ixf).length = k := by rw [List.length_map, List.length_take, ← HKK.out]; omega
      rw [hlj] at HOG ⊢
      have HLJ := Lib.hid hlj
      clear hb hxa hxr hog hlj
      by_cases hlt : k < K
      · have hlt2 : (k : Int) < K := by omega
        have hk0 : (0 : Int) ≤ (k : Int) := by omega
        have hkc : (k : Int) ≤ (c3 : Int) := by omega
        have hkc2 : k ≤ c3 := by omega
        have hkn : k < l.length := by rw [← HKK.out]; exact hlt
        obtain ⟨a3, rfl, hr3⟩ := HS3.out (by omega)
        have q1 := (hr3.below HB.out).cells k hkn
        have CIk := Lib.hid (CI.out (l.getD k ⟨#[]⟩))
        have CCk := Lib.hid (CC.out k hk (l.getD k ⟨#[]⟩))
        have HOk := Lib.hid (HO.out.trans (HOD.out k hkn))
        have HST := Lib.hid (mapI_step ixf l ⟨#[]⟩ k hkn)
        have HP2 : Hid (0 ≤ ixf (l.getD k ⟨#[]⟩) → ∀ j, j < k + 1 → 0 ≤ ixf (l.getD j ⟨#[]⟩)) := Lib.hid fun h j hj => by
          by_cases e : j = k
          · rw [e]; exact h
          · exact HP.out j (by omega)
        generalize l.getD k ⟨#[]⟩ = s at *
        generalize Lib.containsS (l.take k) s = cb at *
        generalize ixf s = x at *
        clear hr3 hkn HO HP
        have XA_0 := XA.out.at_ 0 _ rfl
        go_wp2_with fail
        refine (CIk.out _ HB.out).mono ?_; rintro e w4 ⟨rfl, rfl⟩
        clear CIk q1
        clear XA_0
        by_cases hx : x < 0
        · have HR : Hid (r = ([], [], 7)) := Lib.hid (by rw [HG.out, HOk.out, if_pos hx]; rfl)
          clear HG HOk HST HP2
          have XR_0 := XR.out.at_ 0 _ rfl
          have XR_1 := XR.out.at_ 1 _ rfl
          have XR_l := XR.out.lt
          have XR_z0 := XR.out.frozen 0
          have XR_z1 := XR.out.frozen 1
          go_wp2_with fail
          refine bodyPost_ret (v := .tuple #[.agg #[.slice none 0 0, .slice none 0 0], .int .i64 7]) (by simp [results, Tryd.results29, go_sem, XR_0, XR_1, XR_l]) rfl ?_
          exact parw_no HR.out (below_zrs (g := w.heap.size + 1) HB.out (Nat.le_succ _))
        · rw [if_neg hx] at HOk
          go_wp2_with fail
          refine (CCk.out _ HB.out).mono ?_; rintro e w4 ⟨rfl, rfl⟩
          clear CCk
          cases cb
          · have HO2 : Hid (oe [] l = oe (l.take (k + 1)) (l.drop (k + 1))) := Lib.hid (by rw [HOk.out]; rfl)
            have HP3 := Lib.hid (HP2.out (by omega))
            clear HOk HP2 hx
            have hbl := below_alloc wr (.cells #[.int .i64 x] 3)
            have HR4 : Hid (Rs intR (wr.alloc (.cells #[.int .i64 x] 3)) (.slice (some ⟨wr.heap.size, 0, none⟩) 1 1) [x] (Ty (wr.alloc (.cells #[.int .i64 x] 3)) 0 intR.ts)) :=
              Lib.hid (Rs.one (φ := intR) (us := [.int .i64 x]) (x := x) rfl 3)
            have HOGa := Lib.hid (HOG.out.below hbl)
            have XAa := Lib.hid (XA.out.below hbl)
            have XRa := Lib.hid (XR.out.below hbl)
            have HBa := Lib.hid (below_step HB.out hbl)
            clear hbl
            go_wp2_with (at_builtin; refine wpList_append_og (φ := intR) (T := 3) (B := w.heap.size) (C := 0) (xs := (l.take k).map ixf) (ys := [x]) rfl _ _ 44 rfl i0 (.int .i64 0) 8 Tryd.underlying44 JI.out JZ0.out JZ1.out JZ2.out rfl rfl HOGa.out (.slice (some ⟨wr.heap.size, 0, none⟩) 1 1) rfl HR4.out ?c1 ?c2 ?c3 ?_)
            case c1 => (try simp only [List.length_cons, List.length_nil]); rw [HLJ.out]; omega
            case c2 => (try simp only [List.length_cons, List.length_nil]); rw [HLJ.out]; unfold maxLen; omega
            case c3 => have := HBa.out.size; first | exact this | simpa using this
            intro v' w7 hog7 hg7
            clear HB HOG XA XR
            have XA := Lib.hid (HOGa.out.boxKept hg7.out XAa.out (.inl (by decide)))
            have XR := Lib.hid (HOGa.out.boxKept hg7.out XRa.out (.inl (by decide)))
            have HB := Lib.hid (HOGa.out.belowG hg7.out HBa.out HBa.out.size (Nat.le_refl _))
            have hog8 : Hid (OG intR w7 w.heap.size 0 3 v' ((l.take (k + 1)).map ixf)) := Lib.hid (by rw [HST.out]; first | exact hog7.out | (rw [List.map_take]; exact hog7.out))
            clear HOGa XAa XRa HBa hg7 HR4 hog7
            go_wp2_with fail
            go_roundw
            case rel => first | exact ⟨k + 1, by omega, by go_num, hog8.out, HO2, HP3, XA.out, XR.out, HB.out⟩ | ((repeat apply Exists.intro); exact ⟨⟨k + 1, by omega, by go_num, hog8.out, HO2, HP3, XA.out, XR.out, HB.out⟩, rfl⟩)
            case measure => simp [intOf]; omega
          · have HR : Hid (r = ([], [], 8)) := Lib.hid (by rw [HG.out, HOk.out]; rfl)
            clear HG HOk HST HP2
            have XR_0 := XR.out.at_ 0 _ rfl
            have XR_1 := XR.out.at_ 1 _ rfl
            have XR_l := XR.out.lt
            have XR_z0 := XR.out.frozen 0
            have XR_z1 := XR.out.frozen 1
            go_wp2_with fail
            refine bodyPost_ret (v := .tuple #[.agg #[.slice none 0 0, .slice none 0 0], .int .i64 8]) (by simp [results, Tryd.results29, go_sem, XR_0, XR_1, XR_l]) rfl ?_
            exact parw_no HR.out (below_zrs (g := w.heap.size + 1) HB.out (Nat.le_succ _))
      · have hlt2 : ¬ (k : Int) < K := by omega
        obtain ⟨wl, rfl⟩ : ∃ x : World, x = wr := ⟨_, rfl⟩
        obtain rfl : k = K := by omega
        have HOZ : Hid (oe [] l = 0) := Lib.hid (by rw [HO.out, HOE.out])
        have HR : Hid (r = (l, rs.map pk, 0)) := Lib.hid (by rw [HG.out, HOZ.out, if_neg (by decide)])
        have HTK : Hid (l.take k = l) := Lib.hid (by rw [HKK.out, List.take_length])
        have HAT : Hid (∀ W, Below wl.heap.size wl W → IL W (.slice OA k oc) (l.map ixf)) := Lib.hid fun W hW => by
          have := (HOG.out.below hW).il
          rwa [HTK.out] at this
        clear HG HO HOD HOE HOZ HOG CI CC
        go_wp2_with fail
        refine (CL.out _ HB.out).mono ?_; rintro e w5 ⟨nv, rfl, how, hb⟩
        clear CL
        have HNS := Lib.hid (ns_own how rfl (Nat.le_refl _))
        obtain ⟨NA, nc, rfl⟩ := sl_form HNS.out.1 HKK.out
        have HC5 := Lib.hid hb
        clear how
        replace XA := Lib.hid (XA.out.below hb)
        replace XR := Lib.hid (XR.out.below hb)
        replace HB := Lib.hid (below_step HB.out hb)
        clear hb
        have XA5 := XA
        have XR5 := XR
        go_upto_region 15 with fail
        have HC := Lib.hid (below_alloc w5 (.cells #[.slice NA k nc, .slice none 0 0] 26))
        have XO := Lib.hid (box_new (W := w5) (g := w5.heap.size) 26 #[.slice NA k nc, .slice none 0 0] (by simp))
        have hba := (below_alloc w5 (.cells #[.slice NA k nc, .slice none 0 0] 26))
        replace XA := Lib.hid (XA.out.below hba)
        replace XR := Lib.hid (XR.out.below hba)
        replace HB := Lib.hid (below_step HB.out hba)
        clear hba
        generalize w5.alloc (.cells #[.slice NA k nc, .slice none 0 0] 26) = w6 at *
        have hw5 : w.heap.size ≤ w5.heap.size := Nat.le_trans (Nat.le_succ _) (Nat.le_of_lt XR5.out.lt)
        have XA_1 := XA.out.at_ 1 _ rfl
        go_wp2_with fail
        clear XA_1
        clear XA XR
        go_loopw [53] (fun i wx => ∃ (q : Nat) (RA : Option Addr) (rc : Nat), q ≤ M ∧ i = .int .i64 q ∧ OG ilR wx w5.heap.size 0 44 (.slice RA q rc) ((rs.take q).map pk) ∧ Box wx w5.heap.size #[.slice NA k nc, .slice RA q rc] 26 ∧ Below w5.heap.size w5 wx ∧ Below w.heap.size w wx) (fun i _ => M - (intOf i).toNat)
        case atStart => exact ⟨0, none, 0, Nat.zero_le _, rfl, OG.nil ilR _ _ _ _ (by decide) (Nat.zero_le _), XO.out, HC.out, HB.out⟩
        case round =>
          clear HB HC XO
          obtain ⟨q, RA, rc, hq, rfl, hog, hxo, hc, hb⟩ := hrel
          have HC := Lib.hid hc
          have HB := Lib.hid hb
          have HOG := Lib.hid hog
          have XO := Lib.hid hxo
          have hlq : ((rs.take q).map pk).length = q := by rw [List.length_map, List.length_take, ← HMM.out]; omega
          have HLQ := Lib.hid hlq
          clear hc hb hog hxo hlq
          by_cases hlt : q < M
          · have hlt2 : (q : Int) < M := by omega
            have hq0 : (0 : Int) ≤ (q : Int) := by omega
            have hqn : q < rs.length := by rw [← HMM.out]; exact hlt
            obtain ⟨bq, oq, E, e1, rfl, QA, IA⟩ := HRA.out q hqn
            have hlr := HROW.out q hqn
            have HST := Lib.hid (mapI_step pk rs [] q hqn)
            have HPR := Lib.hid (HPK.out (rs.getD q []))
            rw [hlr] at QA IA
            generalize rs.getD q [] = row at *
            generalize pk row = prow at *
            have q1 := QA _ HB.out
            have HIA := Lib.hid IA
            have HLR := Lib.hid hlr
            clear QA IA hqn hlr
            obtain ⟨wo, rfl⟩ : ∃ x : World, x = wr := ⟨_, rfl⟩
            go_wp2_with fail
            clear q1
            go_loopw [13, 59] (fun lv i wx => ∃ j : Nat, j ≤ k ∧ i = .int .i64 j ∧ OG intR wx wo.heap.size 0 3 lv ((l.take j).map fun s => row.getD (ixf s).toNat 0) ∧ Below wo.heap.size wo wx) (fun _ i _ => k - (intOf i).toNat)
            case atStart => exact ⟨0, Nat.zero_le _, rfl, OG.nil intR _ _ _ _ (by decide) (Nat.zero_le _), Below.refl _ _⟩
            case round =>
              obtain ⟨j, hj, rfl, hog, hc⟩ := hrel
              have HD := Lib.hid hc
              have HLG := Lib.hid hog
              obtain ⟨LA, lc, rfl⟩ := hog.slice
              have hlj : ((l.take j).map fun s => row.getD (ixf s).toNat 0).length = j := by rw [List.length_map, List.length_take, ← HKK.out]; omega
              rw [hlj] at HLG ⊢
              have HLJ := Lib.hid hlj
              clear hc hog hlj
              by_cases hjt : j < k
              · have hjt2 : (j : Int) < k := by omega
                have hj0 : (0 : Int) ≤ (j : Int) := by omega
                have hjn : j < l.length := by rw [← HKK.out]; exact hjt
                obtain ⟨aa, haa, QT⟩ := il_at HAT.out (j := j) (by rw [List.length_map]; exact hjn)
                have q2 := QT wr (below_step HC5.out (below_step HC.out HD.out))
                rw [mapI_get ixf l ⟨#[]⟩ 0 j hjn] at q2
                have hp := HP.out j hjt
                have hpx := HIX.out (l.getD j ⟨#[]⟩)
                have HSJ := Lib.hid (mapI_step (fun s => row.getD (ixf s).toNat 0) l ⟨#[]⟩ j hjn)
                try simp only at HSJ
                generalize ixf (l.getD j ⟨#[]⟩) = x at *
                obtain ⟨m, rfl⟩ : ∃ m : Nat, x = m := ⟨x.toNat, by omega⟩
                rw [Int.toNat_natCast] at HSJ
                have hmN : m < N := by omega
                have hmN2 : (m : Int) < N := by omega
                have hm0 : (0 : Int) ≤ (m : Int) := by omega
                obtain ⟨ea, rfl, EA⟩ := il_at HIA.out (j := m) (by rw [HLR.out]; exact hmN)
                have q3 := EA wr (below_step HB.out HD.out)
                generalize row.getD m 0 = z at *
                subst haa
                clear QT EA hjn hp hpx
                have hbl := below_alloc wr (.cells #[.int .i64 z] 3)
                have HR4 : Hid (Rs intR (wr.alloc (.cells #[.int .i64 z] 3)) (.slice (some ⟨wr.heap.size, 0, none⟩) 1 1) [z] (Ty (wr.alloc (.cells #[.int .i64 z] 3)) 0 intR.ts)) :=
                  Lib.hid (Rs.one (φ := intR) (us := [.int .i64 z]) (x := z) rfl 3)
                have HLGa := Lib.hid (HLG.out.below hbl)
                have HDa := Lib.hid (below_step HD.out hbl)
                clear hbl
                go_wp2_with (at_builtin; refine wpList_append_og (φ := intR) (T := 3) (B := wo.heap.size) (C := 0) (xs := (l.take j).map fun s => row.getD (ixf s).toNat 0) (ys := [z]) rfl _ _ 44 rfl i0 (.int .i64 0) 8 Tryd.underlying44 JI.out JZ0.out JZ1.out JZ2.out rfl rfl HLGa.out (.slice (some ⟨wr.heap.size, 0, none⟩) 1 1) rfl HR4.out ?c1 ?c2 ?c3 ?_)
                case c1 => (try simp only [List.length_cons, List.length_nil]); rw [HLJ.out]; omega
                case c2 => (try simp only [List.length_cons, List.length_nil]); rw [HLJ.out]; unfold maxLen; omega
                case c3 => have := HDa.out.size; first | exact this | simpa using this
                intro v' w7 hog7 hg7
                clear HD HLG
                have HD := Lib.hid (HLGa.out.belowG hg7.out HDa.out HDa.out.size (Nat.le_refl _))
                have hog8 : Hid (OG intR w7 wo.heap.size 0 3 v' ((l.take (j + 1)).map fun s => row.getD (ixf s).toNat 0)) := Lib.hid (by rw [HSJ.out]; first | exact hog7.out | (rw [List.map_take]; exact hog7.out))
                clear HLGa HDa hg7 HR4 hog7 q2 q3
                go_wp2_with fail
                go_roundw
                case rel => first | exact ⟨j + 1, by omega, by go_num, hog8.out, HD.out⟩ | ((repeat apply Exists.intro); exact ⟨⟨j + 1, by omega, by go_num, hog8.out, HD.out⟩, rfl⟩)
                case measure => simp [intOf]; omega
              · have hjt2 : ¬ (j : Int) < k := by omega
                have hjk : j = k := by omega
                have HGR : Hid (OG intR wr wo.heap.size 0 3 (.slice LA j lc) prow) := Lib.hid (by
                  have := HLG.out
                  rw [HPR.out]
                  rwa [hjk, HTK.out, ← hjk] at this)
                have hpl : prow.length = j := by rw [HPR.out, List.length_map, ← HKK.out]; omega
                replace HOG := Lib.hid (HOG.out.below HD.out)
                replace XO := Lib.hid (XO.out.below HD.out)
                replace HC := Lib.hid (below_step HC.out HD.out)
                replace HB := Lib.hid (below_step HB.out HD.out)
                clear HLG HD HLJ hjk
                have hbl := below_alloc wr (.cells #[.slice LA j lc] 44)
                have HR4 : Hid (Rs ilR (wr.alloc (.cells #[.slice LA j lc] 44)) (.slice (some ⟨wr.heap.size, 0, none⟩) 1 1) [prow] (Ty (wr.alloc (.cells #[.slice LA j lc] 44)) 0 ilR.ts)) :=
                  Lib.hid ((Rs.one (φ := ilR) (us := [.slice LA j lc]) (x := prow) (HGR.out.rowR 0) 44).mono fun q hq => hq.below hbl)
                have HOGa := Lib.hid (HOG.out.below hbl)
                have HBa := Lib.hid (below_step HB.out hbl)
                have HCa := Lib.hid (below_step HC.out hbl)
                have XOa := Lib.hid (XO.out.below hbl)
                have XO_1 := XO.out.at_ 1 _ rfl
                clear hbl HGR hpl
                go_wp2_with (at_builtin; refine wpList_append_og (φ := ilR) (T := 44) (B := w5.heap.size) (C := 0) (xs := (rs.take q).map pk) (ys := [prow]) rfl _ _ 24 rfl i1 (.slice none 0 0) 24 Tryd.underlying24 II.out IZ0.out IZ1.out IZ2.out rfl rfl HOGa.out (.slice (some ⟨wr.heap.size, 0, none⟩) 1 1) rfl HR4.out ?c1 ?c2 ?c3 ?_)
                case c1 => (try simp only [List.length_cons, List.length_nil]); have := HMM.out; first | (rw [HLQ.out]; omega) | (simp only [List.length_map, List.length_take]; omega) | omega
                case c2 => (try simp only [List.length_cons, List.length_nil]); have := HMM.out; first | (rw [HLQ.out]; unfold maxLen; omega) | (simp only [List.length_map, List.length_take, maxLen]; omega) | (unfold maxLen; omega)
                case c3 => have := HCa.out.size; first | exact this | simpa using this
                intro v' w7 hog7 hg7
                clear XO_1 HB HC HOG XO
                have XO := Lib.hid (HOGa.out.boxKept hg7.out XOa.out (.inl (by decide)))
                have HB := Lib.hid (HOGa.out.belowG hg7.out HBa.out HBa.out.size hw5)
                have HC := Lib.hid (HOGa.out.belowG hg7.out HCa.out HCa.out.size (Nat.le_refl _))
                have HOG : Hid (OG ilR w7 w5.heap.size 0 44 v' ((rs.take (q + 1)).map pk)) := Lib.hid (by rw [HST.out]; first | exact hog7.out | (rw [List.map_take]; exact hog7.out))
                obtain ⟨A7, c7, hv'⟩ := HOG.out.slice
                have hl7 : ((rs.take (q + 1)).map pk).length = q + 1 := by rw [List.length_map, List.length_take, ← HMM.out]; omega
                rw [hl7] at hv'
                subst hv'
                clear HOGa HBa HCa XOa hg7 HR4 hog7 hl7
                have HC' := Lib.hid (HC.out.setCell (p := ⟨w5.heap.size, 1, none⟩) (Nat.le_refl _) (.slice A7 (q + 1) c7))
                clear HC
                have XO' := Lib.hid (XO.out.set_ 1 (.slice A7 (q + 1) c7))
                have HOG' := Lib.hid (HOG.out.setBox XO.out (by decide) (by omega) (by decide) 1 (.slice A7 (q + 1) c7))
                have HB' := Lib.hid (HB.out.setCell (p := ⟨w5.heap.size, 1, none⟩) (by show w.heap.size ≤ w5.heap.size; omega) (.slice A7 (q + 1) c7))
                have XO_1 := XO.out.at_ 1 _ rfl
                have XO_l := XO.out.lt
                have XO_z1 := XO.out.frozen 1
                go_upto_region 25 with fail
                clear XO_1 XO_l XO_z1
                clear HB XO HOG
                generalize w7.setCell ⟨w5.heap.size, 1, none⟩ (.slice A7 (q + 1) c7) = w8 at *
                have XO : Hid (Box w8 w5.heap.size #[.slice NA k nc, .slice A7 (q + 1) c7] 26) := XO'
                have HOG := HOG'
                have HB := HB'
                clear HB' XO' HOG'
                go_wp2_with fail
                go_roundw
                case rel => first | exact ⟨q + 1, A7, c7, by omega, by go_num, HOG.out, XO.out, HC'.out, HB.out⟩ | ((repeat apply Exists.intro); exact ⟨⟨q + 1, A7, c7, by omega, by go_num, HOG.out, XO.out, HC'.out, HB.out⟩, rfl⟩)
                case measure => simp [intOf]; omega
          · have hlt2 : ¬ (q : Int) < M := by omega
            have hqM : q = M := by omega
            have XR := Lib.hid (XR5.out.below HC.out)
            have HRW : Hid ((rs.take q).map pk = rs.map pk) := Lib.hid (by rw [hqM, HMM.out, List.take_length])
            rw [HRW.out] at HOG
            have SN := Lib.hid (HNS.out.1.below HC.out)
            clear hqM HLQ
            have XO_0 := XO.out.at_ 0 _ rfl
            have XO_1 := XO.out.at_ 1 _ rfl
            have XR_0 := XR.out.at_ 0 _ rfl
            have XR_1 := XR.out.at_ 1 _ rfl
            have XR_l := XR.out.lt
            have XR_z0 := XR.out.frozen 0
            have XR_z1 := XR.out.frozen 1
            go_wp2_with fail
            refine bodyPost_ret (v := .tuple #[.agg #[.slice NA k nc, .slice RA q rc], .int .i64 0]) (by simp [results, Tryd.results29, go_sem, XR_0, XR_1, XR_l]) rfl ?_
            rw [HR.out]
            exact ⟨_, _, rfl, (SN.out.setBoxW XR.out (by simp)).setBoxW (XR.out.set_ 0 (.slice NA k nc)) (by simp), ((HOG.out.setBox XR.out (by decide) (Nat.zero_le _) (by decide) 0 (.slice NA k nc)).setBox (XR.out.set_ 0 (.slice NA k nc)) (by decide) (Nat.zero_le _) (by decide) 1 (.slice RA q rc)).any, (HB.out.setCell (p := ⟨w.heap.size + 1, 0, none⟩) (Nat.le_succ _) _).setCell (p := ⟨w.heap.size + 1, 1, none⟩) (Nat.le_succ _) _⟩

end Go.Proofs.YthpioaboekpjoaaDoor

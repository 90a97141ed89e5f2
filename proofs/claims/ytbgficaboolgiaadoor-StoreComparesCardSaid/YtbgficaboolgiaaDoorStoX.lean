/-
  Walk of StoreDivides.
-/
import Derived.Test.YtbgficaboolgiaaDoorStoV
namespace Go.Proofs.YtbgficaboolgiaaDoor
open Go.RowKit Go.WideShapes Go.ChangeShapes Go.Deep
set_option linter.unusedVariables false
set_option linter.unusedSimpArgs false

theorem Rs.takeA {α : Type} {φ : Rd α} {w : World} {A : Option Addr} {N c : Nat} {xs : List α} {F : Nat → Prop} (h : Rs φ w (.slice A N c) xs F) (k : Nat) (hk : k ≤ N) : Rs φ w (.slice A k c) (xs.take k) F := by
  obtain ⟨A', c', e, hc, h⟩ := h
  simp only [Value.slice.injEq] at e
  obtain ⟨rfl, rfl, rfl⟩ := e
  have hl : (xs.take k).length = k := by rw [List.length_take]; omega
  refine ⟨A, c, by rw [hl], by omega, fun hn => ?_⟩
  obtain ⟨b, o, e, hb, hx⟩ := h (by omega)
  refine ⟨b, o, e, hb, fun j x hj => hx j x ?_⟩
  have hjk : j < k := by
    have := (List.getElem?_eq_some_iff.1 hj).1
    omega
  rwa [List.getElem?_take_of_lt hjk] at hj
theorem contains_hitS {l : List ByteArray} {s : ByteArray} {k : Nat} (hk : k < l.length) (h : l.getD k ⟨#[]⟩ = s) : Lib.containsS l s = true := by
  rw [Lib.containsS_iff, ← h, List.getD_eq_getElem?_getD, List.getElem?_eq_getElem hk]
  exact List.getElem_mem hk
theorem contains_missS {l : List ByteArray} {s : ByteArray} (h : ∀ j, j < l.length → l.getD j ⟨#[]⟩ ≠ s) : Lib.containsS l s = false := by
  cases hc : Lib.containsS l s
  · rfl
  · obtain ⟨j, hj, he⟩ := List.mem_iff_getElem.1 ((Lib.containsS_iff _ _).1 hc)
    exact absurd (by rw [List.getD_eq_getElem?_getD, List.getElem?_eq_getElem hj]; exact he) (h j hj)

set_option maxRecDepth 100000 in
set_option maxHeartbeats 4000000 in
theorem lawHas (w : World) (v : Value) (l : List ByteArray) (s : ByteArray) (h : SL w v l) (hn : l.length ≤ 9223372036854775807) :
    Calls Tryd.prog 19 #[v, .string s] w fun e w' => e = .returned (.bool (Lib.containsS l s)) ∧ w = w' := by
  obtain ⟨A, c, rfl, hc, hs⟩ := h
  have HC1 := Lib.hid (fun k hk h => contains_hitS (l := l) (s := s) (k := k) hk h)
  have HC2 := Lib.hid (contains_missS (l := l) (s := s))
  obtain ⟨N, hN⟩ : ∃ N, N = l.length := ⟨_, rfl⟩
  rw [← hN] at hs hc hn HC1 HC2 ⊢
  have HS := Lib.hid hs
  have HN := Lib.hid hN
  generalize Lib.containsS l s = r at *
  clear hs hN
  go_enter Tryd.func19, Tryd.ntmps19
  go_wp2_with fail
  go_loop [9] (fun i => ∃ k : Nat, k ≤ N ∧ i = .int .i64 k ∧ Hid (∀ j, j < k → l.getD j ⟨#[]⟩ ≠ s)) (fun i => N - (intOf i).toNat)
  case atStart => exact ⟨0, Nat.zero_le _, rfl, (fun j hj => by omega)⟩
  case round =>
    obtain ⟨k, hk, rfl, hd⟩ := hrel
    by_cases hlt : k < N
    · have hlt2 : (k : Int) < N := by omega
      obtain ⟨a, rfl, hr⟩ := HS.out (by omega)
      by_cases he : l.getD k ⟨#[]⟩ = s
      · have HR := Lib.hid (HC1.out k hlt he)
        have hcell : w.cell? (a.add k) = some (.string s) := by rw [hr.cells k (by rw [← HN.out]; exact hlt), he]
        clear he hd hr
        go_wp2_with fail
        go_ret
        exact ⟨retb HR.out.symm, rfl⟩
      · have HD : Hid (∀ j, j < k + 1 → l.getD j ⟨#[]⟩ ≠ s) := fun j hj => by
          by_cases e : j = k
          · rw [e]; exact he
          · exact hd.out j (by omega)
        have hcell := hr.cells k (by rw [← HN.out]; exact hlt)
        obtain ⟨e1, e2⟩ := str_neq he
        generalize l.getD k ⟨#[]⟩ = x at *
        clear he hd hr
        go_wp2_with fail
        go_round
        case rel => exact ⟨k + 1, by omega, by go_num, HD⟩
        case measure => simp [intOf]; omega
    · have hlt2 : ¬ (k : Int) < N := by omega
      have HR := Lib.hid (HC2.out fun j hj => hd.out j (by omega))
      clear hd
      go_wp2_with fail
      go_ret
      exact ⟨retb HR.out.symm, rfl⟩
theorem cont_eq {a b : List ByteArray} (h : ∀ x, x ∈ a ↔ x ∈ b) (s : ByteArray) : Lib.containsS b s = Lib.containsS a s := by
  rw [Bool.eq_iff_iff, Lib.containsS_iff, Lib.containsS_iff]; exact (h s).symm
theorem nodup_at {l : List ByteArray} (h : l.Nodup) {i k : Nat} (hk : k < i) (hi : i < l.length) : l.getD k ⟨#[]⟩ ≠ l.getD i ⟨#[]⟩ := by
  rw [List.getD_eq_getElem?_getD, List.getD_eq_getElem?_getD, List.getElem?_eq_getElem (by omega), List.getElem?_eq_getElem hi]
  exact List.pairwise_iff_getElem.1 h k i (by omega) hi hk

set_option maxRecDepth 100000 in
set_option maxHeartbeats 32000000 in
theorem walkStoreDivides {H : Type} {enc : TypeId × Value → H} {base base' : Nat} {w : World} (v0 : Value) (d0 : DataW H) (p0 : List MemPlace) (g0 : DataW.Trod enc Tryd.prog w 0 (fun _ => true) true 37 v0 d0 p0) (hv0 : Value.okWide Tryd.prog w .any base 37 v0)
    (v1 : Value) (d1 : DataW H) (p1 : List MemPlace) (g1 : DataW.Trod enc Tryd.prog w 0 (fun _ => true) true 39 v1 d1 p1) (hv1 : Value.okWide Tryd.prog w .any base' 39 v1) (ht : Tab w)
    (z0 : ∀ n ∈ d0.weights Tryd.prog 37, n ≤ reachBytes) (z1 : ∀ n ∈ d1.weights Tryd.prog 39, n ≤ reachBytes) :
    Calls Tryd.prog 7 #[v0, v1] w fun e w' => e = .returned (.bool true) ∧ Below w.heap.size w w' := by
  obtain ⟨l0, hr, hn, hz, hw⟩ := arg_ress g0 hv0
  obtain ⟨qa, qb, qc, qs, rfl, hqs⟩ := arg_q g1 hv1
  have hlz : ∀ r ∈ l0, LabZ r := fun r h => ⟨hw z0 r h, (hz r h).2.2.2.1⟩
  obtain ⟨A, c, rfl, hc⟩ := hr.slice
  obtain ⟨N, hN⟩ : ∃ N, N = l0.length := ⟨_, rfl⟩
  rw [← hN] at hr hn hc ⊢
  obtain ⟨m, hm⟩ : ∃ m, m = min N 60 := ⟨_, rfl⟩
  have hr2 := hr.takeA m (by omega)
  have hll : (l0.take m).length ≤ 60 := by rw [List.length_take]; omega
  have CC := Lib.hid (fun W (hW : Below w.heap.size w W) o n => stoCompare W _ (l0.take m) (hr2.below hW) (by omega) (fun r h => hlz r (List.mem_of_mem_take h)) o n (ht.below hW))
  have CW := Lib.hid (fun W (hW : Below w.heap.size w W) => lawAwake W (ht.below hW))
  generalize l0.take m = l at *
  have e1 : min (N : Int) 60 = (m : Int) := by omega
  have g1 : (0 : Int) ≤ (m : Int) := by omega
  have g3 : (m : Int) ≤ (c : Int) := by omega
  have g5 : m ≤ c := by omega
  clear g0 hv0 g1 hv1 hr hr2 hm hlz hw hz z0 z1 ht hN
  have C1 := Lib.hid (fun W hW => CC.out W hW qa qc)
  have C2 := Lib.hid (fun W hW => CC.out W hW qc qa)
  have C3 := Lib.hid (fun W hW => CC.out W hW qa qa)
  obtain ⟨s1, s2⟩ := cmp_self l qa
  obtain ⟨n1, n2, n3⟩ := cmp_lens l qa qc
  have HA := Lib.hid (fun s => cont_eq (swap_ab l qa qc) s)
  have HB' := Lib.hid (fun s => cont_eq (swap_ba l qa qc) s)
  have HC := Lib.hid (fun s => cont_eq (swap_cc l qa qc) s)
  have HALL := Lib.hid (cmp_all l qa qc)
  have hL := cmp_len l qa qc l.length
  rw [show cmpN l qa qc l.length = cmpT l qa qc from rfl] at hL
  generalize cmpT l qa qc = x1 at *
  generalize cmpT l qc qa = x2 at *
  generalize cmpT l qa qa = x3 at *
  obtain ⟨sn1, la, lb, lc⟩ := x1
  obtain ⟨sn2, ld, le, lf⟩ := x2
  obtain ⟨sn3, lx, ly, lz⟩ := x3
  simp only at s1 s2 n1 n2 n3 HA HB' HC HALL hL
  subst s1 s2
  unfold CMP at C1 C2 C3
  simp only at C1 C2 C3
  replace hL := hL.2
  clear CC hqs sn1 sn2 sn3
  have hl60 : l.length ≤ 60 := hll
  generalize l.length = K at *
  obtain ⟨i0, hi, hz0, hz1, hz2⟩ := info_parts iistrS
  have JI := Lib.hid hi
  have JZ0 := Lib.hid hz0
  have JZ1 := Lib.hid hz1
  have JZ2 := Lib.hid hz2
  clear hi hz0 hz1 hz2
  go_enter Tryd.func7, Tryd.ntmps7
  go_upto_region 1 with fail
  have XQ := Lib.hid (box_new (W := w) (g := w.heap.size) 39 #[.string qa, .string qb, .string qc, .int .u64 (qs : Nat)] (by simp))
  have HB := Lib.hid (below_alloc w (.cells #[.string qa, .string qb, .string qc, .int .u64 (qs : Nat)] 39))
  generalize w.alloc (.cells #[.string qa, .string qb, .string qc, .int .u64 (qs : Nat)] 39) = w1 at *
  go_upto_region 2 with fail
  have XQ_0 := XQ.out.at_ 0 _ rfl
  have XQ_2 := XQ.out.at_ 2 _ rfl
  go_wp2_with fail
  refine (C1.out _ HB.out).mono ?_; rintro e w2 ⟨P1, Q1, R1, rfl, ha, hb', hc', hb⟩
  clear XQ_0 XQ_2
  replace XQ := Lib.hid (XQ.out.below hb)
  replace HB := Lib.hid (below_step HB.out hb)
  clear hb
  have SA := Lib.hid ha
  have SB := Lib.hid hb'
  have SC := Lib.hid hc'
  clear ha hb' hc' C1
  have XQ_0 := XQ.out.at_ 0 _ rfl
  have XQ_2 := XQ.out.at_ 2 _ rfl
  go_wp2_with fail
  refine (C2.out _ HB.out).mono ?_; rintro e w3 ⟨P2, Q2, R2, rfl, ha, hb', hc', hb⟩
  clear XQ_0 XQ_2
  replace XQ := Lib.hid (XQ.out.below hb)
  replace SA := Lib.hid (SA.out.below hb)
  replace SB := Lib.hid (SB.out.below hb)
  replace SC := Lib.hid (SC.out.below hb)
  replace HB := Lib.hid (below_step HB.out hb)
  clear hb
  have SD := Lib.hid ha
  have SE := Lib.hid hb'
  have SF := Lib.hid hc'
  clear ha hb' hc' C2
  obtain ⟨A1, x1, rfl, -, -⟩ := id SA.out
  obtain ⟨A2, x2, rfl, -, -⟩ := id SB.out
  obtain ⟨A3, x3, rfl, -, -⟩ := id SC.out
  obtain ⟨A4, x4, rfl, -, -⟩ := id SD.out
  obtain ⟨A5, x5, rfl, -, -⟩ := id SE.out
  obtain ⟨A6, x6, rfl, -, -⟩ := id SF.out
  rw [← n2] at SD ⊢
  rw [← n1] at SE ⊢
  rw [← n3] at SF ⊢
  have hLE := Lib.hid n1
  have hLD := Lib.hid n2
  have hLF := Lib.hid n3
  clear n1 n2 n3
  have HLA : Hid (la.length ≤ 60) := Lib.hid (by omega)
  have HLB : Hid (lb.length ≤ 60) := Lib.hid (by omega)
  have HLC : Hid (lc.length ≤ 60) := Lib.hid (by omega)
  clear hL hll hl60
  obtain ⟨La, hLa⟩ : ∃ n, n = la.length := ⟨_, rfl⟩
  obtain ⟨Lb, hLb⟩ : ∃ n, n = lb.length := ⟨_, rfl⟩
  obtain ⟨Lc, hLc⟩ : ∃ n, n = lc.length := ⟨_, rfl⟩
  rw [← hLa] at SA SE HLA ⊢
  rw [← hLb] at SB SD HLB ⊢
  rw [← hLc] at SC SF HLC ⊢
  have EA := Lib.hid hLa
  have EB := Lib.hid hLb
  have EC := Lib.hid hLc
  clear hLa hLb hLc
  go_upto_region 6 with fail
  have hbl := below_alloc w3 (.cells #[] 9)
  have O0 : Hid (OG strR (w3.alloc (.cells #[] 9)) w3.heap.size 0 9 (.slice (some ⟨w3.heap.size, 0, none⟩) 0 0) []) := Lib.hid (OG.of_scells (l := []) (own_of_box (xs := []) (Box.new w3 9 #[]) (Nat.le_refl _) (by decide)))
  have HB0 := Lib.hid hbl
  clear hbl
  have HSZ := HB0.out.size
  go_wp2_with (at_builtin; refine wpList_append_og (φ := strR) (T := 9) (B := w3.heap.size) (C := 0) (xs := []) (ys := la) rfl _ _ 40 rfl i0 (.string ⟨#[]⟩) 16 Tryd.underlying40 JI.out JZ0.out JZ1.out JZ2.out rfl rfl O0.out (.slice A1 La x1) rfl (Rs.of_sl (SA.out.below HB0.out) _) ?c1 ?c2 ?c3 ?_)
  case c1 => have := HLA.out; have := HLB.out; have := HLC.out; (try simp only [List.length_append, List.length_nil]); rw [← EA.out]; omega
  case c2 => have := HLA.out; have := HLB.out; have := HLC.out; (try simp only [List.length_append, List.length_nil]); rw [← EA.out]; unfold maxLen; omega
  case c3 => first | exact HSZ | simpa using HSZ
  intro v1 u1 o1 hg1
  have HB1 := Lib.hid (O0.out.belowG hg1.out HB0.out HSZ (Nat.le_refl _))
  have O1 := o1
  try rw [List.nil_append] at O1
  clear O0 HB0 HSZ hg1 o1
  have HSZ := HB1.out.size
  go_wp2_with (at_builtin; refine wpList_append_og (φ := strR) (T := 9) (B := w3.heap.size) (C := 0) (xs := la) (ys := lb) rfl _ _ 40 rfl i0 (.string ⟨#[]⟩) 16 Tryd.underlying40 JI.out JZ0.out JZ1.out JZ2.out rfl rfl O1.out (.slice A2 Lb x2) rfl (Rs.of_sl (SB.out.below HB1.out) _) ?c1 ?c2 ?c3 ?_)
  case c1 => have := HLA.out; have := HLB.out; have := HLC.out; (try simp only [List.length_append, List.length_nil]); rw [← EA.out, ← EB.out]; omega
  case c2 => have := HLA.out; have := HLB.out; have := HLC.out; (try simp only [List.length_append, List.length_nil]); rw [← EA.out, ← EB.out]; unfold maxLen; omega
  case c3 => first | exact HSZ | simpa using HSZ
  intro v2 u2 o2 hg2
  have HB2 := Lib.hid (O1.out.belowG hg2.out HB1.out HSZ (Nat.le_refl _))
  have O2 := o2
  clear O1 HB1 HSZ hg2 o2
  have HSZ := HB2.out.size
  go_wp2_with (at_builtin; refine wpList_append_og (φ := strR) (T := 9) (B := w3.heap.size) (C := 0) (xs := la ++ lb) (ys := lc) rfl _ _ 40 rfl i0 (.string ⟨#[]⟩) 16 Tryd.underlying40 JI.out JZ0.out JZ1.out JZ2.out rfl rfl O2.out (.slice A3 Lc x3) rfl (Rs.of_sl (SC.out.below HB2.out) _) ?c1 ?c2 ?c3 ?_)
  case c1 => have := HLA.out; have := HLB.out; have := HLC.out; (try simp only [List.length_append, List.length_nil]); rw [← EA.out, ← EB.out, ← EC.out]; omega
  case c2 => have := HLA.out; have := HLB.out; have := HLC.out; (try simp only [List.length_append, List.length_nil]); rw [← EA.out, ← EB.out, ← EC.out]; unfold maxLen; omega
  case c3 => first | exact HSZ | simpa using HSZ
  intro v3 u3 o3 hg3
  have HB3 := Lib.hid (O2.out.belowG hg3.out HB2.out HSZ (Nat.le_refl _))
  have O3 := o3
  clear O2 HB2 HSZ hg3 o3
  obtain ⟨AA, xa, rfl⟩ := O3.out.slice
  have SALL := Lib.hid O3.out.any.sl
  have hb := HB3.out
  replace XQ := Lib.hid (XQ.out.below hb)
  replace SA := Lib.hid (SA.out.below hb)
  replace SB := Lib.hid (SB.out.below hb)
  replace SC := Lib.hid (SC.out.below hb)
  replace SD := Lib.hid (SD.out.below hb)
  replace SE := Lib.hid (SE.out.below hb)
  replace SF := Lib.hid (SF.out.below hb)
  replace HB := Lib.hid (below_step HB.out hb)
  clear hb
  clear HB3 O3 JI JZ0 JZ1 JZ2
  try rw [List.append_assoc] at SALL
  have HALL' := Lib.hid HALL.out
  clear HALL
  rw [List.append_assoc] at HALL'
  have HALL := HALL'
  clear HALL'
  have HTL : Hid ((la ++ (lb ++ lc)).length ≤ 1000) := Lib.hid (by
    have := HLA.out; have := HLB.out; have := HLC.out
    simp only [List.length_append]; rw [← EA.out, ← EB.out, ← EC.out]; omega)
  have HN0 := Lib.hid (fun i k hk hi => nodup_at (l := la ++ (lb ++ lc)) HALL.out (i := i) (k := k) hk hi)
  have G1 := Lib.hid (fun W (hW : Below u3.heap.size u3 W) s => lawHas W _ la s (SA.out.below hW) (by have := HLA.out; rw [← EA.out]; omega))
  have G2 := Lib.hid (fun W (hW : Below u3.heap.size u3 W) s => lawHas W _ lb s (SB.out.below hW) (by have := HLB.out; rw [← EB.out]; omega))
  have G3 := Lib.hid (fun W (hW : Below u3.heap.size u3 W) s => lawHas W _ lc s (SC.out.below hW) (by have := HLC.out; rw [← EC.out]; omega))
  have G4 := Lib.hid (fun W (hW : Below u3.heap.size u3 W) s => lawHas W _ ld s (SD.out.below hW) (by have := HLB.out; have := SD.out; obtain ⟨_, _, e, _, _⟩ := this; simp only [Value.slice.injEq] at e; omega))
  have G5 := Lib.hid (fun W (hW : Below u3.heap.size u3 W) s => lawHas W _ le s (SE.out.below hW) (by have := HLA.out; have := SE.out; obtain ⟨_, _, e, _, _⟩ := this; simp only [Value.slice.injEq] at e; omega))
  have G6 := Lib.hid (fun W (hW : Below u3.heap.size u3 W) s => lawHas W _ lf s (SF.out.below hW) (by have := HLC.out; have := SF.out; obtain ⟨_, _, e, _, _⟩ := this; simp only [Value.slice.injEq] at e; omega))
  generalize la ++ (lb ++ lc) = all at *
  obtain ⟨T, hT⟩ : ∃ n, n = all.length := ⟨_, rfl⟩
  have HT := Lib.hid hT
  rw [← hT] at SALL HTL HN0 ⊢
  have htl := HTL.out
  obtain ⟨_, _, e, -, hs⟩ := SALL.out
  rw [← hT] at e hs
  simp only [Value.slice.injEq] at e
  obtain ⟨rfl, -, -⟩ := e
  have HSS := Lib.hid hs
  clear hs hT SALL HTL HALL SA SB SC SD SE SF
  go_wp2_with fail
  go_loopw [71] (fun i wr => ∃ (k : Nat), k ≤ T ∧ i = .int .i64 k ∧ Below u3.heap.size u3 wr) (fun i _ => T - (intOf i).toNat)
  case atStart => exact ⟨0, Nat.zero_le _, rfl, Below.refl _ _⟩
  case round =>
    obtain ⟨k, hk, rfl, hbr⟩ := hrel
    have HBR := Lib.hid hbr
    clear hbr
    by_cases hlt : k < T
    · have hlt2 : (k : Int) < T := by omega
      have hk0 : (0 : Int) ≤ (k : Int) := by omega
      obtain ⟨a, rfl, hr⟩ := HSS.out (by omega)
      have hr2 := hr.below HBR.out
      have hcell := hr2.cells k (by rw [← HT.out]; exact hlt)
      have HCL := Lib.hid (fun j (hj : j < k) => hr2.cells j (by rw [← HT.out]; omega))
      have HNE := Lib.hid (fun j (hj : j < k) => HN0.out k j hj hlt)
      generalize all.getD k ⟨#[]⟩ = s at *
      have H1 := Lib.hid (G1.out wr HBR.out s)
      have H2 := Lib.hid (G2.out wr HBR.out s)
      have H3 := Lib.hid (G3.out wr HBR.out s)
      have H4 := Lib.hid (G4.out wr HBR.out s)
      have H5 := Lib.hid (G5.out wr HBR.out s)
      have H6 := Lib.hid (G6.out wr HBR.out s)
      rw [HA.out] at H5
      rw [HB'.out] at H4
      rw [HC.out] at H6
      generalize Lib.containsS la s = β1 at *
      generalize Lib.containsS lb s = β2 at *
      generalize Lib.containsS lc s = β3 at *
      have b1 : (β1 != β1) = false := by simp
      have b2 : (β2 != β2) = false := by simp
      have b3 : (β3 != β3) = false := by simp
      clear hr hr2
      go_wp2_with fail
      go_loop [14] (fun i => ∃ j : Nat, j ≤ k ∧ i = .int .i64 j) (fun i => k - (intOf i).toNat)
      case atStart => exact ⟨0, Nat.zero_le _, rfl⟩
      case round =>
        obtain ⟨j, hj, rfl⟩ := hrel
        by_cases hjt : j < k
        · have hjt2 : (j : Int) < k := by omega
          have hj3 : (j : Int) < T := by omega
          have hj0 : (0 : Int) ≤ (j : Int) := by omega
          have cj := HCL.out j hjt
          obtain ⟨e1, e2⟩ := str_neq (HNE.out j hjt)
          generalize all.getD j ⟨#[]⟩ = y at *
          go_wp2_with fail
          go_round
          case rel => exact ⟨j + 1, by omega, by go_num⟩
          case measure => simp [intOf]; omega
        · have hjt2 : ¬ (j : Int) < k := by omega
          clear HCL HNE hcell
          go_wp2_with fail
          refine H1.out.mono ?_; rintro e w' ⟨rfl, rfl⟩
          go_wp2_with fail
          refine H5.out.mono ?_; rintro e w' ⟨rfl, rfl⟩
          go_wp2_with fail
          refine H2.out.mono ?_; rintro e w' ⟨rfl, rfl⟩
          go_wp2_with fail
          refine H4.out.mono ?_; rintro e w' ⟨rfl, rfl⟩
          go_wp2_with fail
          refine H3.out.mono ?_; rintro e w' ⟨rfl, rfl⟩
          go_wp2_with fail
          refine H6.out.mono ?_; rintro e w' ⟨rfl, rfl⟩
          go_wp2_with fail
          go_roundw
          case rel => exact ⟨k + 1, by omega, by go_num, HBR.out⟩
          case measure => simp [intOf] <;> omega
    · have hlt2 : ¬ (k : Int) < T := by omega
      have hb := HBR.out
      clear G1 G2 G3 G4 G5 G6 HN0 HSS
      replace XQ := Lib.hid (XQ.out.below hb)
      replace HB := Lib.hid (below_step HB.out hb)
      clear hb
      have XQ_0 := XQ.out.at_ 0 _ rfl
      go_wp2_with fail
      refine (C3.out _ HB.out).mono ?_; rintro e w9 ⟨P7, Q7, R7, rfl, ha, hb', hc', hb⟩
      clear XQ_0
      replace XQ := Lib.hid (XQ.out.below hb)
      replace HB := Lib.hid (below_step HB.out hb)
      clear hb
      obtain ⟨A7, x7, rfl, -, -⟩ := id ha
      obtain ⟨A8, x8, rfl, -, -⟩ := id hb'
      obtain ⟨A9, x9, rfl, -, -⟩ := id hc'
      clear ha hb' hc'
      generalize lz.length = Lz at *
      go_wp2_with fail
      refine (CW.out _ HB.out).mono ?_; rintro e w10 ⟨rfl, hb⟩
      replace XQ := Lib.hid (XQ.out.below hb)
      replace HB := Lib.hid (below_step HB.out hb)
      clear hb
      go_wp2_with fail
      go_ret
      exact ⟨rfl, HB.out⟩

end Go.Proofs.YtbgficaboolgiaaDoor

/-
  Contracts of Env, the program's and the reference's.
-/
import Derived.Test.YthpioaboekpjoaaDoorWavK
namespace Go.Proofs.YthpioaboekpjoaaDoor
open Go.RowKit
set_option linter.unusedVariables false
set_option linter.unusedSimpArgs false

/-- A name and a value. -/
def prR : Rd Pr where
  k := 2
  ts := []
  pos := by decide
  R := fun w us p F => us = [.string p.1, .int .i64 p.2]
  len := fun h => by rw [h]; rfl
  one := fun h u hu => by rw [h] at hu; simp at hu; rcases hu with rfl | rfl <;> rfl
  mono := fun h _ => h
  same := fun h _ _ => h
theorem Rs.pl {w : World} {v : Value} {l : List Pr} {F : Nat → Prop} (h : Rs prR w v l F) : PL w v l := by
  obtain ⟨A, c, rfl, hc, h⟩ := h
  refine ⟨A, c, rfl, hc, fun hl => ?_⟩
  obtain ⟨b, o, rfl, hb, h⟩ := h hl
  refine ⟨b, o, rfl, hb, fun j hj => ?_⟩
  obtain ⟨us, h1, h2⟩ := h j _ (List.getElem?_eq_getElem hj)
  have h2' : us = [.string l[j].1, .int .i64 l[j].2] := h2
  have e : prR.k = 2 := rfl
  have a := h1 0 (by decide)
  have b' := h1 1 (by decide)
  rw [h2', e] at a b'
  rw [List.getD_eq_getElem?_getD, List.getElem?_eq_getElem hj]
  exact ⟨a, b'⟩
theorem rs_box1 {α : Type} {φ : Rd α} {w : World} {g : Nat} {us : List Value} {T : TypeId} {x : α} {F : Nat → Prop} (hx : Box w g us.toArray T) (h : φ.R w us x F) : Rs φ w (.slice (some ⟨g, 0, none⟩) 1 1) [x] F := by
  refine ⟨_, 1, rfl, Nat.le_refl _, fun _ => ⟨g, 0, rfl, hx.lt, fun j y hj => ⟨us, fun i hi => ?_, ?_⟩⟩⟩
  · have hj0 : j = 0 := by have := (List.getElem?_eq_some_iff.1 hj).1; simp at this; exact this
    subst hj0
    simp only [Nat.zero_mul, Nat.zero_add]
    rw [hx.cell i, List.getElem?_toArray]
  · have hj0 : j = 0 := by have := (List.getElem?_eq_some_iff.1 hj).1; simp at this; exact this
    subst hj0
    obtain rfl : x = y := by simpa using hj
    exact h
theorem isigW : (Tryd.prog.info? 42).map (fun i => (i.zero, i.size, i.bytes)) = some (some (.agg #[.string ⟨#[]⟩, .int .i64 0]), 2, 24) := by kernel_rfl
def ENV (w : World) (r : List Pr × Bool) (e : Ending) (w' : World) : Prop := ∃ v, e = .returned (.tuple #[v, .bool r.2]) ∧ PL w' v r.1 ∧ Below w.heap.size w w'
theorem weT_len (ns : List ByteArray) (rs : List (List Int)) (t : Int) : (weT ns rs t).1.length ≤ 48 := by
  unfold weT
  split
  · simp
  · rename_i h
    have hv : wvV ns rs = true := by
      cases e : wvV ns rs
      · exact absurd (.inl e) h
      · rfl
    have := (of_decide_eq_true hv : WvV ns rs).1
    show (prs ns _).length ≤ 48
    have := prs_len ns (rs.getD t.toNat [])
    omega

set_option maxRecDepth 100000 in
set_option maxHeartbeats 8000000 in
theorem wavEnv (w : World) (v1 v2 : Value) (ns : List ByteArray) (rs : List (List Int)) (t : Int) (h1 : SL w v1 ns) (h2 : Rs ilR w v2 rs anyB) (hz : WZ ns rs) (ht : I64 t) (hk : KW w) (hm : MLen w) :
    Calls Tryd.prog 21 #[.agg #[v1, v2], .int .i64 t] w (ENV w (weT ns rs t)) := by
  have CV := Lib.hid (fun W (hW : Below w.heap.size w W) => wavValid W v1 v2 ns rs (h1.below hW) (h2.below hW) hz (hk.below hW) (hm.below hW))
  have HG : Hid (weT ns rs t = if wvV ns rs = false ∨ t < 0 ∨ (rs.length : Int) ≤ t then ([], false) else (prs ns (rs.getD t.toNat []), true)) := Lib.hid rfl
  have HW : Hid (wvV ns rs = true → ns.length ≤ 48 ∧ ∀ k, k < rs.length → (rs.getD k []).length = ns.length) := Lib.hid fun h => ⟨(of_decide_eq_true h : WvV ns rs).1, fun k hk => ((of_decide_eq_true h : WvV ns rs).2.2.2 _ (getD_mem [] hk)).1⟩
  obtain ⟨A2, c2, rfl, hc2⟩ := h2.slice
  have HRA := Lib.hid (fun k hk => row_at h2 (k := k) hk)
  obtain ⟨A1, c1, rfl, hc1, hs1⟩ := h1
  have HS1 := Lib.hid hs1
  have n2 := hz.2.1
  obtain ⟨N, hN⟩ : ∃ N, N = ns.length := ⟨_, rfl⟩
  obtain ⟨M, hM⟩ : ∃ M, M = rs.length := ⟨_, rfl⟩
  have HNN := Lib.hid hN
  have HMM := Lib.hid hM
  rw [← hN] at HW CV ⊢
  rw [← hM] at HG CV n2 ⊢
  generalize weT ns rs t = r at *
  generalize wvV ns rs = vb at *
  obtain ⟨t0, t1⟩ := ht
  obtain ⟨i0, hi, hz0, hz1, hz2⟩ := info_parts isigW
  have JI := Lib.hid hi
  have JZ0 := Lib.hid hz0
  have JZ1 := Lib.hid hz1
  have JZ2 := Lib.hid hz2
  clear hi hz0 hz1 hz2 hz hc1 hc2 hN hM h2 hs1 hk hm
  have hway : (vb = false) ∨ (vb = true ∧ t < 0) ∨ (vb = true ∧ ¬ t < 0 ∧ (M : Int) ≤ t) ∨ (vb = true ∧ ¬ t < 0 ∧ ¬ (M : Int) ≤ t) := by
    cases vb
    · exact .inl rfl
    · right
      by_cases b : t < 0
      · exact .inl ⟨rfl, b⟩
      · right
        by_cases c : (M : Int) ≤ t
        · exact .inl ⟨rfl, b, c⟩
        · exact .inr ⟨rfl, b, c⟩
  go_enter Tryd.func21, Tryd.ntmps21
  go_upto_region 1 with fail
  have XA := Lib.hid (box_new (W := w) (g := w.heap.size) 26 #[.slice A1 N c1, .slice A2 M c2] (by simp))
  have HB := Lib.hid (below_alloc w (.cells #[.slice A1 N c1, .slice A2 M c2] 26))
  generalize w.alloc (.cells #[.slice A1 N c1, .slice A2 M c2] 26) = w1 at *
  have XA_0 := XA.out.at_ 0 _ rfl
  have XA_1 := XA.out.at_ 1 _ rfl
  go_wp2_with fail
  refine (CV.out _ HB.out).mono ?_; rintro e w3 ⟨rfl, hb⟩
  clear XA_0 XA_1
  replace XA := Lib.hid (XA.out.below hb)
  replace HB := Lib.hid (below_step HB.out hb)
  clear hb
  clear CV
  have XA_0 := XA.out.at_ 0 _ rfl
  have XA_1 := XA.out.at_ 1 _ rfl
  rcases hway with rfl | ⟨rfl, b⟩ | ⟨rfl, b, c⟩ | ⟨rfl, b, c⟩
  · have HR : Hid (r = ([], false)) := Lib.hid (by rw [HG.out, if_pos (.inl rfl)])
    clear HG HW HRA
    go_wp2_with fail
    go_ret2
    exact ⟨.slice none 0 0, by rw [HR.out]; rfl, by rw [HR.out]; exact PL.nil _, HB.out⟩
  · have HR : Hid (r = ([], false)) := Lib.hid (by rw [HG.out, if_pos (.inr (.inl b))])
    clear HG HW HRA
    go_wp2_with fail
    go_ret2
    exact ⟨.slice none 0 0, by rw [HR.out]; rfl, by rw [HR.out]; exact PL.nil _, HB.out⟩
  · have HR : Hid (r = ([], false)) := Lib.hid (by rw [HG.out, if_pos (.inr (.inr c))])
    clear HG HW HRA
    go_wp2_with fail
    go_ret2
    exact ⟨.slice none 0 0, by rw [HR.out]; rfl, by rw [HR.out]; exact PL.nil _, HB.out⟩
  · obtain ⟨tk, rfl⟩ : ∃ k : Nat, t = k := ⟨t.toNat, by omega⟩
    have hkm : tk < rs.length := by rw [← HMM.out]; omega
    obtain ⟨hN48, hlk⟩ := HW.out rfl
    have hlk := hlk tk hkm
    have HR : Hid (r = (prs ns (rs.getD tk []), true)) := Lib.hid (by
      rw [HG.out, if_neg (by simp only [not_or]; exact ⟨by decide, by omega, by omega⟩)]
      simp only [Int.toNat_natCast])
    obtain ⟨b5, o5, E, e1, rfl, QA, IA⟩ := HRA.out tk hkm
    have f1 : (0 : Int) ≤ (tk : Int) := by omega
    have f2 : (tk : Int) < (M : Int) := by omega
    have f5 : tk < M := by omega
    have f6 : decide ((tk : Int) < 0) = false := decide_eq_false (by omega)
    have f7 : ¬ (M : Int) ≤ (tk : Int) := by omega
    have f8 : ¬ M ≤ tk := by omega
    rw [hlk] at QA IA
    generalize rs.getD tk [] = row at *
    have HQA := Lib.hid QA
    have HIA := Lib.hid IA
    have HLR := Lib.hid hlk
    have HPL : Hid ((prs ns row).length = N) := Lib.hid (by have := prs_len ns row; rw [hlk, ← HNN.out] at this; omega)
    clear HG HW HRA QA IA hlk hkm b c
    go_wp2_with fail
    clear XA_0 XA_1
    go_loopw [6, 26] (fun ov i wr => ∃ k : Nat, k ≤ N ∧ i = .int .i64 k ∧ OG prR wr w.heap.size 0 42 ov ((prs ns row).take k) ∧ Box wr w.heap.size #[.slice A1 N c1, .slice (some ⟨b5, o5, none⟩) M c2] 26 ∧ Below w.heap.size w wr) (fun _ i _ => N - (intOf i).toNat)
    case atStart => exact ⟨0, Nat.zero_le _, rfl, OG.nil prR _ _ _ _ (by decide) (Nat.zero_le _), XA.out, HB.out⟩
    case round =>
      clear HB XA
      obtain ⟨k, hk, rfl, hog, hxa, hb⟩ := hrel
      have XA := Lib.hid hxa
      have HB := Lib.hid hb
      have HOG := Lib.hid hog
      obtain ⟨OA, oc, rfl⟩ := hog.slice
      have hlj : ((prs ns row).take k).length = k := by rw [List.length_take, HPL.out]; omega
      rw [hlj] at HOG ⊢
      have HLJ := Lib.hid hlj
      clear hb hxa hog hlj
      by_cases hlt : k < N
      · have hlt2 : (k : Int) < N := by omega
        have hk0 : (0 : Int) ≤ (k : Int) := by omega
        have hkn : k < ns.length := by rw [← HNN.out]; exact hlt
        have hkr : k < row.length := by rw [HLR.out]; exact hlt
        obtain ⟨a1, rfl, hr1⟩ := HS1.out (by omega)
        obtain ⟨ea, rfl, EA⟩ := il_at HIA.out (j := k) hkr
        have HSU : Hid ((prs ns row).take (k + 1) = (prs ns row).take k ++ [(ns.getD k ⟨#[]⟩, row.getD k 0)]) := Lib.hid (by
          rw [take_snocD _ k pr0 (by rw [HPL.out]; omega), prs_get ns row k hkn hkr])
        have q1 := (hr1.below HB.out).cells k hkn
        have q2 := HQA.out _ HB.out
        have q3 := EA _ HB.out
        generalize ns.getD k ⟨#[]⟩ = s at *
        generalize row.getD k 0 = z at *
        clear hr1 EA hkn hkr
        have hbl := below_alloc wr (.cells #[.string s, .int .i64 z] 42)
        have HY : Hid True := Lib.hid trivial
        have HR4 : Hid (Rs prR (wr.alloc (.cells #[.string s, .int .i64 z] 42)) (.slice (some ⟨wr.heap.size, 0, none⟩) 1 1) [(s, z)] (Ty (wr.alloc (.cells #[.string s, .int .i64 z] 42)) 0 prR.ts)) :=
          Lib.hid (Rs.one (φ := prR) (us := [.string s, .int .i64 z]) (x := (s, z)) rfl 42)
        have HOGa := Lib.hid (HOG.out.below hbl)
        have XAa := Lib.hid (XA.out.below hbl)
        have HBa := Lib.hid (below_step HB.out hbl)
        clear hbl
        have XA_1 := XA.out.at_ 1 _ rfl
        go_wp2_with (at_builtin; refine wpList_append_og (φ := prR) (T := 42) (B := w.heap.size) (C := 0) (xs := (prs ns row).take k) (ys := [(s, z)]) rfl _ _ 38 rfl i0 (.agg #[.string ⟨#[]⟩, .int .i64 0]) 24 Tryd.underlying38 JI.out JZ0.out JZ1.out JZ2.out rfl rfl HOGa.out (.slice (some ⟨wr.heap.size, 0, none⟩) 1 1) rfl HR4.out ?c1 ?c2 ?c3 ?_)
        case c1 => (try simp only [List.length_cons, List.length_nil]); rw [HLJ.out]; omega
        case c2 => (try simp only [List.length_cons, List.length_nil]); rw [HLJ.out]; unfold maxLen; omega
        case c3 => have := HBa.out.size; first | exact this | simpa using this
        intro v' w7 hog7 hg7
        clear XA_1
        clear HB HOG XA HR4 HY
        have XA := Lib.hid (HOGa.out.boxKept hg7.out XAa.out (.inl (by decide)))
        have HB := Lib.hid (HOGa.out.belowG hg7.out HBa.out HBa.out.size (Nat.le_refl _))
        rw [← HSU.out] at hog7
        clear HOGa XAa HBa hg7
        go_wp2_with fail
        go_roundw
        case rel => first | exact ⟨k + 1, by omega, by go_num, hog7.out, XA.out, HB.out⟩ | ((repeat apply Exists.intro); exact ⟨⟨k + 1, by omega, by go_num, hog7.out, XA.out, HB.out⟩, rfl⟩)
        case measure => simp [intOf]; omega
      · have hlt2 : ¬ (k : Int) < N := by omega
        have hkN : k = N := by omega
        have HPV : Hid (PL wr (.slice OA k oc) (prs ns row)) := Lib.hid (by have := HOG.out.any.pl; rwa [hkN, ← HPL.out, List.take_length, HPL.out, ← hkN] at this)
        clear hkN HOG
        have XA_0 := XA.out.at_ 0 _ rfl
        go_wp2_with fail
        go_ret2
        exact ⟨.slice OA k oc, by rw [HR.out]; rfl, by rw [HR.out]; exact HPV.out, HB.out⟩

set_option maxRecDepth 100000 in
set_option maxHeartbeats 8000000 in
theorem refEnvW (w : World) (v1 v2 : Value) (ns : List ByteArray) (rs : List (List Int)) (t : Int) (h1 : SL w v1 ns) (h2 : Rs ilR w v2 rs anyB) (hz : WZ ns rs) (ht : I64 t) :
    Calls Tryd.prog 22 #[.agg #[v1, v2], .int .i64 t] w (ENV w (weT ns rs t)) := by
  have CV := Lib.hid (fun W (hW : Below w.heap.size w W) => refValidW W v1 v2 ns rs (h1.below hW) (h2.below hW) hz)
  have HG : Hid (weT ns rs t = if wvV ns rs = false ∨ t < 0 ∨ (rs.length : Int) ≤ t then ([], false) else (prs ns (rs.getD t.toNat []), true)) := Lib.hid rfl
  have HW : Hid (wvV ns rs = true → ns.length ≤ 48 ∧ ∀ k, k < rs.length → (rs.getD k []).length = ns.length) := Lib.hid fun h => ⟨(of_decide_eq_true h : WvV ns rs).1, fun k hk => ((of_decide_eq_true h : WvV ns rs).2.2.2 _ (getD_mem [] hk)).1⟩
  obtain ⟨A2, c2, rfl, hc2⟩ := h2.slice
  have HRA := Lib.hid (fun k hk => row_at h2 (k := k) hk)
  obtain ⟨A1, c1, rfl, hc1, hs1⟩ := h1
  have HS1 := Lib.hid hs1
  have n2 := hz.2.1
  obtain ⟨N, hN⟩ : ∃ N, N = ns.length := ⟨_, rfl⟩
  obtain ⟨M, hM⟩ : ∃ M, M = rs.length := ⟨_, rfl⟩
  have HNN := Lib.hid hN
  have HMM := Lib.hid hM
  rw [← hN] at HW CV ⊢
  rw [← hM] at HG CV n2 ⊢
  generalize weT ns rs t = r at *
  generalize wvV ns rs = vb at *
  obtain ⟨t0, t1⟩ := ht
  obtain ⟨i0, hi, hz0, hz1, hz2⟩ := info_parts isigW
  have JI := Lib.hid hi
  have JZ0 := Lib.hid hz0
  have JZ1 := Lib.hid hz1
  have JZ2 := Lib.hid hz2
  clear hi hz0 hz1 hz2 hz hc1 hc2 hN hM h2 hs1
  have hway : (vb = false) ∨ (vb = true ∧ t < 0) ∨ (vb = true ∧ ¬ t < 0 ∧ (M : Int) ≤ t) ∨ (vb = true ∧ ¬ t < 0 ∧ ¬ (M : Int) ≤ t) := by
    cases vb
    · exact .inl rfl
    · right
      by_cases b : t < 0
      · exact .inl ⟨rfl, b⟩
      · right
        by_cases c : (M : Int) ≤ t
        · exact .inl ⟨rfl, b, c⟩
        · exact .inr ⟨rfl, b, c⟩
  go_enter Tryd.func22, Tryd.ntmps22
  go_upto_region 1 with fail
  have XA := Lib.hid (box_new (W := w) (g := w.heap.size) 26 #[.slice A1 N c1, .slice A2 M c2] (by simp))
  have HB := Lib.hid (below_alloc w (.cells #[.slice A1 N c1, .slice A2 M c2] 26))
  generalize w.alloc (.cells #[.slice A1 N c1, .slice A2 M c2] 26) = w1 at *
  have XA_0 := XA.out.at_ 0 _ rfl
  have XA_1 := XA.out.at_ 1 _ rfl
  go_wp2_with fail
  refine (CV.out _ HB.out).mono ?_; rintro e w3 ⟨rfl, hb⟩
  clear XA_0 XA_1
  replace XA := Lib.hid (XA.out.below hb)
  replace HB := Lib.hid (below_step HB.out hb)
  clear hb
  clear CV
  have XA_0 := XA.out.at_ 0 _ rfl
  have XA_1 := XA.out.at_ 1 _ rfl
  rcases hway with rfl | ⟨rfl, b⟩ | ⟨rfl, b, c⟩ | ⟨rfl, b, c⟩
  · have HR : Hid (r = ([], false)) := Lib.hid (by rw [HG.out, if_pos (.inl rfl)])
    clear HG HW HRA
    go_wp2_with fail
    go_ret2
    exact ⟨.slice none 0 0, by rw [HR.out]; rfl, by rw [HR.out]; exact PL.nil _, HB.out⟩
  · have HR : Hid (r = ([], false)) := Lib.hid (by rw [HG.out, if_pos (.inr (.inl b))])
    clear HG HW HRA
    go_wp2_with fail
    go_ret2
    exact ⟨.slice none 0 0, by rw [HR.out]; rfl, by rw [HR.out]; exact PL.nil _, HB.out⟩
  · have HR : Hid (r = ([], false)) := Lib.hid (by rw [HG.out, if_pos (.inr (.inr c))])
    clear HG HW HRA
    go_wp2_with fail
    go_ret2
    exact ⟨.slice none 0 0, by rw [HR.out]; rfl, by rw [HR.out]; exact PL.nil _, HB.out⟩
  · obtain ⟨tk, rfl⟩ : ∃ k : Nat, t = k := ⟨t.toNat, by omega⟩
    have hkm : tk < rs.length := by rw [← HMM.out]; omega
    obtain ⟨hN48, hlk⟩ := HW.out rfl
    have hlk := hlk tk hkm
    have HR : Hid (r = (prs ns (rs.getD tk []), true)) := Lib.hid (by
      rw [HG.out, if_neg (by simp only [not_or]; exact ⟨by decide, by omega, by omega⟩)]
      simp only [Int.toNat_natCast])
    obtain ⟨b5, o5, E, e1, rfl, QA, IA⟩ := HRA.out tk hkm
    have f1 : (0 : Int) ≤ (tk : Int) := by omega
    have f2 : (tk : Int) < (M : Int) := by omega
    have f5 : tk < M := by omega
    have f6 : decide ((tk : Int) < 0) = false := decide_eq_false (by omega)
    have f7 : ¬ (M : Int) ≤ (tk : Int) := by omega
    have f8 : ¬ M ≤ tk := by omega
    rw [hlk] at QA IA
    generalize rs.getD tk [] = row at *
    have HQA := Lib.hid QA
    have HIA := Lib.hid IA
    have HLR := Lib.hid hlk
    have HPL : Hid ((prs ns row).length = N) := Lib.hid (by have := prs_len ns row; rw [hlk, ← HNN.out] at this; omega)
    clear HG HW HRA QA IA hlk hkm b c
    go_wp2_with fail
    clear XA_0 XA_1
    go_loopw [6, 7] (fun ov i wr => ∃ k : Nat, k ≤ N ∧ i = .int .i64 k ∧ OG prR wr w.heap.size 0 42 ov ((prs ns row).take k) ∧ Box wr w.heap.size #[.slice A1 N c1, .slice (some ⟨b5, o5, none⟩) M c2] 26 ∧ Below w.heap.size w wr) (fun _ i _ => N - (intOf i).toNat)
    case atStart => exact ⟨0, Nat.zero_le _, rfl, OG.nil prR _ _ _ _ (by decide) (Nat.zero_le _), XA.out, HB.out⟩
    case round =>
      clear HB XA
      obtain ⟨k, hk, rfl, hog, hxa, hb⟩ := hrel
      have XA := Lib.hid hxa
      have HB := Lib.hid hb
      have HOG := Lib.hid hog
      obtain ⟨OA, oc, rfl⟩ := hog.slice
      have hlj : ((prs ns row).take k).length = k := by rw [List.length_take, HPL.out]; omega
      rw [hlj] at HOG ⊢
      have HLJ := Lib.hid hlj
      clear hb hxa hog hlj
      by_cases hlt : k < N
      · have hlt2 : (k : Int) < N := by omega
        have hk0 : (0 : Int) ≤ (k : Int) := by omega
        have hkn : k < ns.length := by rw [← HNN.out]; exact hlt
        have hkr : k < row.length := by rw [HLR.out]; exact hlt
        obtain ⟨a1, rfl, hr1⟩ := HS1.out (by omega)
        obtain ⟨ea, rfl, EA⟩ := il_at HIA.out (j := k) hkr
        have HSU : Hid ((prs ns row).take (k + 1) = (prs ns row).take k ++ [(ns.getD k ⟨#[]⟩, row.getD k 0)]) := Lib.hid (by
          rw [take_snocD _ k pr0 (by rw [HPL.out]; omega), prs_get ns row k hkn hkr])
        have q1 : ∀ p : Lat wr, p.w.cell? (a1.add k) = some (.string (ns.getD k ⟨#[]⟩)) := fun p => (hr1.below (below_step HB.out p.h)).cells k hkn
        have q2 : ∀ p : Lat wr, p.w.cell? ⟨b5, o5 + tk, none⟩ = some (.slice (some ea) N e1) := fun p => HQA.out _ (below_step HB.out p.h)
        have q3 : ∀ p : Lat wr, p.w.cell? (ea.add k) = some (.int .i64 (row.getD k 0)) := fun p => EA _ (below_step HB.out p.h)
        generalize ns.getD k ⟨#[]⟩ = s at *
        generalize row.getD k 0 = z at *
        clear hr1 EA hkn hkr
        have XA_0 := XA.out.at_ 0 _ rfl
        go_upto_region 7 with fail
        clear XA_0
        refine wp_region_gen 16 (Kit.of [fSlice 15 [] wr.heap.size #[.string s, .int .i64 z] 42]) (by kernel_rfl) (by kernel_rfl) (fun γ => by kernel_rfl) (by kernel_rfl) (Kit.of_stable ?_) (Kit.of_known ?_) ?_
        · intro z hz; simp only [List.mem_cons, List.not_mem_nil, or_false] at hz; rcases hz with rfl
          · apply fSlice_st
        · intro z hz; simp only [List.mem_cons, List.not_mem_nil, or_false] at hz; rcases hz with rfl
          · apply fSlice_kn
        intro γ hγ C hC hne
        obtain ⟨g12, e12⟩ : ∃ g, γ 15 = .slice (some ⟨g, 0, none⟩) 1 1 := hγ 15 rfl
        have l0 := XA.out.latC (C := C) 0 _ rfl
        have l1 := XA.out.latC (C := C) 1 _ rfl
        have q4 := fun p : LatC wr C => q1 ⟨p.w, p.h⟩
        have q5 := fun p : LatC wr C => q2 ⟨p.w, p.h⟩
        have q6 := fun p : LatC wr C => q3 ⟨p.w, p.h⟩
        simp only at q4 q5 q6
        clear q1 q2 q3
        simp only [List.take_succ_cons, List.take_zero, List.drop_succ_cons, List.drop_zero]
        iterate 15 (refine wpF_quiet rfl ?_; go_big_quiet_step (fail); refine wpQuiet_nil ?_)
        refine wpF_fresh rfl (freshAt_slice rfl (fun w => by kernel_rfl) (fun w' g hg hx => ⟨g, rfl, hx, hg⟩)) ?_
        simp only [Nat.zero_add, Nat.reduceAdd, e12]
        go_simp
        intro w6 hb hF
        obtain ⟨Y, hgy⟩ := slice_at e12 (hF 15 (by decide) rfl)
        have HY := Lib.hid Y
        clear l0 l1 q4 q5 q6 hF hγ hC hne e12 Y hgy
        replace XA := Lib.hid (XA.out.below hb)
        replace HOG := Lib.hid (HOG.out.below hb)
        replace HB := Lib.hid (below_step HB.out hb)
        clear hb
        have HR4 : Hid (Rs prR w6 (.slice (some ⟨g12, 0, none⟩) 1 1) [(s, z)] (Ty w6 0 prR.ts)) := Lib.hid (rs_box1 (φ := prR) (us := [.string s, .int .i64 z]) (x := (s, z)) HY.out rfl)
        have HOGa := HOG
        have XAa := XA
        have HBa := HB
        go_wp2_with (at_builtin; refine wpList_append_og (φ := prR) (T := 42) (B := w.heap.size) (C := 0) (xs := (prs ns row).take k) (ys := [(s, z)]) rfl _ _ 38 rfl i0 (.agg #[.string ⟨#[]⟩, .int .i64 0]) 24 Tryd.underlying38 JI.out JZ0.out JZ1.out JZ2.out rfl rfl HOGa.out (.slice (some ⟨g12, 0, none⟩) 1 1) rfl HR4.out ?c1 ?c2 ?c3 ?_)
        case c1 => (try simp only [List.length_cons, List.length_nil]); rw [HLJ.out]; omega
        case c2 => (try simp only [List.length_cons, List.length_nil]); rw [HLJ.out]; unfold maxLen; omega
        case c3 => have := HBa.out.size; first | exact this | simpa using this
        intro v' w7 hog7 hg7
        clear HB HOG XA HR4 HY
        have XA := Lib.hid (HOGa.out.boxKept hg7.out XAa.out (.inl (by decide)))
        have HB := Lib.hid (HOGa.out.belowG hg7.out HBa.out HBa.out.size (Nat.le_refl _))
        rw [← HSU.out] at hog7
        clear HOGa XAa HBa hg7
        go_wp2_with fail
        go_roundw
        case rel => first | exact ⟨k + 1, by omega, by go_num, hog7.out, XA.out, HB.out⟩ | ((repeat apply Exists.intro); exact ⟨⟨k + 1, by omega, by go_num, hog7.out, XA.out, HB.out⟩, rfl⟩)
        case measure => simp [intOf]; omega
      · have hlt2 : ¬ (k : Int) < N := by omega
        have hkN : k = N := by omega
        have HPV : Hid (PL wr (.slice OA k oc) (prs ns row)) := Lib.hid (by have := HOG.out.any.pl; rwa [hkN, ← HPL.out, List.take_length, HPL.out, ← hkN] at this)
        clear hkN HOG
        have XA_0 := XA.out.at_ 0 _ rfl
        go_wp2_with fail
        go_ret2
        exact ⟨.slice OA k oc, by rw [HR.out]; rfl, by rw [HR.out]; exact HPV.out, HB.out⟩

end Go.Proofs.YthpioaboekpjoaaDoor

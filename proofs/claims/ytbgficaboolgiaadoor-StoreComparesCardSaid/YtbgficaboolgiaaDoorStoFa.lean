/-
  Contracts of Find, of the reference's Find and Latest, of the law's same.
-/
import Derived.Test.YtbgficaboolgiaaDoorStoX
import Derived.Test.YtbgficaboolgiaaDoorStoF
namespace Go.Proofs.YtbgficaboolgiaaDoor
open Go.RowKit
set_option linter.unusedVariables false
set_option linter.unusedSimpArgs false

theorem fndB_yes {r : Res} {d t : ByteArray} (h1 : d.size = 0 ∨ r.design = d) (h2 : t.size = 0 ∨ r.test = t) : fndB r d t = true := by
  unfold fndB
  rw [Bool.and_eq_true, Bool.or_eq_true, Bool.or_eq_true]
  exact ⟨h1.imp decide_eq_true decide_eq_true, h2.imp decide_eq_true decide_eq_true⟩
theorem fndB_no1 {r : Res} {d t : ByteArray} (h1 : ¬ d.size = 0) (h2 : ¬ r.design = d) : fndB r d t = false := by unfold fndB; simp [h1, h2]
theorem fndB_no2 {r : Res} {d t : ByteArray} (h1 : ¬ t.size = 0) (h2 : ¬ r.test = t) : fndB r d t = false := by unfold fndB; simp [h1, h2]
theorem fnd_len (l : List Res) (d t : ByteArray) : ∀ k, (fndN l d t k).length ≤ k
  | 0 => Nat.le_refl _
  | k + 1 => by
    have := fnd_len l d t k
    unfold fndN
    split
    · rw [List.length_append, List.length_cons, List.length_nil]; omega
    · omega
theorem emp_facts {s : ByteArray} (h : s.size = 0) : s.toList = [] ∧ s.toList.isEmpty = true := by
  have h1 : s.toList = [] := by
    rw [Lib.toList_data]
    exact List.eq_nil_of_length_eq_zero (by rw [← Lib.size_eq]; exact h)
  exact ⟨h1, by rw [h1]; rfl⟩
theorem nemp_facts {s : ByteArray} (h : ¬ s.size = 0) : ¬ s.toList = [] ∧ s.toList.isEmpty = false ∧ (s.toList == []) = false := by
  have h1 : ¬ s.toList = [] := fun e => h (by
    rw [Lib.toList_data] at e
    rw [Lib.size_eq, e]; rfl)
  refine ⟨h1, ?_, ?_⟩
  · cases hs : s.toList with
    | nil => exact absurd hs h1
    | cons a b => rfl
  · rw [beq_eq_false_iff_ne]; exact h1

set_option maxRecDepth 100000 in
set_option maxHeartbeats 16000000 in
theorem stoFind (w : World) (v : Value) (l : List Res) (hv : Rs resR w v l anyB) (hn : l.length ≤ 1000000) (d t : ByteArray) :
    Calls Tryd.prog 23 #[v, .string d, .string t] w fun e w' => ∃ u, e = .returned u ∧ Rs intR w' u (fndT l d t) anyB ∧ Below w.heap.size w w' := by
  obtain ⟨A, c, rfl, hc, hx⟩ := hv.ress
  have HX := Lib.hid hx
  have HR : Hid (fndT l d t = fndN l d t l.length) := Lib.hid rfl
  have HS : Hid (∀ k, fndN l d t (k + 1) = if fndB (l.getD k res0) d t = true then fndN l d t k ++ [(k : Int)] else fndN l d t k) := Lib.hid fun k => rfl
  have H0 : Hid (fndN l d t 0 = []) := Lib.hid rfl
  have HLEN := Lib.hid (fnd_len l d t)
  obtain ⟨N, hN⟩ : ∃ N, N = l.length := ⟨_, rfl⟩
  have HN := Lib.hid hN
  rw [← hN] at hc hn HR ⊢
  generalize fndT l d t = r at *
  generalize fndN l d t = f at *
  obtain ⟨i0, hi, hz0, hz1, hz2⟩ := info_parts iint3
  have JI := Lib.hid hi
  have JZ0 := Lib.hid hz0
  have JZ1 := Lib.hid hz1
  have JZ2 := Lib.hid hz2
  clear hx hv hN hi hz0 hz1 hz2
  go_enter Tryd.func23, Tryd.ntmps23
  go_wp2_with fail
  go_loopw [7, 12] (fun ov i wr => ∃ (k : Nat), k ≤ N ∧ i = .int .i64 k ∧ OG intR wr w.heap.size 0 3 ov (f k) ∧ Below w.heap.size w wr) (fun _ i _ => N - (intOf i).toNat)
  case atStart => exact ⟨0, Nat.zero_le _, rfl, by rw [H0.out]; exact OG.nil intR _ _ _ _ (by decide) (Nat.zero_le _), Below.refl _ _⟩
  case round =>
    obtain ⟨k, hk, rfl, hog, hb⟩ := hrel
    have HB := Lib.hid hb
    have HOG := Lib.hid hog
    obtain ⟨OA, oc, rfl⟩ := hog.slice
    clear hb hog
    by_cases hlt : k < N
    · have hlt2 : (k : Int) < N := by omega
      have hk0 : (0 : Int) ≤ (k : Int) := by omega
      obtain ⟨b, o, p, q, rfl, hbl, hcl, ⟨hp, -⟩, hq, -⟩ := HX.out k (by rw [← HN.out]; exact hlt)
      have HFk := Lib.hid (HS.out k)
      have hlen := HLEN.out k
      obtain ⟨A1, c1, rfl, -⟩ := hp.slice
      obtain ⟨A2, c2, rfl, -⟩ := hq.slice
      have hcell : ∀ i u, (resL (.slice A1 (l.getD k res0).pts.length c1) (.slice A2 (l.getD k res0).crs.length c2) (l.getD k res0))[i]? = some u → wr.cell? ⟨b, o + k * 11 + i, none⟩ = some u := fun i u h => (HB.out.cell (p := ⟨b, o + k * 11 + i, none⟩) hbl).trans (hcl i u h)
      clear hcl hp hq hbl
      have F1 := Lib.hid (fun h1 h2 => fndB_yes (r := l.getD k res0) (d := d) (t := t) h1 h2)
      have F2 := Lib.hid (fun h1 h2 => fndB_no1 (r := l.getD k res0) (d := d) (t := t) h1 h2)
      have F3 := Lib.hid (fun h1 h2 => fndB_no2 (r := l.getD k res0) (d := d) (t := t) h1 h2)
      generalize fndB (l.getD k res0) d t = fb at *
      generalize l.getD k res0 = x at *
      obtain ⟨te, se, de, si, cy, sn, gt, ps, cs, sm, il⟩ := x
      simp only at hcell F1 F2 F3
      generalize ps.length = M1 at *
      generalize cs.length = M2 at *
      obtain ⟨acc, hacc⟩ : ∃ z, z = f k := ⟨_, rfl⟩
      obtain ⟨acc', hacc'⟩ : ∃ z, z = f (k + 1) := ⟨_, rfl⟩
      rw [← hacc'] at HFk
      rw [← hacc] at HFk HOG hlen ⊢
      have HFM := Lib.hid hacc'
      clear hacc hacc'
      have g0 := hcell 0 _ rfl
      have g1 := hcell 1 _ rfl
      have g2 := hcell 2 _ rfl
      have g3 := hcell 3 _ rfl
      have g4 := hcell 4 _ rfl
      have g5 := hcell 5 _ rfl
      have g6 := hcell 6 _ rfl
      have g7 := hcell 7 _ rfl
      have g8 := hcell 8 _ rfl
      have g9 := hcell 9 _ rfl
      have g10 := hcell 10 _ rfl
      simp only [Nat.add_zero] at g0
      clear hcell
      obtain ⟨wo, rfl⟩ : ∃ x : World, x = wr := ⟨_, rfl⟩
      go_upto_region 5 with fail
      have XA := Lib.hid (box_new (W := wo) (g := wo.heap.size) 27 #[.string te, .int .u64 se, .string de, .string si, .int .i64 cy, .int .i64 sn, .int .i64 gt, .slice A1 M1 c1, .slice A2 M2 c2, .int .i64 sm, .int .i64 il] (by simp))
      have hba := (below_alloc wo (.cells #[.string te, .int .u64 se, .string de, .string si, .int .i64 cy, .int .i64 sn, .int .i64 gt, .slice A1 M1 c1, .slice A2 M2 c2, .int .i64 sm, .int .i64 il] 27))
      replace HOG := Lib.hid (HOG.out.below hba)
      replace HB := Lib.hid (below_step HB.out hba)
      clear hba
      generalize wo.alloc (.cells #[.string te, .int .u64 se, .string de, .string si, .int .i64 cy, .int .i64 sn, .int .i64 gt, .slice A1 M1 c1, .slice A2 M2 c2, .int .i64 sm, .int .i64 il] 27) = w1 at *
      clear g0 g1 g2 g3 g4 g5 g6 g7 g8 g9 g10
      have XA_0 := XA.out.at_ 0 _ rfl
      have XA_2 := XA.out.at_ 2 _ rfl
      by_cases hde : d.size = 0
      · obtain ⟨p1, p2⟩ := emp_facts hde
        by_cases hte : t.size = 0
        · obtain ⟨q1, q2⟩ := emp_facts hte
          have hfb := F1.out (.inl hde) (.inl hte)
          have HFN : Hid (acc' = acc ++ [(k : Int)]) := Lib.hid (by rw [HFk.out, hfb]; rfl)
          clear HFk F1 F2 F3
          go_upto_region 6 with fail
          clear XA_0 XA_2 XA
          have hbl := below_alloc w1 (.cells #[.int .i64 (k : Int)] 3)
          have HR4 : Hid (Rs intR (w1.alloc (.cells #[.int .i64 (k : Int)] 3)) (.slice (some ⟨w1.heap.size, 0, none⟩) 1 1) [(k : Int)] (Ty (w1.alloc (.cells #[.int .i64 (k : Int)] 3)) 0 intR.ts)) :=
            Lib.hid (Rs.one (φ := intR) (us := [.int .i64 (k : Int)]) (x := (k : Int)) rfl 3)
          have HOGa := Lib.hid (HOG.out.below hbl)
          have HBa := Lib.hid (below_step HB.out hbl)
          have hsz9 := HBa.out.size
          clear hbl
          go_wp2_with (at_builtin; refine wpList_append_og (φ := intR) (T := 3) (B := w.heap.size) (C := 0) (xs := acc) (ys := [(k : Int)]) rfl _ _ 52 rfl i0 (.int .i64 0) 8 Tryd.underlying52 JI.out JZ0.out JZ1.out JZ2.out rfl rfl HOGa.out (.slice (some ⟨w1.heap.size, 0, none⟩) 1 1) rfl HR4.out ?c1 ?c2 ?c3 ?_)
          case c1 => (try simp only [List.length_cons, List.length_nil]); omega
          case c2 => (try simp only [List.length_cons, List.length_nil]); unfold maxLen; omega
          case c3 => first | exact hsz9 | simpa using hsz9
          intro v' w10 hog7 hg7
          have HB10 := Lib.hid (HOGa.out.belowG hg7.out HBa.out hsz9 (Nat.le_refl _))
          clear HOGa HBa hsz9 hg7 HR4 HOG HB
          go_wp2_with fail
          go_roundw
          case rel => exact ⟨k + 1, by omega, by go_num, by rw [← HFM.out, HFN.out]; exact hog7.out, HB10.out⟩
          case measure => simp [intOf] <;> omega
        · obtain ⟨q1, q2, q3⟩ := nemp_facts hte
          by_cases htt : te = t
          · have hfb := F1.out (.inl hde) (.inr htt)
            subst htt
            obtain ⟨q4, q5⟩ := str_eq te
            have HFN : Hid (acc' = acc ++ [(k : Int)]) := Lib.hid (by rw [HFk.out, hfb]; rfl)
            clear HFk F1 F2 F3
            go_upto_region 6 with fail
            clear XA_0 XA_2 XA
            have hbl := below_alloc w1 (.cells #[.int .i64 (k : Int)] 3)
            have HR4 : Hid (Rs intR (w1.alloc (.cells #[.int .i64 (k : Int)] 3)) (.slice (some ⟨w1.heap.size, 0, none⟩) 1 1) [(k : Int)] (Ty (w1.alloc (.cells #[.int .i64 (k : Int)] 3)) 0 intR.ts)) :=
              Lib.hid (Rs.one (φ := intR) (us := [.int .i64 (k : Int)]) (x := (k : Int)) rfl 3)
            have HOGa := Lib.hid (HOG.out.below hbl)
            have HBa := Lib.hid (below_step HB.out hbl)
            have hsz9 := HBa.out.size
            clear hbl
            go_wp2_with (at_builtin; refine wpList_append_og (φ := intR) (T := 3) (B := w.heap.size) (C := 0) (xs := acc) (ys := [(k : Int)]) rfl _ _ 52 rfl i0 (.int .i64 0) 8 Tryd.underlying52 JI.out JZ0.out JZ1.out JZ2.out rfl rfl HOGa.out (.slice (some ⟨w1.heap.size, 0, none⟩) 1 1) rfl HR4.out ?c1 ?c2 ?c3 ?_)
            case c1 => (try simp only [List.length_cons, List.length_nil]); omega
            case c2 => (try simp only [List.length_cons, List.length_nil]); unfold maxLen; omega
            case c3 => first | exact hsz9 | simpa using hsz9
            intro v' w10 hog7 hg7
            have HB10 := Lib.hid (HOGa.out.belowG hg7.out HBa.out hsz9 (Nat.le_refl _))
            clear HOGa HBa hsz9 hg7 HR4 HOG HB
            go_wp2_with fail
            go_roundw
            case rel => exact ⟨k + 1, by omega, by go_num, by rw [← HFM.out, HFN.out]; exact hog7.out, HB10.out⟩
            case measure => simp [intOf] <;> omega
          · obtain ⟨q4, q5⟩ := str_neq htt
            have HFN : Hid (acc' = acc) := Lib.hid (by rw [HFk.out, F3.out hte htt]; rfl)
            clear HFk F1 F2 F3
            go_wp2_with fail
            go_roundw
            case rel => exact ⟨k + 1, by omega, by go_num, by rw [← HFM.out, HFN.out]; exact HOG.out, HB.out⟩
            case measure => simp [intOf] <;> omega
      · obtain ⟨p1, p2, p3⟩ := nemp_facts hde
        by_cases hdd : de = d
        · have hfd := Lib.hid (show d.size = 0 ∨ de = d from .inr hdd)
          subst hdd
          obtain ⟨p4, p5⟩ := str_eq de
          by_cases hte : t.size = 0
          · obtain ⟨q1, q2⟩ := emp_facts hte
            have hfb := F1.out (hfd.out) (.inl hte)
            have HFN : Hid (acc' = acc ++ [(k : Int)]) := Lib.hid (by rw [HFk.out, hfb]; rfl)
            clear HFk F1 F2 F3
            go_upto_region 6 with fail
            clear XA_0 XA_2 XA
            have hbl := below_alloc w1 (.cells #[.int .i64 (k : Int)] 3)
            have HR4 : Hid (Rs intR (w1.alloc (.cells #[.int .i64 (k : Int)] 3)) (.slice (some ⟨w1.heap.size, 0, none⟩) 1 1) [(k : Int)] (Ty (w1.alloc (.cells #[.int .i64 (k : Int)] 3)) 0 intR.ts)) :=
              Lib.hid (Rs.one (φ := intR) (us := [.int .i64 (k : Int)]) (x := (k : Int)) rfl 3)
            have HOGa := Lib.hid (HOG.out.below hbl)
            have HBa := Lib.hid (below_step HB.out hbl)
            have hsz9 := HBa.out.size
            clear hbl
            go_wp2_with (at_builtin; refine wpList_append_og (φ := intR) (T := 3) (B := w.heap.size) (C := 0) (xs := acc) (ys := [(k : Int)]) rfl _ _ 52 rfl i0 (.int .i64 0) 8 Tryd.underlying52 JI.out JZ0.out JZ1.out JZ2.out rfl rfl HOGa.out (.slice (some ⟨w1.heap.size, 0, none⟩) 1 1) rfl HR4.out ?c1 ?c2 ?c3 ?_)
            case c1 => (try simp only [List.length_cons, List.length_nil]); omega
            case c2 => (try simp only [List.length_cons, List.length_nil]); unfold maxLen; omega
            case c3 => first | exact hsz9 | simpa using hsz9
            intro v' w10 hog7 hg7
            have HB10 := Lib.hid (HOGa.out.belowG hg7.out HBa.out hsz9 (Nat.le_refl _))
            clear HOGa HBa hsz9 hg7 HR4 HOG HB
            go_wp2_with fail
            go_roundw
            case rel => exact ⟨k + 1, by omega, by go_num, by rw [← HFM.out, HFN.out]; exact hog7.out, HB10.out⟩
            case measure => simp [intOf] <;> omega
          · obtain ⟨q1, q2, q3⟩ := nemp_facts hte
            by_cases htt : te = t
            · have hfb := F1.out (hfd.out) (.inr htt)
              subst htt
              obtain ⟨q4, q5⟩ := str_eq te
              have HFN : Hid (acc' = acc ++ [(k : Int)]) := Lib.hid (by rw [HFk.out, hfb]; rfl)
              clear HFk F1 F2 F3
              go_upto_region 6 with fail
              clear XA_0 XA_2 XA
              have hbl := below_alloc w1 (.cells #[.int .i64 (k : Int)] 3)
              have HR4 : Hid (Rs intR (w1.alloc (.cells #[.int .i64 (k : Int)] 3)) (.slice (some ⟨w1.heap.size, 0, none⟩) 1 1) [(k : Int)] (Ty (w1.alloc (.cells #[.int .i64 (k : Int)] 3)) 0 intR.ts)) :=
                Lib.hid (Rs.one (φ := intR) (us := [.int .i64 (k : Int)]) (x := (k : Int)) rfl 3)
              have HOGa := Lib.hid (HOG.out.below hbl)
              have HBa := Lib.hid (below_step HB.out hbl)
              have hsz9 := HBa.out.size
              clear hbl
              go_wp2_with (at_builtin; refine wpList_append_og (φ := intR) (T := 3) (B := w.heap.size) (C := 0) (xs := acc) (ys := [(k : Int)]) rfl _ _ 52 rfl i0 (.int .i64 0) 8 Tryd.underlying52 JI.out JZ0.out JZ1.out JZ2.out rfl rfl HOGa.out (.slice (some ⟨w1.heap.size, 0, none⟩) 1 1) rfl HR4.out ?c1 ?c2 ?c3 ?_)
              case c1 => (try simp only [List.length_cons, List.length_nil]); omega
              case c2 => (try simp only [List.length_cons, List.length_nil]); unfold maxLen; omega
              case c3 => first | exact hsz9 | simpa using hsz9
              intro v' w10 hog7 hg7
              have HB10 := Lib.hid (HOGa.out.belowG hg7.out HBa.out hsz9 (Nat.le_refl _))
              clear HOGa HBa hsz9 hg7 HR4 HOG HB
              go_wp2_with fail
              go_roundw
              case rel => exact ⟨k + 1, by omega, by go_num, by rw [← HFM.out, HFN.out]; exact hog7.out, HB10.out⟩
              case measure => simp [intOf] <;> omega
            · obtain ⟨q4, q5⟩ := str_neq htt
              have HFN : Hid (acc' = acc) := Lib.hid (by rw [HFk.out, F3.out hte htt]; rfl)
              clear HFk F1 F2 F3
              go_wp2_with fail
              go_roundw
              case rel => exact ⟨k + 1, by omega, by go_num, by rw [← HFM.out, HFN.out]; exact HOG.out, HB.out⟩
              case measure => simp [intOf] <;> omega
        · obtain ⟨p4, p5⟩ := str_neq hdd
          have HFN : Hid (acc' = acc) := Lib.hid (by rw [HFk.out, F2.out hde hdd]; rfl)
          clear HFk F1 F2 F3
          go_wp2_with fail
          go_roundw
          case rel => exact ⟨k + 1, by omega, by go_num, by rw [← HFM.out, HFN.out]; exact HOG.out, HB.out⟩
          case measure => simp [intOf] <;> omega
    · have hlt2 : ¬ (k : Int) < N := by omega
      have hkN : k = N := by omega
      rw [hkN, ← HR.out] at HOG
      rw [hkN, ← HR.out]
      clear hkN
      go_wp2_with fail
      go_ret
      exact ⟨_, rfl, HOG.out.any, HB.out⟩

set_option maxRecDepth 100000 in
set_option maxHeartbeats 16000000 in
theorem refFind (w : World) (v : Value) (l : List Res) (hv : Rs resR w v l anyB) (hn : l.length ≤ 1000000) (d t : ByteArray) :
    Calls Tryd.prog 24 #[v, .string d, .string t] w fun e w' => ∃ u, e = .returned u ∧ Rs intR w' u (fndT l d t) anyB ∧ Below w.heap.size w w' := by
  obtain ⟨A, c, rfl, hc, hx⟩ := hv.ress
  have HX := Lib.hid hx
  have HR : Hid (fndT l d t = fndN l d t l.length) := Lib.hid rfl
  have HS : Hid (∀ k, fndN l d t (k + 1) = if fndB (l.getD k res0) d t = true then fndN l d t k ++ [(k : Int)] else fndN l d t k) := Lib.hid fun k => rfl
  have H0 : Hid (fndN l d t 0 = []) := Lib.hid rfl
  have HLEN := Lib.hid (fnd_len l d t)
  obtain ⟨N, hN⟩ : ∃ N, N = l.length := ⟨_, rfl⟩
  have HN := Lib.hid hN
  rw [← hN] at hc hn HR ⊢
  generalize fndT l d t = r at *
  generalize fndN l d t = f at *
  obtain ⟨i0, hi, hz0, hz1, hz2⟩ := info_parts iint3
  have JI := Lib.hid hi
  have JZ0 := Lib.hid hz0
  have JZ1 := Lib.hid hz1
  have JZ2 := Lib.hid hz2
  clear hx hv hN hi hz0 hz1 hz2
  go_enter Tryd.func24, Tryd.ntmps24
  go_wp2_with fail
  go_loopw [7, 8] (fun ov i wr => ∃ (k : Nat), k ≤ N ∧ i = .int .i64 k ∧ OG intR wr w.heap.size 0 3 ov (f k) ∧ Below w.heap.size w wr) (fun _ i _ => N - (intOf i).toNat)
  case atStart => exact ⟨0, Nat.zero_le _, rfl, by rw [H0.out]; exact OG.nil intR _ _ _ _ (by decide) (Nat.zero_le _), Below.refl _ _⟩
  case round =>
    obtain ⟨k, hk, rfl, hog, hb⟩ := hrel
    have HB := Lib.hid hb
    have HOG := Lib.hid hog
    obtain ⟨OA, oc, rfl⟩ := hog.slice
    clear hb hog
    by_cases hlt : k < N
    · have hlt2 : (k : Int) < N := by omega
      have hk0 : (0 : Int) ≤ (k : Int) := by omega
      obtain ⟨b, o, p, q, rfl, hbl, hcl, ⟨hp, -⟩, hq, -⟩ := HX.out k (by rw [← HN.out]; exact hlt)
      have HFk := Lib.hid (HS.out k)
      have hlen := HLEN.out k
      obtain ⟨A1, c1, rfl, -⟩ := hp.slice
      obtain ⟨A2, c2, rfl, -⟩ := hq.slice
      have hcell : ∀ i u, (resL (.slice A1 (l.getD k res0).pts.length c1) (.slice A2 (l.getD k res0).crs.length c2) (l.getD k res0))[i]? = some u → wr.cell? ⟨b, o + k * 11 + i, none⟩ = some u := fun i u h => (HB.out.cell (p := ⟨b, o + k * 11 + i, none⟩) hbl).trans (hcl i u h)
      clear hcl hp hq hbl
      have F1 := Lib.hid (fun h1 h2 => fndB_yes (r := l.getD k res0) (d := d) (t := t) h1 h2)
      have F2 := Lib.hid (fun h1 h2 => fndB_no1 (r := l.getD k res0) (d := d) (t := t) h1 h2)
      have F3 := Lib.hid (fun h1 h2 => fndB_no2 (r := l.getD k res0) (d := d) (t := t) h1 h2)
      generalize fndB (l.getD k res0) d t = fb at *
      generalize l.getD k res0 = x at *
      obtain ⟨te, se, de, si, cy, sn, gt, ps, cs, sm, il⟩ := x
      simp only at hcell F1 F2 F3
      generalize ps.length = M1 at *
      generalize cs.length = M2 at *
      obtain ⟨acc, hacc⟩ : ∃ z, z = f k := ⟨_, rfl⟩
      obtain ⟨acc', hacc'⟩ : ∃ z, z = f (k + 1) := ⟨_, rfl⟩
      rw [← hacc'] at HFk
      rw [← hacc] at HFk HOG hlen ⊢
      have HFM := Lib.hid hacc'
      clear hacc hacc'
      have g0 := hcell 0 _ rfl
      have g2 := hcell 2 _ rfl
      simp only [Nat.add_zero] at g0
      clear hcell
      obtain ⟨wo, rfl⟩ : ∃ x : World, x = wr := ⟨_, rfl⟩
      by_cases hde : d.size = 0
      · obtain ⟨p1, p2⟩ := emp_facts hde
        by_cases hte : t.size = 0
        · obtain ⟨q1, q2⟩ := emp_facts hte
          have hfb := F1.out (.inl hde) (.inl hte)
          have HFN : Hid (acc' = acc ++ [(k : Int)]) := Lib.hid (by rw [HFk.out, hfb]; rfl)
          clear HFk F1 F2 F3
          go_upto_region 6 with fail
          clear g0 g2
          have hbl := below_alloc wo (.cells #[.int .i64 (k : Int)] 3)
          have HR4 : Hid (Rs intR (wo.alloc (.cells #[.int .i64 (k : Int)] 3)) (.slice (some ⟨wo.heap.size, 0, none⟩) 1 1) [(k : Int)] (Ty (wo.alloc (.cells #[.int .i64 (k : Int)] 3)) 0 intR.ts)) :=
            Lib.hid (Rs.one (φ := intR) (us := [.int .i64 (k : Int)]) (x := (k : Int)) rfl 3)
          have HOGa := Lib.hid (HOG.out.below hbl)
          have HBa := Lib.hid (below_step HB.out hbl)
          have hsz9 := HBa.out.size
          clear hbl
          go_wp2_with (at_builtin; refine wpList_append_og (φ := intR) (T := 3) (B := w.heap.size) (C := 0) (xs := acc) (ys := [(k : Int)]) rfl _ _ 52 rfl i0 (.int .i64 0) 8 Tryd.underlying52 JI.out JZ0.out JZ1.out JZ2.out rfl rfl HOGa.out (.slice (some ⟨wo.heap.size, 0, none⟩) 1 1) rfl HR4.out ?c1 ?c2 ?c3 ?_)
          case c1 => (try simp only [List.length_cons, List.length_nil]); omega
          case c2 => (try simp only [List.length_cons, List.length_nil]); unfold maxLen; omega
          case c3 => first | exact hsz9 | simpa using hsz9
          intro v' w10 hog7 hg7
          have HB10 := Lib.hid (HOGa.out.belowG hg7.out HBa.out hsz9 (Nat.le_refl _))
          clear HOGa HBa hsz9 hg7 HR4 HOG HB
          go_wp2_with fail
          go_roundw
          case rel => exact ⟨k + 1, by omega, by go_num, by rw [← HFM.out, HFN.out]; exact hog7.out, HB10.out⟩
          case measure => simp [intOf] <;> omega
        · obtain ⟨q1, q2, q3⟩ := nemp_facts hte
          by_cases htt : te = t
          · have hfb := F1.out (.inl hde) (.inr htt)
            subst htt
            obtain ⟨q4, q5⟩ := str_eq te
            have HFN : Hid (acc' = acc ++ [(k : Int)]) := Lib.hid (by rw [HFk.out, hfb]; rfl)
            clear HFk F1 F2 F3
            go_upto_region 6 with fail
            clear g0 g2
            have hbl := below_alloc wo (.cells #[.int .i64 (k : Int)] 3)
            have HR4 : Hid (Rs intR (wo.alloc (.cells #[.int .i64 (k : Int)] 3)) (.slice (some ⟨wo.heap.size, 0, none⟩) 1 1) [(k : Int)] (Ty (wo.alloc (.cells #[.int .i64 (k : Int)] 3)) 0 intR.ts)) :=
              Lib.hid (Rs.one (φ := intR) (us := [.int .i64 (k : Int)]) (x := (k : Int)) rfl 3)
            have HOGa := Lib.hid (HOG.out.below hbl)
            have HBa := Lib.hid (below_step HB.out hbl)
            have hsz9 := HBa.out.size
            clear hbl
            go_wp2_with (at_builtin; refine wpList_append_og (φ := intR) (T := 3) (B := w.heap.size) (C := 0) (xs := acc) (ys := [(k : Int)]) rfl _ _ 52 rfl i0 (.int .i64 0) 8 Tryd.underlying52 JI.out JZ0.out JZ1.out JZ2.out rfl rfl HOGa.out (.slice (some ⟨wo.heap.size, 0, none⟩) 1 1) rfl HR4.out ?c1 ?c2 ?c3 ?_)
            case c1 => (try simp only [List.length_cons, List.length_nil]); omega
            case c2 => (try simp only [List.length_cons, List.length_nil]); unfold maxLen; omega
            case c3 => first | exact hsz9 | simpa using hsz9
            intro v' w10 hog7 hg7
            have HB10 := Lib.hid (HOGa.out.belowG hg7.out HBa.out hsz9 (Nat.le_refl _))
            clear HOGa HBa hsz9 hg7 HR4 HOG HB
            go_wp2_with fail
            go_roundw
            case rel => exact ⟨k + 1, by omega, by go_num, by rw [← HFM.out, HFN.out]; exact hog7.out, HB10.out⟩
            case measure => simp [intOf] <;> omega
          · obtain ⟨q4, q5⟩ := str_neq htt
            have HFN : Hid (acc' = acc) := Lib.hid (by rw [HFk.out, F3.out hte htt]; rfl)
            clear HFk F1 F2 F3
            go_wp2_with fail
            go_roundw
            case rel => exact ⟨k + 1, by omega, by go_num, by rw [← HFM.out, HFN.out]; exact HOG.out, HB.out⟩
            case measure => simp [intOf] <;> omega
      · obtain ⟨p1, p2, p3⟩ := nemp_facts hde
        by_cases hdd : de = d
        · have hfd := Lib.hid (show d.size = 0 ∨ de = d from .inr hdd)
          subst hdd
          obtain ⟨p4, p5⟩ := str_eq de
          by_cases hte : t.size = 0
          · obtain ⟨q1, q2⟩ := emp_facts hte
            have hfb := F1.out (hfd.out) (.inl hte)
            have HFN : Hid (acc' = acc ++ [(k : Int)]) := Lib.hid (by rw [HFk.out, hfb]; rfl)
            clear HFk F1 F2 F3
            go_upto_region 6 with fail
            clear g0 g2
            have hbl := below_alloc wo (.cells #[.int .i64 (k : Int)] 3)
            have HR4 : Hid (Rs intR (wo.alloc (.cells #[.int .i64 (k : Int)] 3)) (.slice (some ⟨wo.heap.size, 0, none⟩) 1 1) [(k : Int)] (Ty (wo.alloc (.cells #[.int .i64 (k : Int)] 3)) 0 intR.ts)) :=
              Lib.hid (Rs.one (φ := intR) (us := [.int .i64 (k : Int)]) (x := (k : Int)) rfl 3)
            have HOGa := Lib.hid (HOG.out.below hbl)
            have HBa := Lib.hid (below_step HB.out hbl)
            have hsz9 := HBa.out.size
            clear hbl
            go_wp2_with (at_builtin; refine wpList_append_og (φ := intR) (T := 3) (B := w.heap.size) (C := 0) (xs := acc) (ys := [(k : Int)]) rfl _ _ 52 rfl i0 (.int .i64 0) 8 Tryd.underlying52 JI.out JZ0.out JZ1.out JZ2.out rfl rfl HOGa.out (.slice (some ⟨wo.heap.size, 0, none⟩) 1 1) rfl HR4.out ?c1 ?c2 ?c3 ?_)
            case c1 => (try simp only [List.length_cons, List.length_nil]); omega
            case c2 => (try simp only [List.length_cons, List.length_nil]); unfold maxLen; omega
            case c3 => first | exact hsz9 | simpa using hsz9
            intro v' w10 hog7 hg7
            have HB10 := Lib.hid (HOGa.out.belowG hg7.out HBa.out hsz9 (Nat.le_refl _))
            clear HOGa HBa hsz9 hg7 HR4 HOG HB
            go_wp2_with fail
            go_roundw
            case rel => exact ⟨k + 1, by omega, by go_num, by rw [← HFM.out, HFN.out]; exact hog7.out, HB10.out⟩
            case measure => simp [intOf] <;> omega
          · obtain ⟨q1, q2, q3⟩ := nemp_facts hte
            by_cases htt : te = t
            · have hfb := F1.out (hfd.out) (.inr htt)
              subst htt
              obtain ⟨q4, q5⟩ := str_eq te
              have HFN : Hid (acc' = acc ++ [(k : Int)]) := Lib.hid (by rw [HFk.out, hfb]; rfl)
              clear HFk F1 F2 F3
              go_upto_region 6 with fail
              clear g0 g2
              have hbl := below_alloc wo (.cells #[.int .i64 (k : Int)] 3)
              have HR4 : Hid (Rs intR (wo.alloc (.cells #[.int .i64 (k : Int)] 3)) (.slice (some ⟨wo.heap.size, 0, none⟩) 1 1) [(k : Int)] (Ty (wo.alloc (.cells #[.int .i64 (k : Int)] 3)) 0 intR.ts)) :=
                Lib.hid (Rs.one (φ := intR) (us := [.int .i64 (k : Int)]) (x := (k : Int)) rfl 3)
              have HOGa := Lib.hid (HOG.out.below hbl)
              have HBa := Lib.hid (below_step HB.out hbl)
              have hsz9 := HBa.out.size
              clear hbl
              go_wp2_with (at_builtin; refine wpList_append_og (φ := intR) (T := 3) (B := w.heap.size) (C := 0) (xs := acc) (ys := [(k : Int)]) rfl _ _ 52 rfl i0 (.int .i64 0) 8 Tryd.underlying52 JI.out JZ0.out JZ1.out JZ2.out rfl rfl HOGa.out (.slice (some ⟨wo.heap.size, 0, none⟩) 1 1) rfl HR4.out ?c1 ?c2 ?c3 ?_)
              case c1 => (try simp only [List.length_cons, List.length_nil]); omega
              case c2 => (try simp only [List.length_cons, List.length_nil]); unfold maxLen; omega
              case c3 => first | exact hsz9 | simpa using hsz9
              intro v' w10 hog7 hg7
              have HB10 := Lib.hid (HOGa.out.belowG hg7.out HBa.out hsz9 (Nat.le_refl _))
              clear HOGa HBa hsz9 hg7 HR4 HOG HB
              go_wp2_with fail
              go_roundw
              case rel => exact ⟨k + 1, by omega, by go_num, by rw [← HFM.out, HFN.out]; exact hog7.out, HB10.out⟩
              case measure => simp [intOf] <;> omega
            · obtain ⟨q4, q5⟩ := str_neq htt
              have HFN : Hid (acc' = acc) := Lib.hid (by rw [HFk.out, F3.out hte htt]; rfl)
              clear HFk F1 F2 F3
              go_wp2_with fail
              go_roundw
              case rel => exact ⟨k + 1, by omega, by go_num, by rw [← HFM.out, HFN.out]; exact HOG.out, HB.out⟩
              case measure => simp [intOf] <;> omega
        · obtain ⟨p4, p5⟩ := str_neq hdd
          have HFN : Hid (acc' = acc) := Lib.hid (by rw [HFk.out, F2.out hde hdd]; rfl)
          clear HFk F1 F2 F3
          go_wp2_with fail
          go_roundw
          case rel => exact ⟨k + 1, by omega, by go_num, by rw [← HFM.out, HFN.out]; exact HOG.out, HB.out⟩
          case measure => simp [intOf] <;> omega
    · have hlt2 : ¬ (k : Int) < N := by omega
      have hkN : k = N := by omega
      rw [hkN, ← HR.out] at HOG
      rw [hkN, ← HR.out]
      clear hkN
      go_wp2_with fail
      go_ret
      exact ⟨_, rfl, HOG.out.any, HB.out⟩

set_option maxRecDepth 100000 in
set_option maxHeartbeats 16000000 in
theorem refLatest (w : World) (v : Value) (l : List Res) (hv : Rs resR w v l anyB) (hn : l.length ≤ 9223372036854775807) (d t : ByteArray) (s : Nat) :
    Calls Tryd.prog 21 #[v, .string d, .string t, .int .u64 s] w fun e w' => e = ret2ib (latT l d t s) ∧ Below w.heap.size w w' := by
  obtain ⟨A, c, rfl, hc, hx⟩ := hv.ress
  have HX := Lib.hid hx
  have HR : Hid (latT l d t s = latN l d t s l.length) := Lib.hid rfl
  have HS : Hid (∀ k, latN l d t s (k + 1) = if hitB (l.getD k res0) d t s = true then (k, true) else latN l d t s k) := Lib.hid fun k => rfl
  have H0 : Hid (latN l d t s 0 = (0, false)) := Lib.hid rfl
  obtain ⟨N, hN⟩ : ∃ N, N = l.length := ⟨_, rfl⟩
  have HN := Lib.hid hN
  rw [← hN] at hc hn HR ⊢
  generalize latT l d t s = r at *
  generalize latN l d t s = f at *
  clear hx hv hN
  go_enter Tryd.func21, Tryd.ntmps21
  go_wp2_with fail
  go_loopw [10] (fun i wr => ∃ (k : Nat) (z : Int), k ≤ N ∧ i = .int .i64 z ∧ z = (k : Int) - 1 ∧ Hid (r = f k) ∧ Below w.heap.size w wr) (fun i _ => (intOf i + 1).toNat)
  case atStart => exact ⟨N, _, Nat.le_refl _, rfl, by omega, HR, Below.refl _ _⟩
  case round =>
    obtain ⟨k, z, hk, rfl, hz, HF, hb⟩ := hrel
    have HB := Lib.hid hb
    clear hb HR
    cases k with
    | zero =>
      obtain rfl : z = -1 := by omega
      have HR : Hid (r = (0, false)) := Lib.hid (by rw [HF.out, H0.out])
      clear hz HF
      go_wp2_with fail
      go_ret2
      exact ⟨by rw [HR.out]; rfl, HB.out⟩
    | succ k =>
      obtain rfl : z = (k : Int) := by omega
      have hk0 : (0 : Int) ≤ (k : Int) := by omega
      have hk1 : (k : Int) < N := by omega
      obtain ⟨b, o, p, q, rfl, hbl, hcl, ⟨hp, -⟩, hq, -⟩ := HX.out k (by rw [← HN.out]; omega)
      have HFk : Hid (r = if hitB (l.getD k res0) d t s = true then (k, true) else f k) := Lib.hid (by rw [HF.out, HS.out])
      obtain ⟨A1, c1, rfl, -⟩ := hp.slice
      obtain ⟨A2, c2, rfl, -⟩ := hq.slice
      have hcell : ∀ i u, (resL (.slice A1 (l.getD k res0).pts.length c1) (.slice A2 (l.getD k res0).crs.length c2) (l.getD k res0))[i]? = some u → wr.cell? ⟨b, o + k * 11 + i, none⟩ = some u := fun i u h => (HB.out.cell (p := ⟨b, o + k * 11 + i, none⟩) hbl).trans (hcl i u h)
      clear hz HF hcl hp hq hbl
      generalize l.getD k res0 = x at *
      obtain ⟨te, se, de, si, cy, sn, gt, ps, cs, sm, il⟩ := x
      simp only at hcell
      generalize ps.length = M1 at *
      generalize cs.length = M2 at *
      have g0 := hcell 0 _ rfl
      have g1 := hcell 1 _ rfl
      have g2 := hcell 2 _ rfl
      have g3 := hcell 3 _ rfl
      have g4 := hcell 4 _ rfl
      have g5 := hcell 5 _ rfl
      have g6 := hcell 6 _ rfl
      have g7 := hcell 7 _ rfl
      have g8 := hcell 8 _ rfl
      have g9 := hcell 9 _ rfl
      have g10 := hcell 10 _ rfl
      simp only [Nat.add_zero] at g0
      clear hcell
      clear g3 g4 g5 g6 g7 g8 g9 g10
      by_cases hd : de = d
      case neg =>
        obtain ⟨e1, e2⟩ := str_neq hd
        have HR : Hid (r = f k) := Lib.hid (by rw [HFk.out, if_neg]; rw [hitB_iff]; exact fun h => hd h.1)
        clear HFk hd
        go_wp2_with fail
        go_roundw
        case rel => exact ⟨k, _, by omega, rfl, by omega, HR, HB.out⟩
        case measure => simp [intOf] <;> omega
      subst hd
      obtain ⟨e1, e2⟩ := str_eq de
      by_cases hte : te = t
      case neg =>
        obtain ⟨e3, e4⟩ := str_neq hte
        have HR : Hid (r = f k) := Lib.hid (by rw [HFk.out, if_neg]; rw [hitB_iff]; exact fun h => hte h.2.1)
        clear HFk hte
        go_wp2_with fail
        go_roundw
        case rel => exact ⟨k, _, by omega, rfl, by omega, HR, HB.out⟩
        case measure => simp [intOf] <;> omega
      subst hte
      obtain ⟨e3, e4⟩ := str_eq te
      by_cases hse : se = s
      case neg =>
        have e5 : ¬ (se : Int) = s := by omega
        have e6 : ((se : Int) == (s : Int)) = false := by simpa using e5
        have HR : Hid (r = f k) := Lib.hid (by rw [HFk.out, if_neg]; rw [hitB_iff]; exact fun h => hse h.2.2)
        clear HFk hse
        go_wp2_with fail
        go_roundw
        case rel => exact ⟨k, _, by omega, rfl, by omega, HR, HB.out⟩
        case measure => simp [intOf] <;> omega
      subst hse
      have e5 : ((se : Int) == (se : Int)) = true := by simp
      have HR : Hid (r = (k, true)) := Lib.hid (by rw [HFk.out, if_pos]; rw [hitB_iff]; exact ⟨rfl, rfl, rfl⟩)
      clear HFk
      go_wp2_with fail
      go_ret2
      exact ⟨by rw [HR.out]; rfl, HB.out⟩

set_option maxRecDepth 100000 in
set_option maxHeartbeats 1000000 in
theorem lawSame (w : World) (v1 v2 : Value) (l : List Int) (h1 : IL w v1 l) (h2 : IL w v2 l) (hl : l.length ≤ 9223372036854775807) :
    Calls Tryd.prog 22 #[v1, v2] w fun e w' => e = .returned (.bool true) ∧ ∃ n, w' = w.drewN n := by
  obtain ⟨A1, c1, rfl, hc1, h1⟩ := h1
  obtain ⟨A2, c2, rfl, hc2, h2⟩ := h2
  obtain ⟨N, hN⟩ : ∃ N, N = l.length := ⟨_, rfl⟩
  have hN2 := hN
  rw [← hN2] at h1 h2 hl hc1 hc2 ⊢
  have HN := Lib.hid hN
  have H1 := Lib.hid h1
  have H2 := Lib.hid h2
  clear hN hN2 h1 h2
  go_enter Tryd.func22, Tryd.ntmps22
  go_wp2_with fail
  go_loopw [13] (fun c wr => ∃ (k : Nat), k ≤ N ∧ c = .int .i64 k ∧ ∃ n, wr = w.drewN n) (fun c _ => N - (intOf c).toNat)
  case atStart => exact ⟨0, Nat.zero_le _, rfl, 0, rfl⟩
  case round =>
    obtain ⟨k, hk, rfl, n, rfl⟩ := hrel
    by_cases hlt : k < N
    · obtain ⟨a1, rfl, -, r1⟩ := H1.out (by omega)
      obtain ⟨a2, rfl, -, r2⟩ := H2.out (by omega)
      have q1 := r1 k hlt
      have q2 := r2 k hlt
      generalize l.getD k 0 = z at q1 q2
      have hlt2 : (k : Int) < N := by omega
      clear r1 r2
      go_wp2_with fail
      go_quiet (fail)
      go_wp2_with fail
      go_roundw
      case rel => exact ⟨k + 1, by omega, by go_num, _, rfl⟩
      case measure => simp [intOf]; omega
    · have hkn : k = N := by omega
      have hlt2 : ¬ (k : Int) < N := by omega
      clear hkn
      go_wp2_with fail
      go_ret
      exact ⟨rfl, n, rfl⟩

end Go.Proofs.YtbgficaboolgiaaDoor

/-
  Contract of txn.Diff.
  Contract of txn.Diff.
  Contract of the reference's Diff.
-/
import Derived.Test.YtbjcbndmafddoaaGreatDoorTxB
import Derived.RangeFuncBox
namespace Go.Proofs.YtbjcbndmafddoaaGreatDoor
section
open Go.RowKit
set_option linter.unusedVariables false
set_option linter.unusedSimpArgs false

/-- A name is added, if it is not there. -/
def addU (out : List ByteArray) (s : ByteArray) : List ByteArray := if Lib.containsS out s = true then out else out ++ [s]
def dif1 (ns : List ByteArray) (zs : List Int) (ms : List ByteArray) (ys : List Int) (out : List ByteArray) (s : ByteArray) : List ByteArray := if getT ns zs s ≠ getT ms ys s then addU out s else out
def dif2 (ns : List ByteArray) (out : List ByteArray) (s : ByteArray) : List ByteArray := if Lib.containsS ns s = true then out else addU out s
def difT (ns : List ByteArray) (zs : List Int) (ms : List ByteArray) (ys : List Int) : List ByteArray := ms.foldl (dif2 ns) (ns.foldl (dif1 ns zs ms ys) [])
theorem addU_len (out : List ByteArray) (s : ByteArray) : (addU out s).length ≤ out.length + 1 := by unfold addU; split <;> simp
theorem fold_snoc {α β : Type} (f : β → α → β) (b : β) (l : List α) (k : Nat) (d : α) (h : k < l.length) : (l.take (k + 1)).foldl f b = f ((l.take k).foldl f b) (l.getD k d) := by
  rw [take_snocD l k d h, List.foldl_append]; rfl
theorem dif1_len (ns : List ByteArray) (zs : List Int) (ms : List ByteArray) (ys : List Int) (out : List ByteArray) (s : ByteArray) : (dif1 ns zs ms ys out s).length ≤ out.length + 1 := by
  unfold dif1; split
  · exact addU_len _ _
  · omega
theorem dif2_len (ns : List ByteArray) (out : List ByteArray) (s : ByteArray) : (dif2 ns out s).length ≤ out.length + 1 := by
  unfold dif2; split
  · omega
  · exact addU_len _ _
theorem fold_len {f : List ByteArray → ByteArray → List ByteArray} (hf : ∀ o s, (f o s).length ≤ o.length + 1) : ∀ (l : List ByteArray) (o : List ByteArray), (l.foldl f o).length ≤ o.length + l.length
  | [], o => by simp
  | s :: l, o => by
    rw [List.foldl_cons]
    have h1 := fold_len hf l (f o s)
    have h2 := hf o s
    simp only [List.length_cons]; omega

theorem setCell_kept {w : World} {g base : Nat} {e : TypeId} {size : Nat} {v u : Value} {n : Nat} {xs : List Value} (h : w.ownsRow base e size v n xs) (hg : g < base) : (w.setCell ⟨g, 0, none⟩ u).ownsRow base e size v n xs :=
  h.kept (grownBy_setCell' w g u) (.inr fun e => by have := own_block h g e; omega)

/-- What the closure leaves behind. -/
def ADD (w : World) (g base : Nat) (out : List ByteArray) (e : Ending) (w' : World) : Prop :=
  e = .returned (.tuple #[]) ∧ ∃ v, Box w' g #[v] 22 ∧ w'.ownsRow base 9 1 v out.length (scells out) ∧ Below g w w'

set_option maxRecDepth 100000 in
set_option maxHeartbeats 8000000 in
theorem txnDiffAdd (w : World) (g base : Nat) (v0 : Value) (out : List ByteArray) (s : ByteArray) (hx : Box w g #[v0] 22) (hown : w.ownsRow base 9 1 v0 out.length (scells out)) (hg : g < base) (hb : base ≤ w.heap.size) (hl : out.length ≤ 1000000) :
    Calls Tryz.prog 35 #[.string s, .pointer (some ⟨g, 0, none⟩)] w (ADD w g base (addU out s)) := by
  obtain ⟨i0, hi, hz0, hz1, hz2⟩ := info_parts istr
  have HI := Lib.hid hi
  have HZ0 := Lib.hid hz0
  have HZ1 := Lib.hid hz1
  have HZ2 := Lib.hid hz2
  have HSL := Lib.hid (SL.of_own hown)
  have CC := Lib.hid (fun W h => slContains W v0 out s h (by omega))
  have HA : Hid (addU out s = if Lib.containsS out s = true then out else out ++ [s]) := Lib.hid rfl
  have HOWN := Lib.hid hown
  have XA := Lib.hid hx
  generalize addU out s = r at *
  generalize Lib.containsS out s = c at *
  clear hi hz0 hz1 hz2 hown hx
  cases c
  · have HR : Hid (r = out ++ [s]) := Lib.hid (by rw [HA.out]; rfl)
    obtain ⟨n, hn⟩ : ∃ n, n = out.length := ⟨_, rfl⟩
    have HN := Lib.hid hn
    rw [← hn] at HOWN hl
    clear HA hn
    go_enter Tryz.func35, Tryz.ntmps35
    have XA_0 := XA.out.at_ 0 _ rfl
    have XA_l := XA.out.lt
    have XA_z0 := XA.out.frozen 0
    go_wp2_with fail
    refine (CC.out _ HSL.out).mono ?_; rintro e w' ⟨rfl, rfl⟩
    go_wp2_with (at_builtin; refine wpList_append_own _ rfl _ _ 22 rfl base 9 i0 (.string ⟨#[]⟩) 1 16 Tryz.underlying22 HI.out HZ0.out HZ1.out HZ2.out rfl (by decide) v0 n (scells out) rfl (HOWN.out.alloc _) ⟨w.heap.size, 0, none⟩ 1 1 [.string s] rfl rfl ?c1 ?c2 ?c3 ?c4 ?c5 ?_)
    case c1 =>
      intro j u hj
      rw [add_none, Nat.zero_add]
      have := heap_alloc_new w (.cells #[.string s] 9)
      rw [cell_of_row _ _ _ #[.string s] 9 (0, 0) this]
      simpa using hj
    case c2 => intro u hu; simp at hu; subst hu; rfl
    case c3 => unfold maxLen; omega
    case c4 => omega
    case c5 => simp; omega
    intro v' w5 hown5 hgrow _
    have HOWN5 : Hid (w5.ownsRow base 9 1 v' r.length (scells r)) := Lib.hid (by
      have e1 : r.length = n + 1 := by rw [HR.out, HN.out]; simp
      have e2 : scells r = scells out ++ [.string s] := by rw [HR.out]; simp [scells]
      rw [e1, e2]; exact hown5)
    have X5 := Lib.hid (XA.out.grownO HOWN.out hg hgrow)
    have HB5 : Hid (Below g w w5) := Lib.hid (((Below.refl g w).alloc (Nat.le_of_lt XA.out.lt) _).grown hgrow (Nat.le_trans (Nat.le_of_lt XA.out.lt) (by simp)) (fun q hq => by have := own_block HOWN.out q hq; omega))
    clear XA_0 XA_l XA_z0
    have y0 := X5.out.at_ 0 _ rfl
    have y1 := X5.out.frozen 0
    obtain ⟨A5, c5, rfl, _, _⟩ := SL.of_own HOWN5.out
    clear hown5 hgrow
    go_wp2_with fail
    go_end0
    refine ⟨rfl, _, X5.out.set_ 0 _, setCell_kept HOWN5.out hg, HB5.out.setCell (p := ⟨g, 0, none⟩) (Nat.le_refl _) _⟩
  · have HR : Hid (r = out) := Lib.hid (by rw [HA.out]; rfl)
    clear HA
    go_enter Tryz.func35, Tryz.ntmps35
    have XA_0 := XA.out.at_ 0 _ rfl
    go_wp2_with fail
    refine (CC.out _ HSL.out).mono ?_; rintro e w' ⟨rfl, rfl⟩
    go_wp2_with fail
    go_end0
    refine ⟨rfl, v0, XA.out, by rw [HR.out]; exact HOWN.out, Below.refl _ _⟩
end

section
open Go.RowKit
set_option linter.unusedVariables false
set_option linter.unusedSimpArgs false

theorem Box.belowB {w w' : World} {g B : Nat} {cs : Array Value} {t : TypeId} (h : Box w g cs t) (hb : Below B w w') (hlt : g < B) : Box w' g cs t := (hb.block g hlt).trans h
theorem get_ways (p q : Int × Bool) : p = q ∨ (p ≠ q ∧ ((p.2 = true ∧ q.2 = false) ∨ (p.2 = false ∧ q.2 = true) ∨ (p.2 = q.2 ∧ (p.1 != q.1) = true))) := by
  obtain ⟨a, b⟩ := p; obtain ⟨c, d⟩ := q
  by_cases e : b = d
  · by_cases e2 : a = c
    · left; rw [e, e2]
    · right; exact ⟨fun h => e2 (Prod.mk.inj h).1, .inr (.inr ⟨e, by simpa using e2⟩)⟩
  · right; refine ⟨fun h => e (Prod.mk.inj h).2, ?_⟩
    cases b <;> cases d <;> simp at e ⊢

set_option maxRecDepth 100000 in
set_option maxHeartbeats 8000000 in
theorem txnDiff (w : World) (v1 v2 v3 v4 : Value) (ns : List ByteArray) (zs : List Int) (ms : List ByteArray) (ys : List Int) (h1 : SL w v1 ns) (h2 : IL w v2 zs) (h3 : SL w v3 ms) (h4 : IL w v4 ys)
    (n1 : ns.length ≤ 300000) (n2 : zs.length ≤ 9223372036854775807) (n3 : ms.length ≤ 300000) (n4 : ys.length ≤ 9223372036854775807) :
    Calls Tryz.prog 15 #[.agg #[v1, v2], .agg #[v3, v4]] w fun e w' => ∃ v, e = .returned v ∧ (SL w' v (difT ns zs ms ys) ∧ Below w.heap.size w w') := by
  have HQ1 := Lib.hid h1
  have HQ2 := Lib.hid h2
  have HQ3 := Lib.hid h3
  have HQ4 := Lib.hid h4
  obtain ⟨A1, c1, rfl, _, hs1⟩ := h1
  obtain ⟨A3, c3, rfl, _, hs3⟩ := h3
  have HS1 := Lib.hid hs1
  have HS3 := Lib.hid hs3
  have CG1 := Lib.hid (fun W s h h' => txnGet W (.slice A1 ns.length c1) v2 ns zs s h h' (by omega) n2)
  have CG2 := Lib.hid (fun W s h h' => txnGet W (.slice A3 ms.length c3) v4 ms ys s h h' (by omega) n4)
  have CC := Lib.hid (fun W s h => slContains W (.slice A1 ns.length c1) ns s h (by omega))
  have HFL1 := Lib.hid (fun k => fold_len (dif1_len ns zs ms ys) (ns.take k) [])
  have HFL2 := Lib.hid (fun k => fold_len (dif2_len ns) (ms.take k) (ns.foldl (dif1 ns zs ms ys) []))
  have HSN1 := Lib.hid (fun k h => fold_snoc (dif1 ns zs ms ys) [] ns k ⟨#[]⟩ h)
  have HSN2 := Lib.hid (fun k h => fold_snoc (dif2 ns) (ns.foldl (dif1 ns zs ms ys) []) ms k ⟨#[]⟩ h)
  have HD1 : Hid (∀ o s, dif1 ns zs ms ys o s = if getT ns zs s ≠ getT ms ys s then addU o s else o) := Lib.hid fun o s => rfl
  have HD2 : Hid (∀ o s, dif2 ns o s = if Lib.containsS ns s = true then o else addU o s) := Lib.hid fun o s => rfl
  have HT : Hid (difT ns zs ms ys = ms.foldl (dif2 ns) (ns.foldl (dif1 ns zs ms ys) [])) := Lib.hid rfl
  generalize difT ns zs ms ys = r at *
  generalize dif1 ns zs ms ys = F1 at *
  generalize dif2 ns = F2 at *
  obtain ⟨N, hN⟩ : ∃ N, N = ns.length := ⟨_, rfl⟩
  obtain ⟨M, hM⟩ : ∃ M, M = ms.length := ⟨_, rfl⟩
  have KN := Lib.hid hN
  have KM := Lib.hid hM
  rw [← hN] at n1 HS1 HQ1 CG1 CC ⊢
  rw [← hM] at n3 HS3 HQ3 CG2 ⊢
  clear hs1 hs3 hN hM h2 h4
  have hmf : ∀ (fn : Fn) (first cap : Array Value) (w : World), (Instr.makeFunc fn first cap).run Tryz.prog w = .ok (.func fn first cap) w := fun _ _ _ _ => rfl
  go_enter Tryz.func15, Tryz.ntmps15
  go_wp2_with fail
  clear hmf
  have XA := Lib.hid (((box_new (W := w) (g := w.heap.size) 25 #[.slice A1 N c1, v2] (by simp)).below (below_alloc _ (.cells #[.slice A3 M c3, v4] 25))).below (below_alloc _ (.cells #[.slice none 0 0] 22)))
  have XB := Lib.hid ((box_new (W := (w.alloc (.cells #[.slice A1 N c1, v2] 25))) (g := w.heap.size + 1) 25 #[.slice A3 M c3, v4] (by simp)).below (below_alloc _ (.cells #[.slice none 0 0] 22)))
  have XO := Lib.hid (box_new (W := ((w.alloc (.cells #[.slice A1 N c1, v2] 25)).alloc (.cells #[.slice A3 M c3, v4] 25))) (g := w.heap.size + 1 + 1) 22 #[.slice none 0 0] (by simp))
  have HB := Lib.hid (below_step (below_step (below_alloc w (.cells #[.slice A1 N c1, v2] 25)) (below_alloc (w.alloc (.cells #[.slice A1 N c1, v2] 25)) (.cells #[.slice A3 M c3, v4] 25))) (below_alloc ((w.alloc (.cells #[.slice A1 N c1, v2] 25)).alloc (.cells #[.slice A3 M c3, v4] 25)) (.cells #[.slice none 0 0] 22)))
  generalize ((w.alloc (.cells #[.slice A1 N c1, v2] 25)).alloc (.cells #[.slice A3 M c3, v4] 25)).alloc (.cells #[.slice none 0 0] 22) = w1 at *
  go_loopw [19] (fun i wr => ∃ (k : Nat) (v0 : Value), k ≤ N ∧ i = .int .i64 k ∧ Box wr w.heap.size #[.slice A1 N c1, v2] 25 ∧ Box wr (w.heap.size + 1) #[.slice A3 M c3, v4] 25 ∧ Box wr (w.heap.size + 1 + 1) #[v0] 22 ∧ wr.ownsRow (w.heap.size + 1 + 1 + 1) 9 1 v0 ((ns.take k).foldl F1 []).length (scells ((ns.take k).foldl F1 [])) ∧ Below w.heap.size w wr) (fun i _ => N - (intOf i).toNat)
  case atStart => exact ⟨0, _, Nat.zero_le _, rfl, XA.out, XB.out, XO.out, World.ownsRow_nil _ _ _ _, HB.out⟩
  case round =>
    obtain ⟨k, v0, hk, rfl, hxa, hxb, hxo, hown, hb⟩ := hrel
    clear XA XB XO HB
    have XA := Lib.hid hxa
    have XB := Lib.hid hxb
    have XO := Lib.hid hxo
    have HOWN := Lib.hid hown
    have HB := Lib.hid hb
    clear hxa hxb hxo hown hb
    by_cases hlt : k < N
    · have hlt2 : (k : Int) < N := by omega
      have hkn : k < ns.length := by rw [← KN.out]; exact hlt
      obtain ⟨a1, rfl, hr1⟩ := HS1.out (by omega)
      have q1 := (hr1.below HB.out).cells k hkn
      have hsn := HSN1.out k hkn
      have hd := HD1.out ((ns.take k).foldl F1 []) (ns.getD k ⟨#[]⟩)
      have hfl := HFL1.out k
      have D1 := Lib.hid (fun W => CG1.out W (ns.getD k ⟨#[]⟩))
      have D2 := Lib.hid (fun W => CG2.out W (ns.getD k ⟨#[]⟩))
      have hway := get_ways (getT ns zs (ns.getD k ⟨#[]⟩)) (getT ms ys (ns.getD k ⟨#[]⟩))
      rw [hd] at hsn
      have HSN := Lib.hid hsn
      have hl1 : ((ns.take k).foldl F1 []).length ≤ 300000 := by
        have : (ns.take k).length ≤ k := List.length_take_le _ _
        simp only [List.length_nil, Nat.zero_add] at hfl
        omega
      generalize getT ns zs (ns.getD k ⟨#[]⟩) = p at *
      generalize getT ms ys (ns.getD k ⟨#[]⟩) = q at *
      generalize (ns.take k).foldl F1 [] = o at *
      generalize ns.getD k ⟨#[]⟩ = s at *
      clear hsn hd hfl hkn hr1
      obtain ⟨pv, pb⟩ := p
      obtain ⟨qv, qb⟩ := q
      simp only [ret2b] at D1 D2 hway
      rcases hway with he | ⟨hne, hway⟩
      · obtain ⟨rfl, rfl⟩ := Prod.mk.inj he
        have HSN2 : Hid ((ns.take (k + 1)).foldl F1 [] = o) := Lib.hid (by rw [HSN.out, if_neg (by simp)])
        have f1 : (pb != pb) = false := by simp
        have f2 : (pv != pv) = false := by simp
        clear he HSN
        have XA_0 := XA.out.at_ 0 _ rfl
        have XA_1 := XA.out.at_ 1 _ rfl
        go_wp2_with fail
        clear XA_0 XA_1
        clear q1
        replace HOWN := Lib.hid HOWN.out
        refine (D1.out _ (HQ1.out.below HB.out) (HQ2.out.below HB.out)).mono ?_; rintro e w2 ⟨rfl, hb⟩
        replace HOWN := Lib.hid (own_below HOWN.out hb)
        replace XA := Lib.hid (XA.out.below hb)
        replace XB := Lib.hid (XB.out.below hb)
        replace XO := Lib.hid (XO.out.below hb)
        replace HB := Lib.hid (below_step HB.out hb)
        clear hb
        have XB_0 := XB.out.at_ 0 _ rfl
        have XB_1 := XB.out.at_ 1 _ rfl
        go_wp2_with fail
        refine (D2.out _ (HQ3.out.below HB.out) (HQ4.out.below HB.out)).mono ?_; rintro e w3 ⟨rfl, hb⟩
        clear XB_0 XB_1
        replace HOWN := Lib.hid (own_below HOWN.out hb)
        replace XA := Lib.hid (XA.out.below hb)
        replace XB := Lib.hid (XB.out.below hb)
        replace XO := Lib.hid (XO.out.below hb)
        replace HB := Lib.hid (below_step HB.out hb)
        clear hb
        go_wp2_with fail
        go_roundw
        case rel => exact ⟨k + 1, v0, by omega, by go_num, XA.out, XB.out, XO.out, by rw [HSN2.out]; exact HOWN.out, HB.out⟩
        case measure => simp [intOf]; omega
      · have HSN2 : Hid ((ns.take (k + 1)).foldl F1 [] = addU o s) := Lib.hid (by rw [HSN.out, if_pos hne])
        have CA : Hid (∀ W v, Box W (w.heap.size + 1 + 1) #[v] 22 → W.ownsRow (w.heap.size + 1 + 1 + 1) 9 1 v o.length (scells o) → Calls Tryz.prog 35 #[.string s, .pointer (some ⟨w.heap.size + 1 + 1, 0, none⟩)] W (ADD W (w.heap.size + 1 + 1) (w.heap.size + 1 + 1 + 1) (addU o s))) := Lib.hid fun W v hx ho => txnDiffAdd W _ _ v o s hx ho (by omega) hx.lt (by omega)
        unfold ADD at CA
        generalize addU o s = o2 at *
        clear hne HSN
        rcases hway with ⟨rfl, rfl⟩ | ⟨rfl, rfl⟩ | ⟨rfl, f2⟩
        all_goals
          try have f3 : (pb != pb) = false := by simp
          have XA_0 := XA.out.at_ 0 _ rfl
          have XA_1 := XA.out.at_ 1 _ rfl
          go_wp2_with fail
          clear XA_0 XA_1
          clear q1
          refine (D1.out _ (HQ1.out.below HB.out) (HQ2.out.below HB.out)).mono ?_; rintro e w2 ⟨rfl, hb⟩
          replace HOWN := Lib.hid (own_below HOWN.out hb)
          replace XA := Lib.hid (XA.out.below hb)
          replace XB := Lib.hid (XB.out.below hb)
          replace XO := Lib.hid (XO.out.below hb)
          replace HB := Lib.hid (below_step HB.out hb)
          clear hb
          have XB_0 := XB.out.at_ 0 _ rfl
          have XB_1 := XB.out.at_ 1 _ rfl
          go_wp2_with fail
          refine (D2.out _ (HQ3.out.below HB.out) (HQ4.out.below HB.out)).mono ?_; rintro e w3 ⟨rfl, hb⟩
          clear XB_0 XB_1
          replace HOWN := Lib.hid (own_below HOWN.out hb)
          replace XA := Lib.hid (XA.out.below hb)
          replace XB := Lib.hid (XB.out.below hb)
          replace XO := Lib.hid (XO.out.below hb)
          replace HB := Lib.hid (below_step HB.out hb)
          clear hb
          go_wp2_with fail
          refine (CA.out _ _ XO.out HOWN.out).mono ?_; rintro e w4 ⟨rfl, v5, hx5, ho5, hb⟩
          have HX5 := Lib.hid hx5
          have HO5 := Lib.hid ho5
          replace XA := Lib.hid (XA.out.belowB hb (by omega))
          replace XB := Lib.hid (XB.out.belowB hb (by omega))
          replace HB := Lib.hid (HB.out.trans (hb.mono (by omega)))
          clear hx5 ho5 hb
          go_wp2_with fail
          go_roundw
          case rel => exact ⟨k + 1, v5, by omega, by go_num, XA.out, XB.out, HX5.out, by rw [HSN2.out]; exact HO5.out, HB.out⟩
          case measure => simp [intOf]; omega
    · have hlt2 : ¬ (k : Int) < N := by omega
      have htk : ns.take k = ns := List.take_of_length_le (by rw [← KN.out]; omega)
      rw [htk] at HOWN
      have hfl0 := HFL1.out k
      rw [htk] at hfl0
      simp only [List.length_nil, Nat.zero_add] at hfl0
      rw [← KN.out] at hfl0
      generalize ns.foldl F1 [] = o0 at *
      clear htk
      have XB_0 := XB.out.at_ 0 _ rfl
      have XB_1 := XB.out.at_ 1 _ rfl
      go_wp2_with fail
      clear XB_0 XB_1
      obtain ⟨wo, hwo⟩ : ∃ wo : World, wo = wr := ⟨_, rfl⟩
      subst hwo
      go_loopw [50] (fun i wr => ∃ (k : Nat) (v0 : Value), k ≤ M ∧ i = .int .i64 k ∧ Box wr w.heap.size #[.slice A1 N c1, v2] 25 ∧ Box wr (w.heap.size + 1 + 1) #[v0] 22 ∧ wr.ownsRow (w.heap.size + 1 + 1 + 1) 9 1 v0 ((ms.take k).foldl F2 o0).length (scells ((ms.take k).foldl F2 o0)) ∧ Below w.heap.size w wr) (fun i _ => M - (intOf i).toNat)
      case atStart => exact ⟨0, _, Nat.zero_le _, rfl, XA.out, XO.out, HOWN.out, HB.out⟩
      case round =>
        clear XA XB XO HB HOWN
        obtain ⟨j, vj, hj, rfl, hxa, hxo, hown, hb⟩ := hrel
        have XA := Lib.hid hxa
        have XO := Lib.hid hxo
        have HOWN := Lib.hid hown
        have HB := Lib.hid hb
        clear hxa hxo hown hb
        by_cases hlj : j < M
        · have hlj2 : (j : Int) < M := by omega
          have hkm : j < ms.length := by rw [← KM.out]; exact hlj
          obtain ⟨a3, rfl, hr3⟩ := HS3.out (by omega)
          have q1 := (hr3.below HB.out).cells j hkm
          have hsn := HSN2.out j hkm
          have hd := HD2.out ((ms.take j).foldl F2 o0) (ms.getD j ⟨#[]⟩)
          have hfl := HFL2.out j
          have D1 := Lib.hid (fun W h => CC.out W (ms.getD j ⟨#[]⟩) h)
          rw [hd] at hsn
          have HSN := Lib.hid hsn
          have hl1 : ((ms.take j).foldl F2 o0).length ≤ 600000 := by
            have : (ms.take j).length ≤ j := List.length_take_le _ _
            omega
          generalize Lib.containsS ns (ms.getD j ⟨#[]⟩) = cb at *
          generalize (ms.take j).foldl F2 o0 = o at *
          generalize ms.getD j ⟨#[]⟩ = s at *
          clear hsn hd hfl hkm hr3
          cases cb
          · have HSN2 : Hid ((ms.take (j + 1)).foldl F2 o0 = addU o s) := Lib.hid (by rw [HSN.out, if_neg (by decide)])
            have CA : Hid (∀ W v, Box W (w.heap.size + 1 + 1) #[v] 22 → W.ownsRow (w.heap.size + 1 + 1 + 1) 9 1 v o.length (scells o) → Calls Tryz.prog 35 #[.string s, .pointer (some ⟨w.heap.size + 1 + 1, 0, none⟩)] W (ADD W (w.heap.size + 1 + 1) (w.heap.size + 1 + 1 + 1) (addU o s))) := Lib.hid fun W v hx ho => txnDiffAdd W _ _ v o s hx ho (by omega) hx.lt (by omega)
            unfold ADD at CA
            generalize addU o s = o2 at *
            clear HSN
            have XA_0 := XA.out.at_ 0 _ rfl
            have XA_1 := XA.out.at_ 1 _ rfl
            go_wp2_with fail
            clear XA_0 XA_1
            clear q1
            refine (D1.out _ (HQ1.out.below HB.out)).mono ?_; rintro e w' ⟨rfl, rfl⟩
            go_wp2_with fail
            refine (CA.out _ _ XO.out HOWN.out).mono ?_; rintro e w4 ⟨rfl, v5, hx5, ho5, hb⟩
            have HX5 := Lib.hid hx5
            have HO5 := Lib.hid ho5
            replace XA := Lib.hid (XA.out.belowB hb (by omega))
            replace HB := Lib.hid (HB.out.trans (hb.mono (by omega)))
            clear hx5 ho5 hb
            go_wp2_with fail
            go_roundw
            case rel => exact ⟨j + 1, v5, by omega, by go_num, XA.out, HX5.out, by rw [HSN2.out]; exact HO5.out, HB.out⟩
            case measure => simp [intOf]; omega
          · have HSN2 : Hid ((ms.take (j + 1)).foldl F2 o0 = o) := Lib.hid (by rw [HSN.out, if_pos rfl])
            clear HSN
            have XA_0 := XA.out.at_ 0 _ rfl
            have XA_1 := XA.out.at_ 1 _ rfl
            go_wp2_with fail
            clear XA_0 XA_1
            clear q1
            refine (D1.out _ (HQ1.out.below HB.out)).mono ?_; rintro e w' ⟨rfl, rfl⟩
            go_wp2_with fail
            go_roundw
            case rel => exact ⟨j + 1, vj, by omega, by go_num, XA.out, XO.out, by rw [HSN2.out]; exact HOWN.out, HB.out⟩
            case measure => simp [intOf]; omega
        · have hlj2 : ¬ (j : Int) < M := by omega
          have HSR : Hid (SL wr vj r) := Lib.hid (by
            have := HOWN.out
            rw [List.take_of_length_le (by rw [← KM.out]; omega), ← HT.out] at this
            exact SL.of_own this)
          clear HOWN
          have XO_0 := XO.out.at_ 0 _ rfl
          go_wp2_with fail
          go_ret
          exact ⟨_, rfl, HSR.out, HB.out⟩
end

section
open Go.RowKit
set_option linter.unusedVariables false
set_option linter.unusedSimpArgs false

theorem contains_idx (l : List ByteArray) (s : ByteArray) : Lib.containsS l s = decide (0 ≤ Lib.idxOfS l s) := rfl
theorem news1 {w : World} {t : TypeId} {x : Value} : ∀ j u, ([x] : List Value)[j]? = some u → (w.alloc (.cells #[x] t)).cell? ((⟨w.heap.size, 0, none⟩ : Addr).add j) = some u := by
  intro j u hj
  rw [add_none, Nat.zero_add]
  have := heap_alloc_new w (.cells #[x] t)
  rw [cell_of_row _ _ _ #[x] t (0, 0) this]
  simpa using hj
theorem scells_snoc (o : List ByteArray) (s : ByteArray) : scells (o ++ [s]) = scells o ++ [.string s] := by simp [scells]

theorem get_ways2 (p q : Int × Bool) : p = q ∨ (p ≠ q ∧ ((p.1 != q.1) = true ∨ (p.1 = q.1 ∧ p.2 = true ∧ q.2 = false) ∨ (p.1 = q.1 ∧ p.2 = false ∧ q.2 = true))) := by
  obtain ⟨a, b⟩ := p; obtain ⟨c, d⟩ := q
  by_cases e : a = c
  · by_cases e2 : b = d
    · left; rw [e, e2]
    · right; refine ⟨fun h => e2 (Prod.mk.inj h).2, .inr ?_⟩
      cases b <;> cases d <;> simp at e2 ⊢ <;> exact e
  · right; exact ⟨fun h => e (Prod.mk.inj h).1, .inl (by simpa using e)⟩
end
end Go.Proofs.YtbjcbndmafddoaaGreatDoor

/-
  Contract of wave.copied: rows in new memory.
-/
import Derived.Test.YthpioaboekpjoaaDoorWavM
import Derived.Laws.MakeOwn
import Derived.Laws.CopyOwn
namespace Go.Proofs.YthpioaboekpjoaaDoor
open Go.RowKit
set_option linter.unusedVariables false
set_option linter.unusedSimpArgs false

theorem iint2 : (Tryd.prog.info? 3).map (fun i => (i.zero, i.size, i.bytes)) = some (some (.int .i64 0), 1, 8) := by kernel_rfl
theorem run_makeInts2 (n c : Nat) (hnc : n ≤ c) (hc : c * 8 ≤ 281474976710656) (W : World) : (Instr.makeSlice 44 (.int .i64 (n : Int)) (.int .i64 (c : Int))).run Tryd.prog W = .ok (.slice (some ⟨W.heap.size, 0, none⟩) n c) (W.alloc (.cells (icells (List.replicate c 0)).toArray 3)) := by
  obtain ⟨i0, hi, hz0, hz1, hz2⟩ := info_parts iint2
  have h := run_make (P := Tryd.prog) W 44 3 i0 (.int .i64 0) Tryd.underlying44 hi hz0 .i64 .i64 n c (by omega) (by omega) (by rw [hz2]; omega) (by omega)
  have e : madeCells (Value.int .i64 0).cells (c * 1) = (icells (List.replicate c 0)).toArray := by
    apply Array.ext
    · simp [madeCells, icells]
    · intro i h1 h2
      simp [madeCells, icells, Value.cells, Nat.mod_one]
  rw [hz1, Int.toNat_natCast, Int.toNat_natCast, e] at h
  exact h
theorem splice_all {α : Type} (l m : List α) (h : l.length = m.length) : splice l 0 m = m := by
  unfold splice
  rw [Nat.zero_add, List.drop_of_length_le (by omega)]; simp
theorem IL.src {w : World} {v : Value} {l : List Int} (h : IL w v l) : ∃ A c, v = .slice A l.length c ∧ (0 < (icells l).length → ∃ ad, A = some ad ∧ ∀ j u, (icells l)[j]? = some u → w.cell? (ad.add j) = some u) := by
  obtain ⟨A, c, rfl, _, h⟩ := h
  refine ⟨A, c, rfl, fun hl => ?_⟩
  obtain ⟨a, rfl, _, hr⟩ := h (by simpa [icells] using hl)
  refine ⟨a, rfl, fun j u hu => ?_⟩
  have hj : j < l.length := by have := (List.getElem?_eq_some_iff.1 hu).1; simpa [icells] using this
  rw [hr j hj, ← hu, icells, List.getElem?_map, List.getD_eq_getElem?_getD, List.getElem?_eq_getElem hj]; rfl
theorem icells_one (l : List Int) : ∀ u ∈ icells l, u.oneCell' = true := fun u hu => by
  unfold icells at hu
  obtain ⟨s, _, rfl⟩ := List.mem_map.1 hu
  rfl
theorem scells_lenW (l : List ByteArray) : (scells l).length = l.length := by simp [scells]
theorem icells_len (l : List Int) : (icells l).length = l.length := by simp [icells]
theorem run_makeRows (n : Nat) (hc : n * 24 ≤ 281474976710656) (W : World) : (Instr.makeSlice 24 (.int .i64 (n : Int)) (.int .i64 (n : Int))).run Tryd.prog W = .ok (.slice (some ⟨W.heap.size, 0, none⟩) n n) (W.alloc (.cells (List.replicate n (Value.slice none 0 0)).toArray 44)) := by
  obtain ⟨i0, hi, hz0, hz1, hz2⟩ := info_parts ilist
  have h := run_make (P := Tryd.prog) W 24 44 i0 (.slice none 0 0) Tryd.underlying24 hi hz0 .i64 .i64 n n (by omega) (by omega) (by rw [hz2]; omega) (by omega)
  have e : madeCells (Value.slice none 0 0).cells (n * 1) = (List.replicate n (Value.slice none 0 0)).toArray := by
    apply Array.ext
    · simp [madeCells]
    · intro i h1 h2
      simp [madeCells, Value.cells, Nat.mod_one]
  rw [hz1, Int.toNat_natCast, e] at h
  exact h
/-- Rows in new memory, the first n of them filled. -/
structure ROWS (B : Nat) (w : World) (g : Nat) (rs : List (List Int)) (us : List Value) (n : Nat) : Prop where
  len : us.length = rs.length
  box : Box w g us.toArray 44
  low : B ≤ g
  row : ∀ j, j < n → j < rs.length → ∃ gj, us[j]? = some (.slice (some ⟨gj, 0, none⟩) (rs.getD j []).length (rs.getD j []).length) ∧ Box w gj (icells (rs.getD j [])).toArray 3 ∧ B ≤ gj
theorem ROWS.below {B : Nat} {w w' : World} {g : Nat} {rs : List (List Int)} {us : List Value} {n : Nat} (h : ROWS B w g rs us n) (hb : Below w.heap.size w w') : ROWS B w' g rs us n :=
  ⟨h.len, h.box.below hb, h.low, fun j a b => by
    obtain ⟨gj, e, hx, hB⟩ := h.row j a b
    exact ⟨gj, e, hx.below hb, hB⟩⟩
theorem ROWS.step {B : Nat} {w wm w9 w10 : World} {g : Nat} {rs : List (List Int)} {us : List Value} {n L : Nat} {cs : Array Value} (h : ROWS B w g rs us n) (hn : n < rs.length) (hL : L = (rs.getD n []).length) (hB : B ≤ w.heap.size)
    (hwm : wm = w.alloc (.cells cs 3)) (hw9 : w9 = wm.setCell ⟨g, n, none⟩ (.slice (some ⟨w.heap.size, 0, none⟩) L L)) (hg : w9.grownBy w10 (some w.heap.size)) (hx : Box w10 w.heap.size (icells (rs.getD n [])).toArray 3) :
    ROWS B w10 g rs (us.set n (.slice (some ⟨w.heap.size, 0, none⟩) L L)) (n + 1) := by
  have hgl := h.box.lt
  have hbm : Below w.heap.size w wm := by rw [hwm]; exact below_alloc _ _
  refine ⟨by rw [List.length_set]; exact h.len, ?_, h.low, fun j a b => ?_⟩
  · have h1 : Box w9 g (us.toArray.setIfInBounds n (.slice (some ⟨w.heap.size, 0, none⟩) L L)) 44 := by rw [hw9]; exact (h.box.below hbm).set_ n _
    rw [List.setIfInBounds_toArray] at h1
    exact box_grown h1 hg (by omega)
  · by_cases e : j = n
    · subst e
      exact ⟨w.heap.size, by rw [List.getElem?_set_self (by rw [h.len]; exact b), hL], hx, hB⟩
    · obtain ⟨gj, e1, hx1, hB1⟩ := h.row j (by omega) b
      refine ⟨gj, by rw [List.getElem?_set_ne (Ne.symm e)]; exact e1, ?_, hB1⟩
      have hgj := hx1.lt
      have hne : g ≠ gj := boxes_apart h.box hx1 (by decide)
      have h2 : Box w9 gj (icells (rs.getD j [])).toArray 3 := by rw [hw9]; exact (hx1.below hbm).setNe (p := ⟨g, n, none⟩) hne _
      exact box_grown h2 hg (by omega)
/-- New rows that read as a list of rows. -/
def NR (B : Nat) (w : World) (v : Value) (rs : List (List Int)) : Prop := Rs ilR w v rs (fun b => B ≤ b) ∧ ∀ b, v.ownBlock = some b → B ≤ b
theorem NR.below {B : Nat} {w w' : World} {v : Value} {rs : List (List Int)} (h : NR B w v rs) (hb : Below w.heap.size w w') : NR B w' v rs := ⟨h.1.below hb, h.2⟩
theorem NR.set {B : Nat} {w : World} {v : Value} {rs : List (List Int)} (h : NR B w v rs) {p : Addr} (hp : p.block < B) (u : Value) : NR B (w.setCell p u) v rs :=
  ⟨h.1.same (by simp [World.setCell]) (fun b hb => Below.heap_setCell w p u b (by have := h.2 b hb; omega)) (fun b _ hB => Below.heap_setCell w p u b (by omega)), h.2⟩
theorem NR.any {B : Nat} {w : World} {v : Value} {rs : List (List Int)} (h : NR B w v rs) : Rs ilR w v rs anyB := h.1.mono fun _ _ => trivial
theorem IL.boxed {w : World} {g : Nat} {T : TypeId} {r : List Int} (h : Box w g (icells r).toArray T) : IL w (.slice (some ⟨g, 0, none⟩) r.length r.length) r := by
  refine ⟨_, _, rfl, Nat.le_refl _, fun _ => ⟨_, rfl, h.lt, fun j hj => ?_⟩⟩
  rw [add_plain, Nat.zero_add, h.cell j, List.getElem?_toArray, icells, List.getElem?_map, List.getD_eq_getElem?_getD, List.getElem?_eq_getElem hj]; rfl
theorem ROWS.nr {B : Nat} {w : World} {g : Nat} {rs : List (List Int)} {us : List Value} (h : ROWS B w g rs us rs.length) : NR B w (.slice (some ⟨g, 0, none⟩) rs.length rs.length) rs := by
  refine ⟨⟨_, _, rfl, Nat.le_refl _, fun _ => ⟨g, 0, rfl, h.box.lt, fun j x hj => ?_⟩⟩, fun b hb => ?_⟩
  · have hjl : j < rs.length := (List.getElem?_eq_some_iff.1 hj).1
    obtain ⟨gj, e, hx, hB⟩ := h.row j hjl hjl
    have ex : rs.getD j [] = x := by rw [List.getD_eq_getElem?_getD, hj]; rfl
    rw [ex] at e hx
    refine ⟨[.slice (some ⟨gj, 0, none⟩) x.length x.length], fun i hi => ?_, _, rfl, IL.boxed hx, fun _ b hb => ?_⟩
    · have hi0 : i = 0 := by have : ilR.k = 1 := rfl; omega
      subst hi0
      have e2 : ilR.k = 1 := rfl
      rw [e2, Nat.mul_one, Nat.zero_add, Nat.add_zero, h.box.cell j, List.getElem?_toArray, e]; rfl
    · simp only [Value.ownBlock, Option.some.injEq] at hb
      omega
  · simp only [Value.ownBlock, Option.some.injEq] at hb
    have := h.low
    omega

set_option maxRecDepth 100000 in
set_option maxHeartbeats 8000000 in
theorem wavCopied (w : World) (v : Value) (rs : List (List Int)) (h : Rs ilR w v rs anyB) (hM : rs.length * 24 ≤ 281474976710656) (hL : ∀ r ∈ rs, r.length * 8 ≤ 281474976710656) :
    Calls Tryd.prog 57 #[v] w fun e w' => ∃ g, e = .returned (.slice (some ⟨g, 0, none⟩) rs.length rs.length) ∧ NR w.heap.size w' (.slice (some ⟨g, 0, none⟩) rs.length rs.length) rs ∧ Below w.heap.size w w' := by
  obtain ⟨A, c, rfl, hc⟩ := h.slice
  have HRA := Lib.hid (fun k hk => row_at h (k := k) hk)
  have HLZ : Hid (∀ k, k < rs.length → (rs.getD k []).length * 8 ≤ 281474976710656) := Lib.hid fun k hk => hL _ (getD_mem [] hk)
  obtain ⟨M, hMM⟩ : ∃ M, M = rs.length := ⟨_, rfl⟩
  have HMM := Lib.hid hMM
  have MK := Lib.hid (run_makeRows M (by omega))
  rw [← hMM] at hM hc ⊢
  clear h hL hMM
  go_enter Tryd.func57, Tryd.ntmps57
  have mk := MK.out w
  obtain ⟨w1, hw1⟩ : ∃ w1, w1 = w.alloc (.cells (List.replicate M (Value.slice none 0 0)).toArray 44) := ⟨_, rfl⟩
  rw [← hw1] at mk
  have HR0 : Hid (ROWS w.heap.size w1 w.heap.size rs (List.replicate M (Value.slice none 0 0)) 0) := Lib.hid (by
    rw [hw1]
    exact ⟨by rw [List.length_replicate, HMM.out], Box.new _ _ _, Nat.le_refl _, fun j hj => by omega⟩)
  have HB : Hid (Below w.heap.size w w1) := Lib.hid (by rw [hw1]; exact below_alloc _ _)
  clear hw1 MK
  go_wp2_with fail
  clear mk
  go_loopw [11] (fun i wr => ∃ (k : Nat) (us : List Value), k ≤ M ∧ i = .int .i64 k ∧ ROWS w.heap.size wr w.heap.size rs us k ∧ Below w.heap.size w wr) (fun i _ => M - (intOf i).toNat)
  case atStart => exact ⟨0, _, Nat.zero_le _, rfl, HR0.out, HB.out⟩
  case round =>
    clear HB HR0
    obtain ⟨k, us, hk, rfl, hro, hb⟩ := hrel
    have HRO := Lib.hid hro
    have HB := Lib.hid hb
    clear hro hb
    by_cases hlt : k < M
    · have hlt2 : (k : Int) < M := by omega
      have hk0 : (0 : Int) ≤ (k : Int) := by omega
      have hkn : k < rs.length := by rw [← HMM.out]; exact hlt
      obtain ⟨b, o, E, e1, rfl, QA, IA⟩ := HRA.out k hkn
      have hz := HLZ.out k hkn
      have q1 := QA _ HB.out
      have HIA := Lib.hid IA
      have HST := Lib.hid (fun L wm w9 w10 cs a1 a2 a3 a4 a5 => HRO.out.step (L := L) (wm := wm) (w9 := w9) (w10 := w10) (cs := cs) hkn a1 HB.out.size a2 a3 a4 a5)
      obtain ⟨L, hL⟩ : ∃ L, L = (rs.getD k []).length := ⟨_, rfl⟩
      have HL := Lib.hid hL
      rw [← hL] at hz q1 HIA
      have MK2 := Lib.hid (run_makeInts2 L L (Nat.le_refl _) hz)
      generalize rs.getD k [] = row at *
      obtain ⟨xk, hxk⟩ : ∃ x, us[k]? = some x := ⟨_, List.getElem?_eq_getElem (by rw [HRO.out.len]; exact hkn)⟩
      have XG := Lib.hid HRO.out.box
      obtain ⟨CI, hCI⟩ : ∃ CI, CI = icells (List.replicate L 0) := ⟨_, rfl⟩
      have LI : Hid (CI.length = L) := Lib.hid (by rw [hCI, icells_len]; simp)
      rw [← hCI] at MK2
      clear QA IA hkn hL hCI HRO
      obtain ⟨wm, hwm⟩ : ∃ wm, wm = wr.alloc (.cells CI.toArray 3) := ⟨_, rfl⟩
      have mk := MK2.out wr
      rw [← hwm] at mk
      have hbm : Below wr.heap.size wr wm := by rw [hwm]; exact below_alloc _ _
      have HXM : Hid (Box wm wr.heap.size CI.toArray 3) := Lib.hid (by rw [hwm]; exact Box.new _ _ _)
      have XGm := Lib.hid (XG.out.below hbm)
      have hgl : w.heap.size < wr.heap.size := XG.out.lt
      have c1 : wm.cell? ⟨w.heap.size, k, none⟩ = some xk := by rw [XGm.out.cell k, List.getElem?_toArray]; exact hxk
      have c2 : wm.frozen? ⟨w.heap.size, k, none⟩ = false := XGm.out.frozen k
      have c3 : w.heap.size < wm.heap.size := XGm.out.lt
      have HWM := Lib.hid hwm
      have HBM := Lib.hid (below_step HB.out hbm)
      clear hwm hbm MK2
      go_upto_region 6 with fail
      clear mk c1 c2 c3 q1
      obtain ⟨w9, hw9⟩ : ∃ w9, w9 = wm.setCell ⟨w.heap.size, k, none⟩ (.slice (some ⟨wr.heap.size, 0, none⟩) L L) := ⟨_, rfl⟩
      rw [← hw9]
      have HXM9 : Hid (Box w9 wr.heap.size CI.toArray 3) := Lib.hid (by rw [hw9]; exact HXM.out.setNe (p := ⟨w.heap.size, k, none⟩) (by show w.heap.size ≠ wr.heap.size; omega) _)
      have c4 : w9.cell? ⟨w.heap.size, k, none⟩ = some (.slice (some ⟨wr.heap.size, 0, none⟩) L L) := by
        rw [hw9, (XGm.out.set_ k _).cell k, List.setIfInBounds_toArray, List.getElem?_toArray, List.getElem?_set_self (by have := (List.getElem?_eq_some_iff.1 hxk).1; exact this)]
      have HB9 : Hid (Below w.heap.size w w9) := Lib.hid (by rw [hw9]; exact HBM.out.setCell (p := ⟨w.heap.size, k, none⟩) (Nat.le_refl _) _)
      have HW9 := Lib.hid hw9
      have S2 := Lib.hid ((HIA.out _ HB9.out).src)
      have S2' : Hid (0 < (icells row).length → ∃ ad, E = some ad ∧ ∀ j u, (icells row)[j]? = some u → w9.cell? (ad.add j) = some u) := Lib.hid (by
        obtain ⟨A', c', e', hh⟩ := S2.out
        simp only [Value.slice.injEq] at e'
        rw [e'.1]; exact hh)
      clear hw9 XGm HXM S2 XG
      go_wp2_with (refine wpList_copy_box rfl _ _ 44 44 rfl 3 Tryd.underlying44 (by kernel_rfl) (some ⟨wr.heap.size, 0, none⟩) E L L L e1 rfl rfl wr.heap.size 0 CI 3 HXM9.out (icells row) ?c1 ?c2 ?c3 (icells_one row) ?_)
      case c1 => rw [icells_len, HL.out]; exact (Nat.min_self _).symm
      case c2 => intro h; first | exact ⟨rfl, S2'.out h⟩ | exact S2'.out h
      case c3 => rw [icells_len, LI.out, HL.out]; omega
      intro w10 hY hg
      have HY : Hid (Box w10 wr.heap.size (icells row).toArray 3) := Lib.hid (by have := hY.out; rwa [splice_all _ _ (by rw [icells_len, LI.out, HL.out])] at this)
      have HRO2 := Lib.hid (HST.out L wm w9 w10 _ HL.out HWM.out HW9.out hg.out HY.out)
      have HB10 := Lib.hid (below_grownG HB9.out HB9.out.size (by omega) hg.out)
      clear hY hg HST HWM HW9 HB9 HXM9 c4 S2'
      go_wp2_with fail
      go_roundw
      case rel => exact ⟨k + 1, _, by omega, by go_num, HRO2.out, HB10.out⟩
      case measure => simp [intOf]; omega
    · have hlt2 : ¬ (k : Int) < M := by omega
      have hkM : k = M := by omega
      have HNR : Hid (NR w.heap.size wr (.slice (some ⟨w.heap.size, 0, none⟩) M M) rs) := Lib.hid (by have := HRO.out; rw [hkM, HMM.out] at this; have := this.nr; rwa [← HMM.out] at this)
      clear HRO hkM
      go_wp2_with fail
      go_ret
      exact ⟨_, rfl, HNR.out, HB.out⟩

end Go.Proofs.YthpioaboekpjoaaDoor

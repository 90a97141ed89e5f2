/-
  More fresh operations of a drawn region: values, variables, slices made or of one element that reads as told.
-/
import Derived.Test.YtbgficaboolgiaaGreatDoorGens
import Derived.Test.YtbgficaboolgiaaGreatDoorReads
import Derived.Laws.CopyOwn
namespace Go.Proofs.YtbgficaboolgiaaGreatDoor
open Go.RowKit
set_option linter.unusedVariables false
set_option linter.unusedSimpArgs false

def gVal (j : Nat) (D : List Nat) (v : Value) : FOp := ⟨j, D, fun u => u = v, fun u w => u = v⟩
theorem gVal_st (j : Nat) (D : List Nat) (v : Value) : ∀ u w w', (gVal j D v).Φ u w → Below w.heap.size w w' → (gVal j D v).Φ u w' := fun u w w' h _ => h
theorem gVal_kn (j : Nat) (D : List Nat) (v : Value) : (∀ u w, (gVal j D v).Φ u w → (gVal j D v).S u) ∧ ∃ u, (gVal j D v).S u := ⟨fun u w h => h, v, rfl⟩
def gBox (j : Nat) (D : List Nat) (B : Nat) (cs : Array Value) (T : TypeId) : FOp := ⟨j, D, fun v => ∃ g, v = .pointer (some ⟨g, 0, none⟩), fun v w => ∃ g, v = .pointer (some ⟨g, 0, none⟩) ∧ Box w g cs T ∧ B ≤ g⟩
theorem gBox_st (j : Nat) (D : List Nat) (B : Nat) (cs : Array Value) (T : TypeId) : ∀ u w w', (gBox j D B cs T).Φ u w → Below w.heap.size w w' → (gBox j D B cs T).Φ u w' := fun u w w' ⟨g, e, h, hB⟩ hb => ⟨g, e, h.below hb, hB⟩
theorem gBox_kn (j : Nat) (D : List Nat) (B : Nat) (cs : Array Value) (T : TypeId) : (∀ u w, (gBox j D B cs T).Φ u w → (gBox j D B cs T).S u) ∧ ∃ u, (gBox j D B cs T).S u := ⟨fun u w ⟨g, e, _⟩ => ⟨g, e⟩, _, 0, rfl⟩
theorem gbox_at {v : Value} {g : Nat} {w : World} {cs : Array Value} {T : TypeId} {B : Nat} (e : v = .pointer (some ⟨g, 0, none⟩)) (h : ∃ g', v = .pointer (some ⟨g', 0, none⟩) ∧ Box w g' cs T ∧ B ≤ g') : Box w g cs T ∧ B ≤ g := by
  obtain ⟨g', e', h⟩ := h
  rw [e] at e'
  simp at e'
  rw [e']; exact h
def gMade (j : Nat) (D : List Nat) (B n c : Nat) (cs : Array Value) (T : TypeId) : FOp := ⟨j, D, fun v => ∃ g, v = .slice (some ⟨g, 0, none⟩) n c, fun v w => ∃ g, v = .slice (some ⟨g, 0, none⟩) n c ∧ Box w g cs T ∧ B ≤ g⟩
theorem gMade_st (j : Nat) (D : List Nat) (B n c : Nat) (cs : Array Value) (T : TypeId) : ∀ u w w', (gMade j D B n c cs T).Φ u w → Below w.heap.size w w' → (gMade j D B n c cs T).Φ u w' := fun u w w' ⟨g, e, h, hB⟩ hb => ⟨g, e, h.below hb, hB⟩
theorem gMade_kn (j : Nat) (D : List Nat) (B n c : Nat) (cs : Array Value) (T : TypeId) : (∀ u w, (gMade j D B n c cs T).Φ u w → (gMade j D B n c cs T).S u) ∧ ∃ u, (gMade j D B n c cs T).S u := ⟨fun u w ⟨g, e, _⟩ => ⟨g, e⟩, _, 0, rfl⟩
theorem gmade_at {v : Value} {g n c : Nat} {w : World} {cs : Array Value} {T : TypeId} {B : Nat} (e : v = .slice (some ⟨g, 0, none⟩) n c) (h : ∃ g', v = .slice (some ⟨g', 0, none⟩) n c ∧ Box w g' cs T ∧ B ≤ g') : Box w g cs T ∧ B ≤ g := by
  obtain ⟨g', e', h⟩ := h
  rw [e] at e'
  simp at e'
  rw [e']; exact h
section
variable {α : Type}
/-- A slice that reads as a list of n elements lying outside a row of type T from B on. -/
def gRs (j : Nat) (D : List Nat) (φ : Rd α) (xs : List α) (B : Nat) : FOp := ⟨j, D, fun v => ∃ A c, v = .slice A xs.length c, fun v w => Rs φ w v xs (Ty w B φ.ts)⟩
theorem gRs_st (j : Nat) (D : List Nat) (φ : Rd α) (xs : List α) (B : Nat) : ∀ u w w', (gRs j D φ xs B).Φ u w → Below w.heap.size w w' → (gRs j D φ xs B).Φ u w' := fun u w w' h hb => (h.below hb).mono fun b h => h.below hb
theorem gRs_kn (j : Nat) (D : List Nat) (φ : Rd α) (xs : List α) (B : Nat) : (∀ u w, (gRs j D φ xs B).Φ u w → (gRs j D φ xs B).S u) ∧ ∃ u, (gRs j D φ xs B).S u := ⟨fun u w h => by
  obtain ⟨A, c, e, _⟩ := h; exact ⟨A, c, e⟩, .slice none _ 0, none, 0, rfl⟩
/-- A slice that reads as a list, whatever it leans on. -/
def gRsA (j : Nat) (D : List Nat) (φ : Rd α) (xs : List α) : FOp := ⟨j, D, fun v => ∃ A c, v = .slice A xs.length c, fun v w => Rs φ w v xs anyB⟩
theorem gRsA_st (j : Nat) (D : List Nat) (φ : Rd α) (xs : List α) : ∀ u w w', (gRsA j D φ xs).Φ u w → Below w.heap.size w w' → (gRsA j D φ xs).Φ u w' := fun u w w' h hb => h.below hb
theorem gRsA_kn (j : Nat) (D : List Nat) (φ : Rd α) (xs : List α) : (∀ u w, (gRsA j D φ xs).Φ u w → (gRsA j D φ xs).S u) ∧ ∃ u, (gRsA j D φ xs).S u := ⟨fun u w h => by
  obtain ⟨A, c, e, _⟩ := h; exact ⟨A, c, e⟩, .slice none _ 0, none, 0, rfl⟩
end
section
variable {P : Program} {K : Kit} {w0 : World} {γ : Nat → Value}
theorem freshAt_made {j : Nat} {o : Oper} {a : Act} {n c : Nat} {T : TypeId} {cs : Array Value} (hg : o.guard = none) (hr : ∀ w, (execOp a.eval o).run P w = .ok (.value (.slice (some ⟨w.heap.size, 0, none⟩) n c)) (w.alloc (.cells cs T)))
    (h : ∀ w g, w0.heap.size ≤ g → Box w g cs T → K.Φ j (.slice (some ⟨g, 0, none⟩) n c) w) : FreshAt P K w0 γ j o a := by
  refine ⟨hg, fun w hb hf => ?_⟩
  rw [hr]
  exact ⟨h _ _ hb.size (Box.new _ _ _), below_alloc _ _⟩
/-- A slice literal of one element. -/
theorem freshAt_one {α : Type} {φ : Rd α} {x : α} {j : Nat} {o : Oper} {a : Act} {B : Nat} {T : TypeId} {us : Array Value} (hg : o.guard = none) (hr : ∀ w, (execOp a.eval o).run P w = .ok (.value (.slice (some ⟨w.heap.size, 0, none⟩) 1 1)) (w.alloc (.cells us T)))
    (h : ∀ w, Below w0.heap.size w0 w → (∀ d ∈ K.D j, K.Φ d (γ d) w) → φ.R w us.toList x (Ty w B φ.ts)) (hΦ : ∀ v w, Rs φ w v [x] (Ty w B φ.ts) → K.Φ j v w) : FreshAt P K w0 γ j o a := by
  refine ⟨hg, fun w hb hf => ?_⟩
  rw [hr]
  refine ⟨hΦ _ _ ?_, below_alloc _ _⟩
  exact (Rs.one (h w hb hf) T).mono fun b hb' => hb'.below (below_alloc _ _)
theorem exec_make {a : Act} {o : Oper} {t : TypeId} {x y : Operand} {l c : Int} (ho : o.op = .makeSlice t x y) (hx : a.eval x = .int .i64 l) (hy : a.eval y = .int .i64 c) {v : Value} {w w' : World} (h : (Instr.makeSlice t (.int .i64 l) (.int .i64 c)).run P w = .ok v w') :
    (execOp a.eval o).run P w = .ok (.value v) w' := by
  simp [execOp, ho, hx, hy, h, Result.andThen]
end
theorem own_of_box {w : World} {B g : Nat} {T : TypeId} {xs : List Value} (h : Box w g xs.toArray T) (hB : B ≤ g) (hm : xs.length ≤ maxLen) : w.ownsRow B T 1 (.slice (some ⟨g, 0, none⟩) xs.length xs.length) xs.length xs :=
  ⟨by simp, .inr ⟨g, xs.length, xs.toArray, rfl, hB, h, Nat.le_refl _, hm, by simp, by simp⟩⟩
/-- COPY into a row that is known whole: the row turns, all else stays. -/
theorem wpList_copy_box {P : Program} {w : World} {ops : Array Oper} {rest : List Oper} {o : Oper} {a : Act} {Q : Exit → Act → World → Prop} (hgd : o.guard = none) (d s : Operand) (dT sT : TypeId)
    (ho : o.op = .call { callee := .builtin .copy, args := #[d, s], argTypes := #[dT, sT] }) (elem : TypeId) (hu : P.underlying dT = some (.slice elem)) (hsz : (P.info? elem).map (·.size) = some 1)
    (dp sp : Option Addr) (dLen dCap sLen sCap : Nat) (hd : a.eval d = .slice dp dLen dCap) (hs : a.eval s = .slice sp sLen sCap)
    (g off : Nat) (cur : List Value) (t : TypeId) (hg : Box w g cur.toArray t) (cs : List Value) (hn : cs.length = Nat.min sLen dLen)
    (hpos : 0 < cs.length → dp = some ⟨g, off, none⟩ ∧ ∃ ad, sp = some ad ∧ ∀ j v, cs[j]? = some v → w.cell? (ad.add j) = some v)
    (hfit : off + cs.length ≤ cur.length) (h1 : ∀ v ∈ cs, v.oneCell' = true)
    (h : ∀ w', Hid (Box w' g (splice cur off cs).toArray t) → Hid (w.grownBy w' (some g)) → wpList P ops Q rest (a.put o.dst (goInt cs.length)) w') :
    wpList P ops Q (o :: rest) a w := by
  by_cases h0 : cs.length = 0
  · obtain rfl : cs = [] := List.eq_nil_of_length_eq_zero h0
    refine wpList_copy_nothing hgd d s dT sT ho elem hu hsz dp sp dLen dCap sLen sCap hd hs (by simpa using hn.symm) ?_
    have es : splice cur off [] = cur := by simp [splice]
    exact h w (by rw [es]; exact hg) (Lib.hid ⟨rfl, rfl, rfl, Nat.le_refl _, fun _ _ _ => rfl⟩)
  · obtain ⟨rfl, ad, rfl, hsrc⟩ := hpos (by omega)
    refine wpList_copy_own hgd d s dT sT ho elem hu hsz g off dLen dCap ad sLen sCap hd hs cur.toArray t hg cs hn hsrc (by simpa using hfit) h1 ?_
    refine h _ (setRow_heap w g _ _ t _ hg) (Lib.hid ⟨rfl, rfl, rfl, by simp [World.setRow], fun k hk hne => ?_⟩)
    exact setRow_other w g k _ (fun e => hne (by rw [e]))
theorem boxes_apart {w : World} {g g' : Nat} {cs cs' : Array Value} {T T' : TypeId} (h : Box w g cs T) (h' : Box w g' cs' T') (hT : T ≠ T') : g ≠ g' := fun e => by
  subst e
  unfold Box at h h'
  rw [h] at h'
  simp only [Option.some.injEq, Obj.cells.injEq] at h'
  exact hT h'.2.1
theorem box_grown {w w' : World} {g g' : Nat} {cs : Array Value} {T : TypeId} (h : Box w g cs T) (hg : w.grownBy w' (some g')) (hne : g ≠ g') : Box w' g cs T :=
  (hg.block g h.lt (by simpa using hne)).trans h
theorem below_grownG {b0 : Nat} {w w2 w3 : World} {g : Nat} (h : Below b0 w w2) (hs : b0 ≤ w2.heap.size) (hb : b0 ≤ g) (hg : w2.grownBy w3 (some g)) : Below b0 w w3 :=
  h.grown hg hs fun q hq => by simp only [Option.some.injEq] at hq; omega
/-- A string alone. -/
def strR : Rd ByteArray where
  k := 1
  ts := []
  pos := by decide
  R := fun w us s F => us = [.string s]
  len := fun h => by rw [h]; rfl
  one := fun h u hu => by rw [h] at hu; simp at hu; subst hu; rfl
  mono := fun h _ => h
  same := fun h _ _ => h
theorem Rs.of_sl {w : World} {v : Value} {l : List ByteArray} (h : SL w v l) (F : Nat → Prop) : Rs strR w v l F := by
  obtain ⟨A, c, rfl, hc, h⟩ := h
  refine ⟨A, c, rfl, hc, fun hl => ?_⟩
  obtain ⟨a, rfl, hr⟩ := h hl
  have hs : a.spot = none := spot_none (hr.cells 0 hl)
  obtain ⟨b, o, s⟩ := a
  simp only at hs
  subst hs
  refine ⟨b, o, rfl, hr.lt, fun j x hj => ⟨[.string x], fun i hi => ?_, rfl⟩⟩
  have hjl : j < l.length := (List.getElem?_eq_some_iff.1 hj).1
  have h1 := hr.cells j hjl
  rw [add_plain, List.getD_eq_getElem?_getD, hj] at h1
  have hi0 : i = 0 := by have : strR.k = 1 := rfl; omega
  subst hi0
  show w.cell? ⟨b, o + j * 1 + 0, none⟩ = _
  rw [Nat.mul_one, Nat.add_zero, h1]; rfl
theorem Rs.sl {w : World} {v : Value} {l : List ByteArray} {F : Nat → Prop} (h : Rs strR w v l F) : SL w v l := by
  obtain ⟨A, c, rfl, hc, h⟩ := h
  refine ⟨A, c, rfl, hc, fun hl => ?_⟩
  obtain ⟨b, o, rfl, hb, h⟩ := h hl
  refine ⟨⟨b, o, none⟩, rfl, hb, fun j hj => ?_⟩
  obtain ⟨us, h1, h2⟩ := h j _ (List.getElem?_eq_getElem hj)
  have h3 := h1 0 (by decide)
  have h2' : us = [.string l[j]] := h2
  rw [h2', Nat.add_zero] at h3
  have e : strR.k = 1 := rfl
  rw [e, Nat.mul_one] at h3
  rw [add_plain, h3, List.getD_eq_getElem?_getD, List.getElem?_eq_getElem hj]; rfl
theorem OG.of_scells {w : World} {B : Nat} {v : Value} {l : List ByteArray} (h : w.ownsRow B 9 1 v l.length (scells l)) : OG strR w B 0 9 v l := by
  have hf : ∀ l : List ByteArray, (l.map fun s => [Value.string s]).flatten = scells l := fun l => by
    unfold scells
    induction l with
    | nil => rfl
    | cons a r ih => simp [List.flatten, ih]
  refine ⟨⟨by simp [strR], Nat.zero_le _⟩, l.map fun s => [Value.string s], by simp, by rw [hf]; exact h, fun j x hj => ?_⟩
  show _ = _
  rw [List.getD_eq_getElem?_getD, List.getElem?_map, hj]; rfl

end Go.Proofs.YtbgficaboolgiaaGreatDoor

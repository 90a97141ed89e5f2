/-
  What slices read as, whatever their elements: read, or rows of the call's own that grow. No program in sight.
-/
import Derived.Test.YtbgficaboolgiaaGreatDoorBase
import Derived.Laws.AppendOwnNone
import Derived.Deep.DeepAppendWide
import Derived.Deep.Slices
import Derived.Lib.Hide
namespace Go.Proofs.YtbgficaboolgiaaGreatDoor
open Go.RowKit
set_option linter.unusedVariables false
set_option linter.unusedSimpArgs false

/-- How an element reads: the number of its cells; what they read as, leaning on blocks of which F holds. -/
structure Rd (α : Type) where
  k : Nat
  ts : List TypeId
  pos : 0 < k
  R : World → List Value → α → (Nat → Prop) → Prop
  len : ∀ {w us x F}, R w us x F → us.length = k
  one : ∀ {w us x F}, R w us x F → ∀ u ∈ us, u.oneCell' = true
  mono : ∀ {w us x F G}, R w us x F → (∀ b, F b → G b) → R w us x G
  same : ∀ {w w' us x F}, R w us x F → w.heap.size ≤ w'.heap.size → (∀ b, b < w.heap.size → F b → w'.heap[b]? = w.heap[b]?) → R w' us x F
def anyB : Nat → Prop := fun _ => True
theorem spot_none {w : World} {a : Addr} {v : Value} (h : w.cell? a = some v) : a.spot = none := by
  unfold World.cell? at h
  split at h
  · split at h
    · cases h
    · rename_i hs; simpa using hs
  · cases h
theorem add_plain {b o : Nat} (j : Nat) : (⟨b, o, none⟩ : Addr).add j = ⟨b, o + j, none⟩ := by
  unfold Addr.add
  split
  · rename_i h; subst h; rfl
  · rfl
theorem cell_same {w w' : World} {b i : Nat} (h : w'.heap[b]? = w.heap[b]?) : w'.cell? ⟨b, i, none⟩ = w.cell? ⟨b, i, none⟩ := World.cell?_of_block (a := ⟨b, i, none⟩) h
section
variable {α : Type} {φ : Rd α} {w w' : World} {v : Value} {xs ys : List α} {F G : Nat → Prop}
/-- A slice whose elements read as a list. -/
def Rs (φ : Rd α) (w : World) (v : Value) (xs : List α) (F : Nat → Prop) : Prop :=
  ∃ (A : Option Addr) (c : Nat), v = .slice A xs.length c ∧ xs.length ≤ c ∧ (0 < xs.length → ∃ b o, A = some ⟨b, o, none⟩ ∧ b < w.heap.size ∧
    ∀ j x, xs[j]? = some x → ∃ us, (∀ i, i < φ.k → w.cell? ⟨b, o + j * φ.k + i, none⟩ = us[i]?) ∧ φ.R w us x F)
theorem Rs.nil (φ : Rd α) (w : World) (F : Nat → Prop) : Rs φ w (.slice none 0 0) [] F := ⟨none, 0, rfl, Nat.le_refl _, fun h => absurd h (by simp)⟩
theorem Rs.mono (h : Rs φ w v xs F) (hF : ∀ b, F b → G b) : Rs φ w v xs G := by
  obtain ⟨A, c, rfl, hc, h⟩ := h
  refine ⟨A, c, rfl, hc, fun hl => ?_⟩
  obtain ⟨b, o, rfl, hb, h⟩ := h hl
  refine ⟨b, o, rfl, hb, fun j x hj => ?_⟩
  obtain ⟨us, h1, h2⟩ := h j x hj
  exact ⟨us, h1, φ.mono h2 hF⟩
theorem Rs.same (h : Rs φ w v xs F) (hs : w.heap.size ≤ w'.heap.size) (hv : ∀ b, v.ownBlock = some b → w'.heap[b]? = w.heap[b]?) (hk : ∀ b, b < w.heap.size → F b → w'.heap[b]? = w.heap[b]?) : Rs φ w' v xs F := by
  obtain ⟨A, c, rfl, hc, h⟩ := h
  refine ⟨A, c, rfl, hc, fun hl => ?_⟩
  obtain ⟨b, o, rfl, hb, h⟩ := h hl
  refine ⟨b, o, rfl, Nat.lt_of_lt_of_le hb hs, fun j x hj => ?_⟩
  obtain ⟨us, h1, h2⟩ := h j x hj
  exact ⟨us, fun i hi => by rw [cell_same (hv b rfl)]; exact h1 i hi, φ.same h2 hs hk⟩
theorem Rs.below (h : Rs φ w v xs F) (hb : Below w.heap.size w w') : Rs φ w' v xs F := by
  by_cases hl : 0 < xs.length
  · refine h.same hb.size (fun b hvb => ?_) (fun b hlt _ => hb.block b hlt)
    obtain ⟨A, c, rfl, hc, h⟩ := h
    obtain ⟨b', o, rfl, hb', _⟩ := h hl
    simp only [Value.ownBlock, Option.some.injEq] at hvb
    subst hvb
    exact hb.block _ hb'
  · obtain ⟨A, c, rfl, hc, _⟩ := h
    exact ⟨A, c, rfl, hc, fun h => absurd h hl⟩
theorem Rs.slice (h : Rs φ w v xs F) : ∃ A c, v = .slice A xs.length c ∧ xs.length ≤ c := by
  obtain ⟨A, c, rfl, hc, _⟩ := h; exact ⟨A, c, rfl, hc⟩
theorem Rs.form (h : Rs φ w v xs F) : (∃ A c, v = .slice A 0 c ∧ xs = []) ∨ ∃ b o c, v = .slice (some ⟨b, o, none⟩) xs.length c ∧ xs.length ≤ c ∧ 0 < xs.length ∧ b < w.heap.size ∧
    ∀ j x, xs[j]? = some x → ∃ us, (∀ i, i < φ.k → w.cell? ⟨b, o + j * φ.k + i, none⟩ = us[i]?) ∧ φ.R w us x F := by
  obtain ⟨A, c, rfl, hc, h⟩ := h
  by_cases hl : 0 < xs.length
  · obtain ⟨b, o, rfl, hb, h⟩ := h hl
    exact .inr ⟨b, o, c, rfl, hc, hl, hb, h⟩
  · obtain rfl : xs = [] := List.eq_nil_of_length_eq_zero (by omega)
    exact .inl ⟨A, c, rfl, rfl⟩
/-- The rows of cells of a slice. -/
theorem Rs.rows (h : Rs φ w v xs F) : ∃ uss : List (List Value), uss.length = xs.length ∧ (∀ j x, xs[j]? = some x → φ.R w (uss.getD j []) x F) ∧
    (0 < xs.length → ∃ b o c, v = .slice (some ⟨b, o, none⟩) xs.length c ∧ b < w.heap.size ∧ ∀ j i, j < xs.length → i < φ.k → w.cell? ⟨b, o + j * φ.k + i, none⟩ = (uss.getD j [])[i]?) := by
  rcases h.form with ⟨A, c, rfl, rfl⟩ | ⟨b, o, c, rfl, hc, hl, hlt, hcl⟩
  · exact ⟨[], rfl, fun j x h => by simp at h, fun h => by simp at h⟩
  · have key : ∀ n, n ≤ xs.length → ∃ uss : List (List Value), uss.length = n ∧ ∀ j x, j < n → xs[j]? = some x → φ.R w (uss.getD j []) x F ∧ ∀ i, i < φ.k → w.cell? ⟨b, o + j * φ.k + i, none⟩ = (uss.getD j [])[i]? := by
      intro n
      induction n with
      | zero => intro _; exact ⟨[], rfl, fun j x h => by omega⟩
      | succ n ih =>
        intro hn
        obtain ⟨uss, hl', hu⟩ := ih (by omega)
        obtain ⟨us, h1, h2⟩ := hcl n _ (List.getElem?_eq_getElem (by omega))
        refine ⟨uss ++ [us], by simp [hl'], fun j x hj hx => ?_⟩
        by_cases e : j < n
        · rw [show (uss ++ [us]).getD j [] = uss.getD j [] by simp [List.getD_eq_getElem?_getD, List.getElem?_append_left (show j < uss.length by omega)]]
          exact hu j x e hx
        · obtain rfl : j = n := by omega
          rw [show (uss ++ [us]).getD j [] = us by rw [← hl']; simp [List.getD_eq_getElem?_getD]]
          rw [List.getElem?_eq_getElem (by omega), Option.some.injEq] at hx
          subst hx
          exact ⟨h2, h1⟩
    obtain ⟨uss, hu1, hu2⟩ := key xs.length (Nat.le_refl _)
    exact ⟨uss, hu1, fun j x hx => (hu2 j x (by have := (List.getElem?_eq_some_iff.1 hx).1; exact this) hx).1, fun _ => ⟨b, o, c, rfl, hlt, fun j i hj hi => (hu2 j _ hj (List.getElem?_eq_getElem hj)).2 i hi⟩⟩
end
theorem flat_len {k : Nat} : ∀ {uss : List (List Value)}, (∀ us ∈ uss, us.length = k) → uss.flatten.length = uss.length * k
  | [], _ => by simp
  | us :: r, h => by
    rw [List.flatten_cons, List.length_append, flat_len (fun u hu => h u (List.mem_cons_of_mem _ hu)), h us (by simp), List.length_cons, Nat.add_mul, Nat.one_mul, Nat.add_comm]
theorem flat_get {k : Nat} : ∀ {uss : List (List Value)}, (∀ us ∈ uss, us.length = k) → ∀ j i, i < k → uss.flatten[j * k + i]? = (uss[j]?).bind (fun us => us[i]?)
  | [], _, j, i, _ => by simp
  | us :: r, h, 0, i, hi => by
    rw [List.flatten_cons, Nat.zero_mul, Nat.zero_add, List.getElem?_append_left (by rw [h us (by simp)]; exact hi)]
    simp
  | us :: r, h, j + 1, i, hi => by
    have hu := h us (by simp)
    rw [List.flatten_cons, List.getElem?_append_right (by rw [hu, Nat.add_mul]; omega), hu, show (j + 1) * k + i - k = j * k + i by rw [Nat.add_mul]; omega, flat_get (fun u hu => h u (List.mem_cons_of_mem _ hu)) j i hi]
    simp
/-- Blocks below B, or of one of the types ts. -/
def Ty (w : World) (B : Nat) (ts : List TypeId) (b : Nat) : Prop := b < B ∨ ∃ cs e fz, w.heap[b]? = some (.cells cs e fz) ∧ e ∈ ts
theorem heap_lt {w : World} {b : Nat} {o : Obj} (h : w.heap[b]? = some o) : b < w.heap.size := (Array.getElem?_eq_some_iff.1 h).1
theorem Ty.keep {w w' : World} {B : Nat} {ts : List TypeId} {b : Nat} (h : Ty w B ts b) (hk : b < w.heap.size → w'.heap[b]? = w.heap[b]?) : Ty w' B ts b := by
  rcases h with h | ⟨cs, e, fz, h1, h2⟩
  · exact .inl h
  · exact .inr ⟨cs, e, fz, (hk (heap_lt h1)).trans h1, h2⟩
theorem Ty.below {w w' : World} {B : Nat} {ts : List TypeId} {b : Nat} (h : Ty w B ts b) (hb : Below w.heap.size w w') : Ty w' B ts b := h.keep fun hl => hb.block b hl
theorem Ty.own {w : World} {B B' : Nat} {ts : List TypeId} {e : TypeId} {v : Value} {n size : Nat} {xs : List Value} (h : w.ownsRow B' e size v n xs) (he : e ∈ ts) : ∀ b, v.ownBlock = some b → Ty w B ts b := fun b hb => by
  rcases h.2 with ⟨rfl, _⟩ | ⟨g, cap, cur, rfl, _, hg, _⟩
  · simp [Value.ownBlock] at hb
  · simp only [Value.ownBlock, Option.some.injEq] at hb
    subst hb
    exact .inr ⟨cur, e, (0, 0), hg, he⟩
theorem Ty.box {w : World} {B g : Nat} {ts : List TypeId} {T : TypeId} {cs : Array Value} {b : Nat} (h : Ty w B ts b) (hx : Box w g cs T) (hT : T ∉ ts) (hB : B ≤ g) : b ≠ g := fun e => by
  subst e
  rcases h with h | ⟨cs', e, fz, hc, he⟩
  · omega
  · unfold Box at hx
    rw [hx] at hc
    simp only [Option.some.injEq, Obj.cells.injEq] at hc
    exact hT (hc.2.1 ▸ he)
theorem Ty.row {w : World} {B C : Nat} {ts : List TypeId} {T : TypeId} {size : Nat} {v : Value} {n : Nat} {xs : List Value} {b : Nat} (h : Ty w C ts b) (hT : T ∉ ts) (hCB : C ≤ B) (hv : w.ownsRow B T size v n xs) : v.ownBlock ≠ some b := fun e => by
  have h3 := own_block hv b e
  rcases h with h2 | ⟨cs, e', fz, hc, he⟩
  · omega
  · rcases hv.2 with ⟨rfl, _⟩ | ⟨g, cap, cur, rfl, _, hgg, _⟩
    · simp [Value.ownBlock] at e
    · simp only [Value.ownBlock, Option.some.injEq] at e
      subst e
      rw [hgg] at hc
      simp only [Option.some.injEq, Obj.cells.injEq] at hc
      exact hT (hc.2.1 ▸ he)
section
variable {α : Type} {φ : Rd α} {w w' : World} {B C : Nat} {T : TypeId} {v v' : Value} {xs ys : List α}
/-- A row of the call's own whose elements read as a list, and lie elsewhere. -/
def OG (φ : Rd α) (w : World) (B C : Nat) (T : TypeId) (v : Value) (xs : List α) : Prop :=
  (T ∉ φ.ts ∧ C ≤ B) ∧ ∃ uss : List (List Value), uss.length = xs.length ∧ w.ownsRow B T φ.k v xs.length uss.flatten ∧ ∀ j x, xs[j]? = some x → φ.R w (uss.getD j []) x (Ty w C φ.ts)
theorem OG.nil (φ : Rd α) (w : World) (B C : Nat) (T : TypeId) (hT : T ∉ φ.ts) (hCB : C ≤ B) : OG φ w B C T (.slice none 0 0) [] := ⟨⟨hT, hCB⟩, [], rfl, World.ownsRow_nil _ _ _ _, fun j x h => by simp at h⟩
theorem OG.slice (h : OG φ w B C T v xs) : ∃ A c, v = .slice A xs.length c := by
  obtain ⟨_, uss, _, ho, _⟩ := h
  rcases ho.2 with ⟨rfl, h0⟩ | ⟨g, cap, cur, rfl, _⟩
  · exact ⟨none, 0, by rw [h0]⟩
  · exact ⟨_, cap, rfl⟩
theorem OG.blk (h : OG φ w B C T v xs) : ∀ q, v.ownBlock = some q → B ≤ q := by
  obtain ⟨_, uss, _, ho, _⟩ := h
  exact fun q hq => own_block ho q hq
theorem rd_move {us : List Value} {x : α} (h : φ.R w us x (Ty w C φ.ts)) (hs : w.heap.size ≤ w'.heap.size) (hk : ∀ b, b < w.heap.size → Ty w C φ.ts b → w'.heap[b]? = w.heap[b]?) : φ.R w' us x (Ty w' C φ.ts) :=
  φ.mono (φ.same h hs hk) fun b hb => hb.keep fun hl => hk b hl hb
theorem OG.below (h : OG φ w B C T v xs) (hb : Below w.heap.size w w') : OG φ w' B C T v xs := by
  obtain ⟨hT, uss, hl, ho, hc⟩ := h
  exact ⟨hT, uss, hl, own_below ho hb, fun j x hj => rd_move (hc j x hj) hb.size fun b hlt _ => hb.block b hlt⟩
/-- The row seen. -/
theorem OG.rs (h : OG φ w B C T v xs) : Rs φ w v xs (Ty w C φ.ts) := by
  obtain ⟨hT, uss, hl, ho, hc⟩ := h
  have ho2 := ho
  have hlen : ∀ us ∈ uss, us.length = φ.k := fun us hu => by
    obtain ⟨j, hj, rfl⟩ := List.mem_iff_getElem.1 hu
    have := φ.len (hc j _ (List.getElem?_eq_getElem (by omega)))
    rwa [List.getD_eq_getElem?_getD, List.getElem?_eq_getElem hj] at this
  rcases ho.2 with ⟨rfl, h0⟩ | ⟨g, cap, cur, rfl, hg, hh, hnc, _⟩
  · obtain rfl : xs = [] := List.eq_nil_of_length_eq_zero h0
    exact Rs.nil φ w _
  · refine ⟨_, cap, rfl, hnc, fun hp => ⟨g, 0, rfl, heap_lt hh, fun j x hj => ⟨uss.getD j [], fun i hi => ?_, hc j x hj⟩⟩⟩
    have hjl : j < uss.length := by have := (List.getElem?_eq_some_iff.1 hj).1; omega
    have hul : (uss.getD j []).length = φ.k := φ.len (hc j x hj)
    have hget : uss.flatten[j * φ.k + i]? = some ((uss.getD j [])[i]'(by omega)) := by
      rw [flat_get hlen j i hi, List.getElem?_eq_getElem hjl]
      simp only [List.getD_eq_getElem?_getD, List.getElem?_eq_getElem hjl, Option.getD_some, Option.bind_some]
      exact List.getElem?_eq_getElem _
    have := ho2.cells (g := g) rfl (j * φ.k + i) _ hget
    rw [add_plain, ← Nat.add_assoc] at this
    rw [this]
    exact (List.getElem?_eq_getElem _).symm
theorem OG.any (h : OG φ w B C T v xs) : Rs φ w v xs anyB := h.rs.mono fun _ _ => trivial
/-- Another row of the same type from B on grew, or this one. -/
theorem OG.grow (h : OG φ w B C T v xs) {v1 : Value} {n1 size : Nat} {ls : List Value} {T1 : TypeId} {B1 : Nat} (hT1 : T1 ∉ φ.ts) (hCB1 : C ≤ B1) (hv : w.ownsRow B1 T1 size v1 n1 ls) (hg : w.grownBy w' v1.ownBlock) (hne : v.ownBlock = none ∨ v.ownBlock ≠ v1.ownBlock) : OG φ w' B C T v xs := by
  obtain ⟨hT, uss, hl, ho, hc⟩ := h
  exact ⟨hT, uss, hl, ho.kept hg hne, fun j x hj => rd_move (hc j x hj) hg.size fun b hlt hb => hg.block b hlt fun e => hb.row hT1 hCB1 hv e.symm⟩
theorem OG.pushes {uss us2 : List (List Value)} (hT : T ∉ φ.ts ∧ C ≤ B) (hl : uss.length = xs.length) (ho : w.ownsRow B T φ.k v xs.length uss.flatten) (hc : ∀ j x, xs[j]? = some x → φ.R w (uss.getD j []) x (Ty w C φ.ts))
    (h2l : us2.length = ys.length) (hu : ∀ j x, ys[j]? = some x → φ.R w (us2.getD j []) x (Ty w C φ.ts)) (ho' : w'.ownsRow B T φ.k v' (xs.length + ys.length) (uss.flatten ++ us2.flatten)) (hg : w.grownBy w' v.ownBlock) : OG φ w' B C T v' (xs ++ ys) := by
  have key : ∀ us x, φ.R w us x (Ty w C φ.ts) → φ.R w' us x (Ty w' C φ.ts) := fun us x h => rd_move h hg.size fun b hlt hb => hg.block b hlt fun e => hb.row hT.1 hT.2 ho e.symm
  refine ⟨hT, uss ++ us2, by simp [hl, h2l], by simpa using ho', fun j x hj => ?_⟩
  by_cases e : j < xs.length
  · rw [List.getElem?_append_left e] at hj
    rw [show (uss ++ us2).getD j [] = uss.getD j [] by simp [List.getD_eq_getElem?_getD, List.getElem?_append_left (show j < uss.length by omega)]]
    exact key _ _ (hc j x hj)
  · rw [List.getElem?_append_right (by omega)] at hj
    rw [show (uss ++ us2).getD j [] = us2.getD (j - xs.length) [] by simp [List.getD_eq_getElem?_getD, List.getElem?_append_right (show uss.length ≤ j by omega), hl]]
    exact key _ _ (hu _ x hj)
/-- A store into a block of another type. -/
theorem OG.setBox (h : OG φ w B C T v xs) {g : Nat} {cs : Array Value} {T' : TypeId} (hx : Box w g cs T') (hT' : T' ∉ φ.ts) (hB : C ≤ g) (hne : T' ≠ T) (i : Nat) (u : Value) : OG φ (w.setCell ⟨g, i, none⟩ u) B C T v xs := by
  obtain ⟨hT, uss, hl, ho, hc⟩ := h
  have hk : ∀ b, b ≠ g → (w.setCell ⟨g, i, none⟩ u).heap[b]? = w.heap[b]? := fun b hb => Below.heap_setCell w ⟨g, i, none⟩ u b hb
  refine ⟨hT, uss, hl, ho.kept (row := some g) ⟨rfl, rfl, rfl, by simp [World.setCell], fun k _ hk2 => hk k (fun e => hk2 (by rw [e]))⟩ (.inr fun e => ?_), fun j x hj => rd_move (hc j x hj) (by simp [World.setCell]) fun b _ hb => hk b (hb.box hx hT' hB)⟩
  rcases ho.2 with ⟨rfl, _⟩ | ⟨g', cap, cur, rfl, _, hg, _⟩
  · simp [Value.ownBlock] at e
  · simp only [Value.ownBlock, Option.some.injEq] at e
    subst e
    unfold Box at hx
    rw [hx] at hg
    simp only [Option.some.injEq, Obj.cells.injEq] at hg
    exact hne hg.2.1
theorem own_same {n size : Nat} {v : Value} {ls : List Value} (h : w.ownsRow B T size v n ls) (hk : ∀ b, v.ownBlock = some b → w'.heap[b]? = w.heap[b]?) : w'.ownsRow B T size v n ls := by
  refine ⟨h.1, ?_⟩
  rcases h.2 with h0 | ⟨g, cap, cur, rfl, hB, hg, h3⟩
  · exact .inl h0
  · exact .inr ⟨g, cap, cur, rfl, hB, (hk g rfl).trans hg, h3⟩
theorem own_mono {B' n size : Nat} {v : Value} {ls : List Value} (h : w.ownsRow B T size v n ls) (hB : B' ≤ B) : w.ownsRow B' T size v n ls := by
  refine ⟨h.1, ?_⟩
  rcases h.2 with h0 | ⟨g, cap, cur, rfl, hBg, h3⟩
  · exact .inl h0
  · exact .inr ⟨g, cap, cur, rfl, Nat.le_trans hB hBg, h3⟩
theorem own_lt {n size : Nat} {v : Value} {ls : List Value} (h : w.ownsRow B T size v n ls) : ∀ b, v.ownBlock = some b → b < w.heap.size := fun b hb => by
  rcases h.2 with ⟨rfl, _⟩ | ⟨g, cap, cur, rfl, _, hg, _⟩
  · simp [Value.ownBlock] at hb
  · simp only [Value.ownBlock, Option.some.injEq] at hb
    subst hb
    exact heap_lt hg
theorem OG.growO {β : Type} {ψ : Rd β} {B1 C1 : Nat} {T1 : TypeId} {v1 : Value} {zs : List β} (h : OG φ w B C T v xs) (h1 : OG ψ w B1 C1 T1 v1 zs) (hg : w.grownBy w' v1.ownBlock) (hTT : T ≠ T1) (hT1 : T1 ∉ φ.ts) (hCB : C ≤ B1) : OG φ w' B C T v xs := by
  obtain ⟨_, uss1, _, ho1, _⟩ := h1
  refine h.grow hT1 hCB ho1 hg ?_
  obtain ⟨_, uss, _, ho, _⟩ := h
  rcases ho.2 with ⟨rfl, _⟩ | ⟨g, cap, cur, rfl, _, hgg, _⟩
  · exact .inl rfl
  · refine .inr fun e => ?_
    rcases ho1.2 with ⟨rfl, _⟩ | ⟨g', cap', cur', rfl, _, hg', _⟩
    · simp [Value.ownBlock] at e
    · simp only [Value.ownBlock, Option.some.injEq] at e
      subst e
      rw [hgg] at hg'
      simp only [Option.some.injEq, Obj.cells.injEq] at hg'
      exact hTT hg'.2.1
/-- All that lay there stays but for some boxes of other types. -/
theorem OG.keepBut (h : OG φ w B C T v xs) (hs : w.heap.size ≤ w'.heap.size) (X : Nat → Prop) (hX : ∀ b, X b → ∃ cs T', Box w b cs T' ∧ T' ∉ φ.ts ∧ C ≤ b ∧ T' ≠ T) (hk : ∀ b, b < w.heap.size → ¬ X b → w'.heap[b]? = w.heap[b]?) : OG φ w' B C T v xs := by
  obtain ⟨hT, uss, hl, ho, hc⟩ := h
  refine ⟨hT, uss, hl, own_same ho fun b hb => hk b (own_lt ho b hb) fun hx => ?_, fun j x hj => rd_move (hc j x hj) hs fun b hlt hty => hk b hlt fun hx => ?_⟩
  · obtain ⟨cs, T', hbx, _, _, hne⟩ := hX b hx
    rcases ho.2 with ⟨rfl, _⟩ | ⟨g', cap, cur, rfl, _, hg', _⟩
    · simp [Value.ownBlock] at hb
    · simp only [Value.ownBlock, Option.some.injEq] at hb
      subst hb
      unfold Box at hbx
      rw [hg'] at hbx
      simp only [Option.some.injEq, Obj.cells.injEq] at hbx
      exact hne hbx.2.1.symm
  · obtain ⟨cs, T', hbx, hT', hB, _⟩ := hX b hx
    exact hty.box hbx hT' hB rfl
/-- All that lay in a world stays but for some blocks. -/
def Kept (X : Nat → Prop) (w w' : World) : Prop := w.heap.size ≤ w'.heap.size ∧ ∀ b, b < w.heap.size → ¬ X b → w'.heap[b]? = w.heap[b]?
theorem Kept.mono {X Y : Nat → Prop} (h : Kept X w w') (hX : ∀ b, X b → Y b) : Kept Y w w' := ⟨h.1, fun b hl hy => h.2 b hl fun hx => hy (hX b hx)⟩
theorem Kept.refl (X : Nat → Prop) (w : World) : Kept X w w := ⟨Nat.le_refl _, fun _ _ _ => rfl⟩
theorem Kept.below {X : Nat → Prop} {w2 : World} (h : Kept X w w') (hb : Below w'.heap.size w' w2) : Kept X w w2 := ⟨Nat.le_trans h.1 hb.size, fun b hl hx => (hb.block b (Nat.lt_of_lt_of_le hl h.1)).trans (h.2 b hl hx)⟩
theorem Kept.set {X : Nat → Prop} (h : Kept X w w') {p : Addr} (hp : X p.block ∨ w.heap.size ≤ p.block) (u : Value) : Kept X w (w'.setCell p u) := by
  refine ⟨by simpa [World.setCell] using h.1, fun b hl hx => (Below.heap_setCell w' p u b fun e => ?_).trans (h.2 b hl hx)⟩
  subst e
  rcases hp with hp | hp
  · exact hx hp
  · omega
theorem Kept.grown {X : Nat → Prop} {w2 : World} {row : Option Nat} (h : Kept X w w') (hg : w'.grownBy w2 row) (hr : ∀ q, row = some q → X q ∨ w.heap.size ≤ q) : Kept X w w2 := by
  refine ⟨Nat.le_trans h.1 hg.size, fun b hl hx => (hg.block b (Nat.lt_of_lt_of_le hl h.1) fun e => ?_).trans (h.2 b hl hx)⟩
  rcases hr b e.symm with hp | hp
  · exact hx hp
  · omega
/-- A box of another type stays where the row grows. -/
theorem OG.boxKept (h : OG φ w B C T v xs) (hg : w.grownBy w' v.ownBlock) {g : Nat} {cs : Array Value} {T' : TypeId} (hx : Box w g cs T') (hne : T' ≠ T ∨ g < B) : Box w' g cs T' := by
  refine (hg.block g hx.lt fun e => ?_).trans hx
  obtain ⟨hT, uss, hl, ho, hc⟩ := h
  rcases hne with hne | hne
  · rcases ho.2 with ⟨rfl, _⟩ | ⟨g', cap, cur, rfl, _, hg', _⟩
    · simp [Value.ownBlock] at e
    · simp only [Value.ownBlock, Option.some.injEq] at e
      subst e
      unfold Box at hx
      rw [hx] at hg'
      simp only [Option.some.injEq, Obj.cells.injEq] at hg'
      exact hne hg'.2.1
  · have := own_block ho g e.symm; omega
theorem OG.belowG (h : OG φ w B C T v xs) (hg : w.grownBy w' v.ownBlock) {b0 : Nat} {w0 : World} (hb : Below b0 w0 w) (hs : b0 ≤ w.heap.size) (hB : b0 ≤ B) : Below b0 w0 w' :=
  hb.grown hg hs fun q hq => Nat.le_trans hB (h.blk q hq)
/-- One element laid in a block of its own, to be appended. -/
theorem Rs.one {F : Nat → Prop} {us : List Value} {x : α} (h : φ.R w us x F) (t : TypeId) : Rs φ (w.alloc (.cells us.toArray t)) (.slice (some ⟨w.heap.size, 0, none⟩) 1 1) [x] F := by
  refine ⟨_, 1, rfl, Nat.le_refl _, fun _ => ⟨_, _, rfl, by simp, fun j y hj => ⟨us, fun i hi => ?_, ?_⟩⟩⟩
  · obtain rfl : j = 0 := by have := (List.getElem?_eq_some_iff.1 hj).1; simp at this; exact this
    have := heap_alloc_new w (.cells us.toArray t)
    rw [cell_of_row _ _ _ us.toArray t (0, 0) this]
    simp
  · obtain rfl : j = 0 := by have := (List.getElem?_eq_some_iff.1 hj).1; simp at this; exact this
    obtain rfl : x = y := by simpa using hj
    exact φ.same h (by simp) fun b hb _ => heap_alloc_old _ _ hb
theorem run_append_noneC {P : Program} {w : World} (base : Nat) (t ty e : TypeId) (i : TypeInfo) (size c : Nat) (ht : P.underlying t = some (.slice e)) (hi : P.info? e = some i)
    (v : Value) (n : Nat) (xs : List Value) (hown : w.ownsRow base e size v n xs) : (Builtin.append_ #[t, t] ty #[v, .slice none 0 c]).run P w = .ok v w := by
  rcases hown.2 with ⟨rfl, rfl⟩ | ⟨g, cap, cur, rfl, _, _, hnc, _⟩
  · simp [Builtin.append_, run_underlying ht, sizeOf, typeInfo, hi, Builtin.lenOf, Builtin.firstCells]
  · simp [Builtin.append_, run_underlying ht, sizeOf, typeInfo, hi, Builtin.lenOf, Builtin.firstCells, hnc, storeCells]
section
variable {P : Program} {ops : Array Oper} {rest : List Oper} {o : Oper} {a : Act} {Q : Exit → Act → World → Prop}
/-- APPEND: a slice onto a row of the call's own. -/
theorem wpList_append_og (hgd : o.guard = none) (s x : Operand) (t : TypeId) (ho : o.op = .call { callee := .builtin .append, args := #[s, x], argTypes := #[t, t] })
    (i : TypeInfo) (z : Value) (bytes : Nat) (ht : P.underlying t = some (.slice T)) (hi : P.info? T = some i) (hz : i.zero = some z) (hsize : i.size = φ.k) (hby : i.bytes = bytes) (hzs : z.cells.size = φ.k)
    (hs : a.eval s = v) (hown : OG φ w B C T v xs) (sv : Value) (hx : a.eval x = sv) (hsv : Rs φ w sv ys (Ty w C φ.ts))
    (hbytes : ((xs.length + ys.length) + (xs.length + ys.length) / 4 + 192) * bytes ≤ 281474976710656) (h63 : xs.length + ys.length ≤ maxLen) (hbase : B ≤ w.heap.size)
    (h : ∀ v' w', Hid (OG φ w' B C T v' (xs ++ ys)) → Hid (w.grownBy w' v.ownBlock) → wpList P ops Q rest (a.put o.dst v') w') : wpList P ops Q (o :: rest) a w := by
  obtain ⟨hT, uss, hl, how, hc⟩ := hown
  obtain ⟨us2, h2l, h2c, h2a⟩ := hsv.rows
  have hlen2 : ∀ us ∈ us2, us.length = φ.k := fun us hu => by
    obtain ⟨j, hj, rfl⟩ := List.mem_iff_getElem.1 hu
    have := φ.len (h2c j _ (List.getElem?_eq_getElem (by omega)))
    rwa [List.getD_eq_getElem?_getD, List.getElem?_eq_getElem hj] at this
  have hone : ∀ u ∈ us2.flatten, u.oneCell' = true := fun u hu => by
    obtain ⟨us, h1, h2⟩ := List.mem_flatten.1 hu
    obtain ⟨j, hj, rfl⟩ := List.mem_iff_getElem.1 h1
    have := φ.one (h2c j _ (List.getElem?_eq_getElem (by omega)))
    rw [List.getD_eq_getElem?_getD, List.getElem?_eq_getElem hj] at this
    exact this u h2
  obtain ⟨A2, c2, rfl, hc2⟩ := hsv.slice
  cases A2 with
  | none =>
    obtain rfl : ys = [] := by
      rcases Nat.eq_zero_or_pos ys.length with h0 | h0
      · exact List.eq_nil_of_length_eq_zero h0
      · obtain ⟨b, o', c', e, _⟩ := h2a h0
        cases e
    refine wpList_plain hgd fun K hK => ?_
    have hrun := run_append_noneC (P := P) (w := w) B t o.type T i φ.k c2 ht hi v xs.length uss.flatten how
    have := h v w (by simpa using Lib.hid (show OG φ w B C T v xs from ⟨hT, uss, hl, how, hc⟩)) (Lib.hid ⟨rfl, rfl, rfl, Nat.le_refl _, fun _ _ _ => rfl⟩)
    have hx' : a.eval x = .slice none 0 c2 := hx
    unfold Oper.wp
    simp [execOp, ho, resolve, invoke, builtin, hs, hx', hrun, Result.andThen]
    exact hK _ _ this
  | some ad =>
    refine wpList_append_own_wide w hgd s x t ho B T i z φ.k bytes ht hi hz hsize hby hzs φ.pos v xs.length uss.flatten hs how ad ys.length c2 us2.flatten hx ?_ ?_ hone h63 hbytes hbase fun v' w' ho' hg _ => ?_
    · rw [flat_len hlen2, h2l]
    · intro j u hj
      have hjl : j < us2.flatten.length := (List.getElem?_eq_some_iff.1 hj).1
      rw [flat_len hlen2, h2l] at hjl
      have hk := φ.pos
      have h0 : 0 < ys.length := by
        rcases Nat.eq_zero_or_pos ys.length with h0 | h0
        · rw [h0, Nat.zero_mul] at hjl; omega
        · exact h0
      obtain ⟨b, o', c', e, _, hcell⟩ := h2a h0
      simp only [Value.slice.injEq, Option.some.injEq] at e
      obtain ⟨rfl, _, _⟩ := e
      have hd : j = j / φ.k * φ.k + j % φ.k := by rw [Nat.mul_comm]; exact (Nat.div_add_mod j φ.k).symm
      have hmod : j % φ.k < φ.k := Nat.mod_lt _ hk
      have hdl : j / φ.k < ys.length := Nat.div_lt_of_lt_mul (by rw [Nat.mul_comm]; exact hjl)
      have h3 := hcell (j / φ.k) (j % φ.k) hdl hmod
      rw [Nat.add_assoc, ← hd] at h3
      rw [add_plain, h3, ← hj]
      conv => rhs; rw [hd]
      rw [flat_get hlen2 _ _ hmod]
      have : j / φ.k < us2.length := by omega
      simp [List.getD_eq_getElem?_getD, List.getElem?_eq_getElem this]
    · exact h v' w' (Lib.hid (OG.pushes hT hl how hc h2l h2c ho' hg)) (Lib.hid hg)
end
end
/-- An argument's slice, told by its elements' own readings. -/
theorem rs_of_trod {α H : Type} {enc : TypeId × Value → H} {P : Program} {w : World} {base : Nat} {spare : Nat → Bool} {held : Bool} (φ : Rd α) (Z : α → DataW H → Prop) {t e : TypeId} {fuel : Nat} {cs : List Value} {y : DataW H × List MemPlace}
    (ht : P.underlying t = some (.slice e)) (hk : P.cellsOf e = φ.k) (hel : ∀ n us z, us.length = φ.k → DataW.trod enc P w base spare held n e us = some z → ∃ x, φ.R w us x anyB ∧ Z x z.1)
    (h : DataW.trod enc P w base spare held fuel t cs = some y) :
    ∃ (v : Value) (xs : List α), cs = [v] ∧ Rs φ w v xs anyB ∧ xs.length ≤ maxLen ∧ ((y.1 = .nil ∧ xs = []) ∨ ∃ (ds sp : List (DataW H)), y.1 = .slice ds sp ∧ ds.length = xs.length ∧ ∀ (j : Nat) (x : α) (d : DataW H), xs[j]? = some x → ds[j]? = some d → Z x d) := by
  rcases Go.Deep.open_slice ht h with ⟨rfl, h0⟩ | ⟨a, len, cap, m, n, D, Pl, rfl, _, hl, hm, hmm, rfl, hx⟩
  · exact ⟨_, [], rfl, Rs.nil φ w _, by simp, .inl ⟨by rw [h0], rfl⟩⟩
  have hlm : len ≤ m := by rw [hmm]; split <;> omega
  have key : ∀ i, i ≤ len → ∃ xs : List α, xs.length = i ∧ ∀ j x, xs[j]? = some x → ∃ us, w.cells? base (a.add (j * φ.k)) φ.k = some us ∧ φ.R w us x anyB ∧ Z x (D j) := by
    intro i
    induction i with
    | zero => intro _; exact ⟨[], rfl, fun j x h => by simp at h⟩
    | succ i ih =>
      intro hi
      obtain ⟨xs, hxl, hxs⟩ := ih (by omega)
      obtain ⟨us, h1, h2⟩ := hx i (by omega)
      rw [hk] at h1
      obtain ⟨x, hr, hz⟩ := hel n us _ (World.cells?_some h1).2.1 h2
      refine ⟨xs ++ [x], by simp [hxl], fun j y hj => ?_⟩
      by_cases e : j < i
      · rw [List.getElem?_append_left (by omega)] at hj
        exact hxs j y hj
      · obtain rfl : j = i := by have := (List.getElem?_eq_some_iff.1 hj).1; simp at this; omega
        rw [← hxl] at hj
        simp only [List.getElem?_concat_length, Option.some.injEq] at hj
        subst hj
        exact ⟨us, h1, hr, hz⟩
  obtain ⟨xs, rfl, hxs⟩ := key len (Nat.le_refl _)
  refine ⟨_, xs, rfl, ⟨some a, cap, rfl, hl, fun hp => ?_⟩, by omega, .inr ⟨_, _, rfl, by simp, fun j x d hj hd => ?_⟩⟩
  · have hsp : a.spot = none := by
      obtain ⟨us, h1, h2, _⟩ := hxs 0 _ (List.getElem?_eq_getElem hp)
      have hu := (World.cells?_some h1).2.1
      have hc := (World.cells?_some h1).2.2 0 φ.pos
      rw [Nat.zero_mul] at hc
      have h3 : us[0]? = some (us[0]'(by rw [hu]; exact φ.pos)) := List.getElem?_eq_getElem _
      rw [h3] at hc
      exact spot_none hc
    obtain ⟨b, o, s⟩ := a
    simp only at hsp
    subst hsp
    refine ⟨b, o, rfl, ?_, fun j x hj => ?_⟩
    · obtain ⟨us, h1, h2, _⟩ := hxs 0 _ (List.getElem?_eq_getElem hp)
      have hu := (World.cells?_some h1).2.1
      have hc := (World.cells?_some h1).2.2 0 φ.pos
      have h3 : us[0]? = some (us[0]'(by rw [hu]; exact φ.pos)) := List.getElem?_eq_getElem _
      rw [h3] at hc
      have := World.block_lt_of_cell? _ _ hc
      rwa [Nat.zero_mul] at this
    · obtain ⟨us, h1, h2, _⟩ := hxs j x hj
      refine ⟨us, fun i hi => ?_, h2⟩
      have := (World.cells?_some h1).2.2 i hi
      rw [add_plain, add_plain] at this
      exact this
  · obtain ⟨us, _, _, hz⟩ := hxs j x hj
    have hjl := (List.getElem?_eq_some_iff.1 hj).1
    have e : d = D j := by
      rw [List.getElem?_map, List.getElem?_range hjl] at hd
      exact (Option.some.inj hd).symm
    rw [e]; exact hz

end Go.Proofs.YtbgficaboolgiaaGreatDoor

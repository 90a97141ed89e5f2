/-
  Slices of pairs (a name and a value), read and made.
-/
import Derived.Test.YtbjcbndmafddoaaDoorSlices
namespace Go.Proofs.YtbjcbndmafddoaaDoor
open Go.RowKit
set_option linter.unusedVariables false
set_option linter.unusedSimpArgs false

abbrev Pr := ByteArray × Int
def pr0 : Pr := (⟨#[]⟩, 0)
def pc1 (r : Pr) : List Value := [.string r.1, .int .i64 r.2]
def pcells (l : List Pr) : List Value := (l.map pc1).flatten
theorem pcells_append (l m : List Pr) : pcells (l ++ m) = pcells l ++ pcells m := by simp [pcells]
theorem pcells_len : ∀ (l : List Pr), (pcells l).length = l.length * 2
  | [] => rfl
  | r :: l => by
    have := pcells_len l
    simp only [pcells, List.map_cons, List.flatten_cons, List.length_append, List.length_cons] at this ⊢
    rw [this]; simp [pc1]; omega
theorem pcells_get : ∀ (l : List Pr) (k j : Nat) (u : Value), k < l.length → (pc1 (l.getD k pr0))[j]? = some u → (pcells l)[k * 2 + j]? = some u
  | [], k, j, u, h, _ => absurd h (by simp)
  | r :: l, 0, j, u, _, hj => by
    have hl : j < (pc1 r).length := (List.getElem?_eq_some_iff.1 hj).1
    simp only [pcells, List.map_cons, List.flatten_cons]
    rw [show 0 * 2 + j = j by omega, List.getElem?_append_left hl]
    exact hj
  | r :: l, k + 1, j, u, h, hj => by
    have ih := pcells_get l k j u (by simpa using h) (by simpa using hj)
    simp only [pcells, List.map_cons, List.flatten_cons] at ih ⊢
    rw [List.getElem?_append_right (by simp [pc1]; omega), show (k + 1) * 2 + j - (pc1 r).length = k * 2 + j by simp [pc1]; omega]
    exact ih
/-- A slice value that reads as a list of pairs. -/
def PL (w : World) (v : Value) (l : List Pr) : Prop := ∃ (A : Option Addr) (c : Nat), v = .slice A l.length c ∧ l.length ≤ c ∧ (0 < l.length → ∃ b o, A = some ⟨b, o, none⟩ ∧ b < w.heap.size ∧ ∀ k, k < l.length → w.cell? ⟨b, o + k * 2, none⟩ = some (.string (l.getD k pr0).1) ∧ w.cell? ⟨b, o + k * 2 + 1, none⟩ = some (.int .i64 (l.getD k pr0).2))
theorem PL.nil (w : World) : PL w (.slice none 0 0) [] := ⟨none, 0, rfl, Nat.le_refl _, fun h => absurd h (by simp)⟩
theorem PL.below {w w' : World} {v : Value} {l : List Pr} (h : PL w v l) (hb : Below w.heap.size w w') : PL w' v l := by
  obtain ⟨A, c, rfl, hc, h⟩ := h
  exact ⟨A, c, rfl, hc, fun hl => by
    obtain ⟨b, o, ha, hlt, hs⟩ := h hl
    exact ⟨b, o, ha, Nat.lt_of_lt_of_le hlt hb.size, fun k hk => by
      rw [hb.cell (p := ⟨b, o + k * 2, none⟩) hlt, hb.cell (p := ⟨b, o + k * 2 + 1, none⟩) hlt]; exact hs k hk⟩⟩
theorem PL.of_own {w : World} {base : Nat} {t : TypeId} {v : Value} {n : Nat} {l : List Pr} (h : w.ownsRow base t 2 v n (pcells l)) : PL w v l := by
  have hl : l.length = n := by have := h.1; rw [pcells_len] at this; omega
  have h0 := h
  obtain ⟨_, h2⟩ := h
  rcases h2 with ⟨rfl, h2⟩ | ⟨g, cap, cur, rfl, hg, hh, hnc, hcm, _⟩
  · have : l = [] := List.eq_nil_of_length_eq_zero (by omega)
    subst this
    exact PL.nil w
  · refine ⟨some ⟨g, 0, none⟩, cap, by rw [hl], by omega, fun hp => ⟨g, 0, rfl, ?_, fun k hk => ?_⟩⟩
    · rcases Nat.lt_or_ge g w.heap.size with hlt | hge
      · exact hlt
      · rw [Array.getElem?_eq_none hge] at hh; cases hh
    · have hc := World.ownsRow.cells h0 (g := g) rfl
      have e0 := hc _ _ (pcells_get l k 0 _ hk rfl)
      have e1 := hc _ _ (pcells_get l k 1 _ hk rfl)
      have hadd : ∀ n, (⟨g, 0, none⟩ : Addr).add n = ⟨g, n, none⟩ := fun n => by unfold Addr.add; split <;> simp_all
      rw [hadd] at e0 e1
      rw [Nat.zero_add]
      exact ⟨e0, e1⟩
theorem news2 {w : World} {cs : Array Value} {t : TypeId} : ∀ j u, cs.toList[j]? = some u → (w.alloc (.cells cs t)).cell? ((⟨w.heap.size, 0, none⟩ : Addr).add j) = some u := by
  intro j u hj
  have hadd : (⟨w.heap.size, 0, none⟩ : Addr).add j = ⟨w.heap.size, j, none⟩ := by unfold Addr.add; split <;> simp_all
  rw [hadd]
  have := heap_alloc_new w (.cells cs t)
  rw [cell_of_row _ _ _ cs t (0, 0) this]
  simpa using hj
theorem Box.grownR {w w' : World} {g : Nat} {row : Option Nat} {cs : Array Value} {t : TypeId} (h : Box w g cs t) (hg : w.grownBy w' row) (hne : row ≠ some g) : Box w' g cs t := (hg.block g h.lt (Ne.symm hne)).trans h
theorem news2b {w : World} {o : Obj} {cs : Array Value} {t : TypeId} : ∀ j u, cs.toList[j]? = some u → ((w.alloc o).alloc (.cells cs t)).cell? ((⟨w.heap.size + 1, 0, none⟩ : Addr).add j) = some u := by
  have := news2 (w := w.alloc o) (cs := cs) (t := t)
  rwa [show (w.alloc o).heap.size = w.heap.size + 1 by simp] at this
theorem below_grownB2 {w w2 w3 : World} {b0 base : Nat} {e : TypeId} {size : Nat} {v : Value} {n : Nat} {xs : List Value} {o o2 : Obj} (h : Below b0 w w2) (hs : b0 ≤ w2.heap.size) (hbb : b0 ≤ base) (hown : w2.ownsRow base e size v n xs) (hg : ((w2.alloc o).alloc o2).grownBy w3 v.ownBlock) : Below b0 w w3 :=
  ((h.alloc hs _).alloc (Nat.le_trans hs (by simp)) _).grown hg (Nat.le_trans hs (by simp; omega)) (fun q hq => Nat.le_trans hbb (own_block hown q hq))
theorem Box.grownO2 {w w2 : World} {g base : Nat} {e : TypeId} {size : Nat} {v : Value} {n : Nat} {xs : List Value} {o o2 : Obj} {cs : Array Value} {t : TypeId} (h : Box w g cs t) (hown : w.ownsRow base e size v n xs) (hlt : g < base) (hg : ((w.alloc o).alloc o2).grownBy w2 v.ownBlock) : Box w2 g cs t :=
  ((h.below (below_alloc _ _)).below (below_alloc _ _)).grownR hg (fun hq => by have := own_block hown g hq; omega)
/-- A row of the call's own that lies behind a bound has grown: the worlds below another bound. -/
theorem below_grownB {w w2 w3 : World} {b0 base : Nat} {e : TypeId} {size : Nat} {v : Value} {n : Nat} {xs : List Value} {o : Obj} (h : Below b0 w w2) (hs : b0 ≤ w2.heap.size) (hbb : b0 ≤ base) (hown : w2.ownsRow base e size v n xs) (hg : (w2.alloc o).grownBy w3 v.ownBlock) : Below b0 w w3 :=
  (h.alloc hs _).grown hg (Nat.le_trans hs (by simp)) (fun q hq => Nat.le_trans hbb (own_block hown q hq))
/-- A block below the row's bound stays as it was when the row grows. -/
theorem Box.grownO {w w2 : World} {g base : Nat} {e : TypeId} {size : Nat} {v : Value} {n : Nat} {xs : List Value} {o : Obj} {cs : Array Value} {t : TypeId} (h : Box w g cs t) (hown : w.ownsRow base e size v n xs) (hlt : g < base) (hg : (w.alloc o).grownBy w2 v.ownBlock) : Box w2 g cs t :=
  (h.below (below_alloc _ _)).grownR hg (fun hq => by have := own_block hown g hq; omega)

end Go.Proofs.YtbjcbndmafddoaaDoor

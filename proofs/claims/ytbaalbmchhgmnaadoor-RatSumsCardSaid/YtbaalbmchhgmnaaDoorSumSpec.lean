/-
  Slices of rationals in memory; their sum in plain Lean.
-/
import Derived.Test.YtbaalbmchhgmnaaDoorFieldLaw
import Derived.Test.YtbaalbmchhgmnaaDoorOpen
import Derived.OpenShut
namespace Go.Proofs.YtbaalbmchhgmnaaDoor
open Go.RowKit Go.WideShapes Go.ChangeShapes Go.Deep
set_option linter.unusedVariables false
set_option maxRecDepth 100000

/-- The sum of a list on top of a number; the first error ends it. -/
def sumF : Int → Int → List (Int × Int) → Int × Int × Int
  | n, d, [] => (n, d, 0)
  | n, d, p :: l => if (addR n d p.1 p.2).2.2 = 0 then sumF (addR n d p.1 p.2).1 (addR n d p.1 p.2).2.1 l else (0, 0, (addR n d p.1 p.2).2.2)
def sumR (l : List (Int × Int)) : Int × Int × Int := sumF 0 1 l
theorem sumF_step {n d : Int} {l : List (Int × Int)} {k : Nat} (hk : k < l.length) : sumF n d (l.drop k) = (if (addR n d (l.getD k (0, 0)).1 (l.getD k (0, 0)).2).2.2 = 0 then sumF (addR n d (l.getD k (0, 0)).1 (l.getD k (0, 0)).2).1 (addR n d (l.getD k (0, 0)).1 (l.getD k (0, 0)).2).2.1 (l.drop (k + 1)) else (0, 0, (addR n d (l.getD k (0, 0)).1 (l.getD k (0, 0)).2).2.2)) := by
  rw [List.drop_eq_getElem_cons hk]
  have : l.getD k (0, 0) = l[k] := by simp [List.getD_eq_getElem?_getD, hk]
  rw [this]; rfl
theorem sumF_end {n d : Int} {l : List (Int × Int)} {k : Nat} (hk : l.length ≤ k) : sumF n d (l.drop k) = (n, d, 0) := by rw [List.drop_eq_nil_of_le hk]; rfl
/-- These rationals lie one after another. -/
structure QG (w : World) (a : Addr) (l : List (Int × Int)) : Prop where
  lt : a.block < w.heap.size
  cells : ∀ k, k < l.length → w.cell? (a.add (k * 2)) = some (.int .i64 (l.getD k (0, 0)).1) ∧ w.cell? ⟨(a.add (k * 2)).block, (a.add (k * 2)).off + 1, none⟩ = some (.int .i64 (l.getD k (0, 0)).2)
theorem QG.below {w w' : World} {a : Addr} {l : List (Int × Int)} (h : QG w a l) (hb : Below w.heap.size w w') : QG w' a l :=
  ⟨Nat.lt_of_lt_of_le h.lt hb.size, fun k hk => by
    have hlt : ∀ n, (a.add n).block < w.heap.size := fun n => by rw [block_of_add]; exact h.lt
    rw [hb.cell (hlt (k * 2)), hb.cell (p := ⟨(a.add (k * 2)).block, _, none⟩) (hlt (k * 2))]
    exact h.cells k hk⟩
def QL (w : World) (v : Value) (l : List (Int × Int)) : Prop := ∃ (A : Option Addr) (c : Nat), v = .slice A l.length c ∧ l.length ≤ c ∧ c ≤ 9223372036854775807 ∧ (0 < l.length → ∃ a, A = some a ∧ QG w a l)
theorem QL.below {w w' : World} {v : Value} {l : List (Int × Int)} (h : QL w v l) (hb : Below w.heap.size w w') : QL w' v l := by
  obtain ⟨A, c, hv, hc, hm, hs⟩ := h
  exact ⟨A, c, hv, hc, hm, fun hp => by obtain ⟨a, ha, hr⟩ := hs hp; exact ⟨a, ha, hr.below hb⟩⟩
def QF (l : List (Int × Int)) : Prop := ∀ k, k < l.length → I64 (l.getD k (0, 0)).1 ∧ I64 (l.getD k (0, 0)).2
theorem add_off1 (a : Addr) (k j : Nat) (hj : 0 < j) : (a.add k).add j = ⟨(a.add k).block, (a.add k).off + j, none⟩ := by
  have : ¬ j = 0 := by omega
  unfold Addr.add
  rw [if_neg this]
theorem rats_of_trod {H : Type} {enc : TypeId × Value → H} {W : World} {fuel : Nat} {spare : Nat → Bool} {held : Bool} {c : Value} {x : DataW H × List MemPlace} (h : DataW.trod enc Tryd.prog W 0 spare held fuel 34 [c] = some x) :
    ∃ l, QL W c l ∧ QF l := by
  rcases open_structs Tryd.underlying34 Tryd.underlying23 (by kernel_rfl) (by kernel_rfl) h with hcs | ⟨a, len, cap, hcs, hl, hm, hi⟩
  · simp only [List.cons.injEq, and_true] at hcs
    subst hcs
    exact ⟨[], ⟨none, 0, rfl, Nat.le_refl _, by omega, fun h => absurd h (by simp)⟩, fun k hk => absurd hk (by simp)⟩
  simp only [List.cons.injEq, and_true] at hcs
  subst hcs
  have hex : ∀ i, i < len → ∃ r : Int × Int, W.cell? (a.add (i * 2)) = some (.int .i64 r.1) ∧ W.cell? (a.add (i * 2 + 1)) = some (.int .i64 r.2) ∧ I64 r.1 ∧ I64 r.2 := fun i hil => by
    obtain ⟨v0, n0, y0, c0, t0⟩ := hi i hil 0 _ rfl
    obtain ⟨v1, n1, y1, c1, t1⟩ := hi i hil 1 _ rfl
    obtain ⟨m0, e0, _, z0⟩ := DataW.trod_int Tryd.underlying3 t0
    obtain ⟨m1, e1, _, z1⟩ := DataW.trod_int Tryd.underlying3 t1
    simp only [List.cons.injEq, and_true] at e0 e1
    subst e0 e1
    exact ⟨⟨m0, m1⟩, c0, c1, bounds_i64 z0, bounds_i64 z1⟩
  let f : Nat → Int × Int := fun i => if h : i < len then (hex i h).choose else (0, 0)
  have hf : ∀ i, i < len → W.cell? (a.add (i * 2)) = some (.int .i64 (f i).1) ∧ W.cell? (a.add (i * 2 + 1)) = some (.int .i64 (f i).2) ∧ I64 (f i).1 ∧ I64 (f i).2 := fun i hil => by
    show _ ∧ _ ∧ _ ∧ _
    simp only [f, dif_pos hil]
    exact (hex i hil).choose_spec
  have hget : ∀ k, k < len → ((List.range len).map f).getD k (0, 0) = f k := fun k hk => by simp [List.getD_eq_getElem?_getD, hk]
  have hlen : ((List.range len).map f).length = len := by simp
  refine ⟨(List.range len).map f, ⟨some a, cap, by rw [hlen], by rw [hlen]; exact hl, hm, fun hp => ⟨a, rfl, ?_, fun k hk => ?_⟩⟩, fun k hk => ?_⟩
  · have := (hf 0 (by omega)).1
    have h2 := World.block_lt_of_cell? _ _ this
    rwa [block_of_add] at h2
  · rw [hlen] at hk
    rw [hget k hk]
    obtain ⟨h0, h1, _⟩ := hf k hk
    refine ⟨h0, ?_⟩
    rw [← add_off1 a (k * 2) 1 (by omega), add_add]; exact h1
  · rw [hlen] at hk
    rw [hget k hk]
    exact (hf k hk).2.2
/-- An argument that is a slice of rationals. -/
theorem arg_rats {H : Type} {enc : TypeId × Value → H} {W : World} {v : Value} {d : DataW H} {p : List MemPlace} {base : Nat} (h : DataW.Trod enc Tryd.prog W 0 (fun _ => true) true 34 v d p) (hv : Value.okWide Tryd.prog W .any base 34 v) :
    ∃ l, QL W v l ∧ QF l := by
  obtain ⟨a0, len, cap, rfl⟩ := okWide_slice Tryd.underlying34 hv
  obtain ⟨fuel, hf⟩ := h
  exact rats_of_trod hf

end Go.Proofs.YtbaalbmchhgmnaaDoor

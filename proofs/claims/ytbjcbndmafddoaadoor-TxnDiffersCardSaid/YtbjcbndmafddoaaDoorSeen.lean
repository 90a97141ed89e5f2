/-
  A map of strings that the call makes: a set of names.
-/
import Derived.Test.YtbjcbndmafddoaaDoorSlW
import Derived.Maps.OwnOps
import Derived.Maps.Views
namespace Go.Proofs.YtbjcbndmafddoaaDoor
open Go.RowKit Go.Maps
set_option linter.unusedVariables false

def klit (s : ByteArray) : Lit := .string s.data.toList
theorem klit_inj {a b : ByteArray} (h : klit a = klit b) : a = b := ba_eq (by unfold klit at h; simpa using h)
theorem keyStr : Keyed Tryd.prog 9 := string_keyed Tryd.underlying9
theorem klit_key (s : ByteArray) : WideAt.IsKeyLit (klit s) := by unfold klit WideAt.IsKeyLit; trivial
theorem key_str (s : ByteArray) (hs : s.size ≤ maxLen) : keyOf Tryd.prog 9 (.string s) = some (klit s) := by
  unfold keyOf klit
  simp [Tryd.underlying9, mapKey, hs]
/-- Block b is the set of these names. -/
def Seen (w : World) (b : Nat) (l : List ByteArray) : Prop := ∃ n, n ≤ l.length ∧ w.ownsMap (H := Unit) Tryd.prog 9 (plainElem Tryd.prog 4) b n (setOf (.lit (.bool true)) (l.map klit))
theorem Seen.lt {w : World} {b : Nat} {l : List ByteArray} (h : Seen w b l) : b < w.heap.size := by obtain ⟨n, _, h⟩ := h; exact h.lt
theorem Seen.below {w w' : World} {b : Nat} {l : List ByteArray} (h : Seen w b l) (hb : Below w.heap.size w w') : Seen w' b l := by
  obtain ⟨n, hn, h⟩ := h
  exact ⟨n, hn, h.kept (grown_of_below hb none) (by simp)⟩
theorem Seen.new (w : World) : Seen (w.alloc (.map #[] 0)) w.heap.size [] := ⟨0, Nat.le_refl _, World.ownsMap_made _ _ _ _⟩
theorem keysLit (l : List ByteArray) : ∀ x ∈ l.map klit, WideAt.IsKeyLit x := fun x hx => by
  obtain ⟨s, _, rfl⟩ := List.mem_map.1 hx; exact klit_key s
theorem setOf_at (l : List ByteArray) (s : ByteArray) (b : Bool) (hb : b = Lib.containsS l s) : (setOf (H := Unit) (.lit (.bool true)) (l.map klit)).atKey (klit s) (.lit (.bool false)) = .lit (.bool b) := by
  subst hb
  have key : ∀ (m : List ByteArray) (D : DataW Unit), IsMap D → ∀ c : Bool, D.atKey (klit s) (.lit (.bool false)) = .lit (.bool c) →
      ((m.map klit).foldl (fun d x => d.put x (.lit (.bool true))) D).atKey (klit s) (.lit (.bool false)) = .lit (.bool (c || Lib.containsS m s)) := by
    intro m
    induction m with
    | nil =>
      intro D _ c h
      have : Lib.containsS [] s = false := rfl
      rw [this, Bool.or_false]; exact h
    | cons x m ih =>
      intro D hD c h
      rw [List.map_cons, List.foldl_cons]
      by_cases e : s = x
      · subst e
        rw [ih _ (hD.put _ _) true (atKey_put_same hD (klit_key s) _ _)]
        have : Lib.containsS (s :: m) s = true := (Lib.containsS_iff _ _).2 (by simp)
        rw [this]; simp
      · rw [ih _ (hD.put _ _) c ((atKey_put_other (fun h => e (klit_inj h)) _ _).trans h)]
        have : Lib.containsS (x :: m) s = Lib.containsS m s := by
          rw [Bool.eq_iff_iff, Lib.containsS_iff, Lib.containsS_iff]; simp [e]
        rw [this]
  exact key l (.map []) isMap_empty false rfl
theorem plain_bool_inv {P : Program} {e : TypeId} (he : P.underlying e = some .bool) {v : Value} {z : DataW Unit × List MemPlace} (h : plainElem P e v = some z) : ∃ x, v = .bool x ∧ z.1 = .lit (.bool x) := by
  unfold plainElem at h
  rw [he] at h
  cases v <;> simp at h
  subst h
  exact ⟨_, rfl, rfl⟩
theorem Seen.lookup {w : World} {b : Nat} {l : List ByteArray} (h : Seen w b l) (s : ByteArray) (hs : s.size ≤ maxLen) {r : Bool} (hr : r = Lib.containsS l s) :
    (Instr.lookup 52 (.map (some b)) (.string s) false).run Tryd.prog w = .ok (.bool r) w := by
  obtain ⟨n, hn, h⟩ := h
  obtain ⟨v, ps, hrun, hv⟩ := h.lookup keyStr Tryd.underlying52 (z := .bool false) (by kernel_rfl) (plainElem_bool Tryd.underlying4 false) (key_str s hs)
  rw [setOf_at l s r hr] at hv
  obtain ⟨x, rfl, hx⟩ := plain_bool_inv Tryd.underlying4 hv
  simp only [DataW.lit.injEq, Lit.bool.injEq] at hx
  rw [hrun, hx]
theorem Seen.update {w : World} {b : Nat} {l : List ByteArray} (h : Seen w b l) (s : ByteArray) (hs : s.size ≤ maxLen) (hl : l.length < maxLen) :
    ∃ w', (Instr.mapUpdate 52 (.map (some b)) (.string s) (.bool true)).run Tryd.prog w = .ok () w' ∧ Seen w' b (l ++ [s]) ∧ w.grownBy w' (some b) := by
  obtain ⟨n, hn, h⟩ := h
  obtain ⟨w', hrun, ho, hg⟩ := h.update keyStr Tryd.underlying52 (by omega) (key_str s hs) (plainElem_bool Tryd.underlying4 true)
  refine ⟨w', hrun, ⟨n + 1, by simp; omega, ?_⟩, hg⟩
  rw [List.map_append, List.map_cons, List.map_nil, setOf_snoc]
  exact ho
theorem Box.grown {w w' : World} {g b : Nat} {cs : Array Value} {t : TypeId} (h : Box w g cs t) (hg : w.grownBy w' (some b)) (hne : g ≠ b) : Box w' g cs t := (hg.block g h.lt (by simpa using hne)).trans h

end Go.Proofs.YtbjcbndmafddoaaDoor

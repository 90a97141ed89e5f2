/-
  Contracts of txn.Set and of the reference's Set; the plain law: only the named value changes.
-/
import Derived.Test.YtbjcbndmafddoaaGreatDoorTxE
import Derived.Test.YtbjcbndmafddoaaGreatDoorTxnL
import Derived.Deep.Onto
import Derived.Deep.AppendLies
namespace Go.Proofs.YtbjcbndmafddoaaGreatDoor
section
open Go.RowKit
set_option linter.unusedVariables false
set_option linter.unusedSimpArgs false

/-- A transaction with another value of a name, or the error. -/
def setT (ns : List ByteArray) (zs : List Int) (s : ByteArray) (v : Int) : List ByteArray × List Int × Int :=
  if txV ns zs = false then ([], [], 1) else if Lib.idxOfS ns s < 0 then ([], [], 7) else if wordB v = false then ([], [], 3) else (ns, zs.set (Lib.idxOfS ns s).toNat v, 0)
theorem set_ways (ns : List ByteArray) (zs : List Int) (s : ByteArray) (v : Int) : (txV ns zs = false ∧ setT ns zs s v = ([], [], 1)) ∨ (txV ns zs = true ∧ Lib.idxOfS ns s < 0 ∧ setT ns zs s v = ([], [], 7)) ∨
    (txV ns zs = true ∧ 0 ≤ Lib.idxOfS ns s ∧ wordB v = false ∧ setT ns zs s v = ([], [], 3)) ∨ ∃ k : Nat, txV ns zs = true ∧ Lib.idxOfS ns s = k ∧ k < ns.length ∧ k < zs.length ∧ wordB v = true ∧ setT ns zs s v = (ns, zs.set k v, 0) := by
  unfold setT
  cases h1 : txV ns zs
  · left; simp
  · right
    by_cases h2 : Lib.idxOfS ns s < 0
    · left; simp [h2]
    · right
      cases h3 : wordB v
      · left; simp [h2]; omega
      · right
        have hb := idx_bd ns s
        have hl := (txv_parts h1).1
        refine ⟨(Lib.idxOfS ns s).toNat, rfl, by omega, by omega, by omega, rfl, ?_⟩
        simp [h2]
theorem txv_set {ns : List ByteArray} {zs : List Int} {k : Nat} {v : Int} (h : txV ns zs = true) (hv : wordB v = true) : txV ns (zs.set k v) = true := by
  obtain ⟨a, b, c, d, e⟩ := txv_parts h
  refine decide_eq_true ⟨by simpa using a, b, c, d, fun z hz => ?_⟩
  rcases List.mem_or_eq_of_mem_set hz with hz | rfl
  · exact e z hz
  · exact hv
theorem name_place {ns : List ByteArray} {zs : List Int} {s : ByteArray} {k i : Nat} (h : txV ns zs = true) (hk : Lib.idxOfS ns s = k) (hi : i < ns.length) : ns.getD i ⟨#[]⟩ = s ↔ i = k := by
  obtain ⟨_, _, c, d, _⟩ := txv_parts h
  have h1 : Lib.idxOfS ns (ns.getD i ⟨#[]⟩) = i := (idx_self hi).2 fun hm => dif_dup hi hm ⟨c, d⟩
  constructor
  · intro e; rw [e, hk] at h1; omega
  · rintro rfl; exact (idx_at hk).2.1
theorem set_getD (zs : List Int) (k i : Nat) (v : Int) (hi : i < zs.length) : (zs.set k v).getD i 0 = if i = k then v else zs.getD i 0 := by
  simp only [List.getD_eq_getElem?_getD, List.getElem?_set]
  by_cases e : k = i
  · subst e; simp [hi]
  · rw [if_neg e, if_neg (fun h => e h.symm)]
end
open Go.RowKit
set_option linter.unusedVariables false
set_option linter.unusedSimpArgs false

/-- A fresh operation that hands back a row of the call's own. -/
def fOwn (j : Nat) (D : List Nat) (B : Nat) (T : TypeId) (n : Nat) (xs : List Value) : FOp := ⟨j, D, fun v => ∃ A c, v = .slice A n c, fun v w => w.ownsRow B T 1 v n xs⟩
theorem fOwn_st (j : Nat) (D : List Nat) (B : Nat) (T : TypeId) (n : Nat) (xs : List Value) : ∀ v w w', (fOwn j D B T n xs).Φ v w → Below w.heap.size w w' → (fOwn j D B T n xs).Φ v w' := fun v w w' h hb => own_below h hb
theorem fOwn_kn (j : Nat) (D : List Nat) (B : Nat) (T : TypeId) (n : Nat) (xs : List Value) : (∀ u w, (fOwn j D B T n xs).Φ u w → (fOwn j D B T n xs).S u) ∧ ∃ u, (fOwn j D B T n xs).S u := ⟨fun u w h => by
  rcases h.2 with ⟨rfl, rfl⟩ | ⟨g, cap, cur, rfl, _⟩
  · exact ⟨none, 0, rfl⟩
  · exact ⟨_, cap, rfl⟩, .slice none n 0, none, 0, rfl⟩
/-- A transaction in new memory. -/
def COPY (w : World) (ns : List ByteArray) (zs : List Int) (e : Ending) (w' : World) : Prop :=
  ∃ v1 v2, e = .returned (.agg #[v1, v2]) ∧ (w'.ownsRow w.heap.size 9 1 v1 ns.length (scells ns) ∧ w'.ownsRow w.heap.size 3 1 v2 zs.length (icells zs) ∧ Below w.heap.size w w')

theorem below_r2 {w w4 : World} (h : Below w.heap.size w w4) (a b : Value) : Below w.heap.size w ((w4.setCell ⟨w.heap.size + 1, 0, none⟩ a).setCell ⟨w.heap.size + 1, 1, none⟩ b) :=
  (h.setCell (p := ⟨w.heap.size + 1, 0, none⟩) (Nat.le_succ _) a).setCell (p := ⟨w.heap.size + 1, 1, none⟩) (Nat.le_succ _) b
theorem own_slice {w : World} {base : Nat} {e : TypeId} {size : Nat} {v : Value} {n : Nat} {xs : List Value} (h : w.ownsRow base e size v n xs) : ∃ A c, v = .slice A n c := by
  rcases h.2 with ⟨rfl, rfl⟩ | ⟨g, cap, cur, rfl, _⟩
  · exact ⟨none, 0, rfl⟩
  · exact ⟨_, cap, rfl⟩
theorem icells_set (zs : List Int) (k : Nat) (v : Int) : icells (zs.set k v) = (icells zs).set k (.int .i64 v) := by simp [icells, List.map_set]

end Go.Proofs.YtbjcbndmafddoaaGreatDoor

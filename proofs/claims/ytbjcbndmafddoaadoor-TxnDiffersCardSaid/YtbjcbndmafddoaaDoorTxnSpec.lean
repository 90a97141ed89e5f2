/-
  Transactions in plain Lean: which are valid; places in lists. No program in sight.
-/
import Derived.Test.YtbjcbndmafddoaaDoorNameSpec
namespace Go.Proofs.YtbjcbndmafddoaaDoor
open Go.RowKit
set_option linter.unusedVariables false

def wordB (z : Int) : Bool := decide (0 ≤ z ∧ z ≤ 65535)
/-- A valid transaction. -/
def TxV (ns : List ByteArray) (zs : List Int) : Prop := ns.length = zs.length ∧ ns.length ≤ 128 ∧ ns.Nodup ∧ (∀ s ∈ ns, varB s = true) ∧ ∀ z ∈ zs, wordB z = true
instance (ns : List ByteArray) (zs : List Int) : Decidable (TxV ns zs) := by unfold TxV; infer_instance
def txV (ns : List ByteArray) (zs : List Int) : Bool := decide (TxV ns zs)
/-- Different variable names. -/
def Dif (ns : List ByteArray) : Prop := ns.Nodup ∧ ∀ s ∈ ns, varB s = true
instance (ns : List ByteArray) : Decidable (Dif ns) := by unfold Dif; infer_instance

theorem getD_mem {α : Type} {l : List α} {k : Nat} (d : α) (h : k < l.length) : l.getD k d ∈ l := by
  rw [List.getD_eq_getElem?_getD, List.getElem?_eq_getElem h]; exact List.getElem_mem h
theorem take_snocD {α : Type} (l : List α) (k : Nat) (d : α) (h : k < l.length) : l.take (k + 1) = l.take k ++ [l.getD k d] := by
  rw [List.take_succ_eq_append_getElem h, List.getD_eq_getElem?_getD, List.getElem?_eq_getElem h]; rfl
theorem nodup_take {α : Type} {l : List α} (h : l.Nodup) (k : Nat) : (l.take k).Nodup := h.sublist (List.take_sublist _ _)
/-- What holds of the first k names and values. -/
def Fst (ns : List ByteArray) (k : Nat) : Prop := (ns.take k).Nodup ∧ ∀ j, j < k → varB (ns.getD j ⟨#[]⟩) = true
theorem fst_zero (ns : List ByteArray) : Fst ns 0 := ⟨by simp, fun j h => by omega⟩
theorem fst_step {ns : List ByteArray} {k : Nat} (h : Fst ns k) (hk : k < ns.length) (h1 : ns.getD k ⟨#[]⟩ ∉ ns.take k) (h2 : varB (ns.getD k ⟨#[]⟩) = true) : Fst ns (k + 1) := by
  refine ⟨?_, fun j hj => ?_⟩
  · rw [take_snocD ns k ⟨#[]⟩ hk, List.nodup_append]
    refine ⟨h.1, by simp, fun a ha b hb e => ?_⟩
    rw [List.mem_singleton.1 hb] at e
    exact h1 (e ▸ ha)
  · by_cases e : j = k
    · rw [e]; exact h2
    · exact h.2 j (by omega)
theorem fst_all {ns : List ByteArray} (h : Fst ns ns.length) : Dif ns := by
  refine ⟨by have := h.1; rwa [List.take_length] at this, fun s hs => ?_⟩
  obtain ⟨j, hj, rfl⟩ := List.mem_iff_getElem.1 hs
  have := h.2 j hj
  rwa [List.getD_eq_getElem?_getD, List.getElem?_eq_getElem hj] at this
theorem dif_dup {ns : List ByteArray} {k : Nat} (hk : k < ns.length) (h : ns.getD k ⟨#[]⟩ ∈ ns.take k) : ¬ Dif ns := fun hd => by
  have := nodup_take hd.1 (k + 1)
  rw [take_snocD ns k ⟨#[]⟩ hk, List.nodup_append] at this
  exact this.2.2 _ h _ (by simp) rfl
theorem dif_bad {ns : List ByteArray} {k : Nat} (hk : k < ns.length) (h : varB (ns.getD k ⟨#[]⟩) = false) : ¬ Dif ns := fun hd => by
  rw [hd.2 _ (getD_mem _ hk)] at h; cases h
theorem txv_iff {ns : List ByteArray} {zs : List Int} : TxV ns zs ↔ ns.length = zs.length ∧ ns.length ≤ 128 ∧ Dif ns ∧ ∀ z ∈ zs, wordB z = true := by
  unfold TxV Dif; constructor
  · rintro ⟨a, b, c, d, e⟩; exact ⟨a, b, ⟨c, d⟩, e⟩
  · rintro ⟨a, b, ⟨c, d⟩, e⟩; exact ⟨a, b, c, d, e⟩
theorem all_getD {zs : List Int} (h : ∀ j, j < zs.length → wordB (zs.getD j 0) = true) : ∀ z ∈ zs, wordB z = true := fun z hz => by
  obtain ⟨j, hj, rfl⟩ := List.mem_iff_getElem.1 hz
  have := h j hj
  rwa [List.getD_eq_getElem?_getD, List.getElem?_eq_getElem hj] at this
theorem word_bad {zs : List Int} {k : Nat} (hk : k < zs.length) (h : wordB (zs.getD k 0) = false) : ¬ ∀ z ∈ zs, wordB z = true := fun ha => by
  rw [ha _ (getD_mem _ hk)] at h; cases h

/-! Places. -/
theorem idx_bd (l : List ByteArray) (s : ByteArray) : -1 ≤ Lib.idxOfS l s ∧ Lib.idxOfS l s < l.length := by
  have key : ∀ (l : List ByteArray) (i : Nat), Lib.idxFromS l s i = -1 ∨ ((i : Int) ≤ Lib.idxFromS l s i ∧ Lib.idxFromS l s i < (i + l.length : Nat)) := by
    intro l
    induction l with
    | nil => intro i; left; rfl
    | cons z l ih =>
      intro i
      unfold Lib.idxFromS
      split
      · right; constructor <;> simp <;> omega
      · rcases ih (i + 1) with h | h
        · left; exact h
        · right; simp only [List.length_cons]; omega
  rcases key l 0 with h | h
  · unfold Lib.idxOfS; rw [h]; omega
  · unfold Lib.idxOfS; omega
theorem idx_hit {l : List ByteArray} {s : ByteArray} {k : Nat} (hk : k < l.length) (h : l.getD k ⟨#[]⟩ = s) (hne : ∀ j, j < k → l.getD j ⟨#[]⟩ ≠ s) : Lib.idxOfS l s = k := by
  have := Lib.idxOfS_hit l l.length k s hk (Nat.le_refl _) h hne
  rwa [List.take_length] at this
theorem idx_miss {l : List ByteArray} {s : ByteArray} (h : ∀ j, j < l.length → l.getD j ⟨#[]⟩ ≠ s) : Lib.idxOfS l s = -1 := by
  have := Lib.idxOfS_miss l l.length s h
  rwa [List.take_length] at this
theorem idx_mem {l : List ByteArray} {s : ByteArray} : 0 ≤ Lib.idxOfS l s ↔ s ∈ l := Lib.idxOfS_nonneg_iff l s
theorem idx_at {l : List ByteArray} {s : ByteArray} {k : Nat} (h : Lib.idxOfS l s = k) : k < l.length ∧ l.getD k ⟨#[]⟩ = s ∧ ∀ j, j < k → l.getD j ⟨#[]⟩ ≠ s := by
  have hm : s ∈ l := idx_mem.1 (by omega)
  have hb := idx_bd l s
  -- the first place
  have : ∃ i, i < l.length ∧ l.getD i ⟨#[]⟩ = s ∧ ∀ j, j < i → l.getD j ⟨#[]⟩ ≠ s := by
    obtain ⟨i, hi, he⟩ := List.mem_iff_getElem.1 hm
    have he' : l.getD i ⟨#[]⟩ = s := by rw [List.getD_eq_getElem?_getD, List.getElem?_eq_getElem hi]; exact he
    induction i using Nat.strongRecOn with
    | ind i ih =>
      by_cases hj : ∃ j, j < i ∧ l.getD j ⟨#[]⟩ = s
      · obtain ⟨j, hji, hje⟩ := hj
        have hjl : j < l.length := by omega
        exact ih j hji hjl (by rw [List.getD_eq_getElem?_getD, List.getElem?_eq_getElem hjl] at hje; exact hje) hje
      · exact ⟨i, hi, he', fun j hji e => hj ⟨j, hji, e⟩⟩
  obtain ⟨i, h1, h2, h3⟩ := this
  have := idx_hit h1 h2 h3
  obtain rfl : i = k := by omega
  exact ⟨h1, h2, h3⟩
/-- The first place of the k-th name is k just if it is not ahead of it. -/
theorem idx_self {l : List ByteArray} {k : Nat} (hk : k < l.length) : Lib.idxOfS l (l.getD k ⟨#[]⟩) = k ↔ l.getD k ⟨#[]⟩ ∉ l.take k := by
  constructor
  · intro h hm
    obtain ⟨j, hj, he⟩ := List.mem_iff_getElem.1 hm
    rw [List.length_take] at hj
    refine (idx_at h).2.2 j (by omega) ?_
    rw [List.getElem_take] at he
    rw [List.getD_eq_getElem?_getD, List.getElem?_eq_getElem (by omega)]; exact he
  · intro h
    refine idx_hit hk rfl fun j hj he => h ?_
    rw [← he]
    have hjl : j < l.length := by omega
    rw [List.getD_eq_getElem?_getD, List.getElem?_eq_getElem hjl]
    show l[j] ∈ _
    rw [List.mem_take_iff_getElem]
    exact ⟨j, by omega, rfl⟩
/-- The value of a name. -/
def getT (ns : List ByteArray) (zs : List Int) (s : ByteArray) : Int × Bool :=
  if Lib.idxOfS ns s < 0 ∨ (zs.length : Int) ≤ Lib.idxOfS ns s then (0, false) else (zs.getD (Lib.idxOfS ns s).toNat 0, true)

end Go.Proofs.YtbjcbndmafddoaaDoor

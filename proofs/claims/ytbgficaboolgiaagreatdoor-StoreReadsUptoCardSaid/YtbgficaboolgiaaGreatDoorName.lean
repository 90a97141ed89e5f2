/-
  The library's slices functions over slices that read as lists.
  Contracts of lexer and of its reference: names.
  Contracts of lexer and of its reference: words, keywords, names, variable names.
  Contracts of the references' names and variable names.
  Contracts of the reference's variable names.
-/
import Derived.Test.YtbgficaboolgiaaGreatDoorBase
import Derived.Test.YtbgficaboolgiaaGreatDoorShelf
import Derived.Test.YtbgficaboolgiaaGreatDoorNum
import Derived.Laws.RangeAny
import Derived.LoopTactic
namespace Go.Proofs.YtbgficaboolgiaaGreatDoor
section
open Go.RowKit
set_option linter.unusedVariables false

theorem cell_spot {w : World} {a : Addr} {v : Value} (h : w.cell? a = some v) : a.spot = none := by
  unfold World.cell? at h
  split at h
  · split at h
    · cases h
    · rename_i hs; simpa using hs
  · cases h
theorem add_none {b o : Nat} (j : Nat) : (⟨b, o, none⟩ : Addr).add j = ⟨b, o + j, none⟩ := by
  unfold Addr.add
  split
  · rename_i h; subst h; rfl
  · rfl
theorem add_zero (a : Addr) : a.add 0 = a := rfl
theorem RS.form {w : World} {a : Addr} {l : List ByteArray} (h : RS w a l) (hl : 0 < l.length) : ∃ b o, a = ⟨b, o, none⟩ ∧ b < w.heap.size ∧ ∀ j, j < l.length → w.cell? ⟨b, o + j, none⟩ = some (.string (l.getD j ⟨#[]⟩)) := by
  have h0 := cell_spot (h.cells 0 hl)
  obtain ⟨b, o, s⟩ := a
  rw [add_zero] at h0
  simp only at h0
  subst h0
  exact ⟨b, o, rfl, h.lt, fun j hj => by rw [← add_none]; exact h.cells j hj⟩
theorem IL.form {w : World} {v : Value} {l : List Int} (h : IL w v l) : (∃ A c, v = .slice A 0 c ∧ l = []) ∨ ∃ b o c, v = .slice (some ⟨b, o, none⟩) l.length c ∧ l.length ≤ c ∧ 0 < l.length ∧ b < w.heap.size ∧ ∀ j, j < l.length → w.cell? ⟨b, o + j, none⟩ = some (.int .i64 (l.getD j 0)) := by
  obtain ⟨A, c, rfl, hc, hs⟩ := h
  by_cases hl : l.length = 0
  · have : l = [] := List.eq_nil_of_length_eq_zero hl
    subst this
    exact .inl ⟨A, c, rfl, rfl⟩
  · obtain ⟨a, rfl, hlt, hcl⟩ := hs (by omega)
    have h0 := cell_spot (hcl 0 (by omega))
    obtain ⟨b, o, s⟩ := a
    rw [add_zero] at h0
    simp only at h0
    subst h0
    exact .inr ⟨b, o, c, rfl, hc, by omega, hlt, fun j hj => by rw [← add_none]; exact hcl j hj⟩
theorem SL.form {w : World} {v : Value} {l : List ByteArray} (h : SL w v l) : (∃ A c, v = .slice A 0 c ∧ l = []) ∨ ∃ b o c, v = .slice (some ⟨b, o, none⟩) l.length c ∧ l.length ≤ c ∧ 0 < l.length ∧ b < w.heap.size ∧ ∀ j, j < l.length → w.cell? ⟨b, o + j, none⟩ = some (.string (l.getD j ⟨#[]⟩)) := by
  obtain ⟨A, c, rfl, hc, hs⟩ := h
  by_cases hl : l.length = 0
  · have : l = [] := List.eq_nil_of_length_eq_zero hl
    subst this
    exact .inl ⟨A, c, rfl, rfl⟩
  · obtain ⟨a, rfl, hr⟩ := hs (by omega)
    obtain ⟨b, o, rfl, hlt, hcl⟩ := hr.form (by omega)
    exact .inr ⟨b, o, c, rfl, hc, by omega, hlt, hcl⟩

theorem owns_nil (w : World) (base : Nat) (e : TypeId) (size : Nat) : w.ownsRow base e size (.slice none 0 0) 0 [] := by
  refine ⟨by simp, .inl ⟨rfl, rfl⟩⟩
theorem slCloneS (w : World) (v : Value) (l : List ByteArray) (h : SL w v l) (hn : l.length * 16 ≤ 140737488355328) :
    Calls Tryz.prog 12 #[v] w fun e w' => ∃ v', e = .returned v' ∧ (w'.ownsRow w.heap.size 9 1 v' l.length (scells l) ∧ Below w.heap.size w w') := by
  rcases h.form with ⟨A, c, rfl, rfl⟩ | ⟨b, o, c, rfl, hc, hl, hlt, hcl⟩
  · cases A with
    | none => exact (Tryz.slices_Clone_string_nil 0 c w).mono fun e w' ⟨he, hw⟩ => ⟨_, he, by rw [hw]; exact ⟨owns_nil _ _ _ _, Below.refl _ _⟩⟩
    | some a => exact (Tryz.slices_Clone_string_zero a c w).mono fun e w' ⟨v', he, ho, _, hb⟩ => ⟨v', he, ho, hb⟩
  · refine (Tryz.slices_Clone_string b o l.length c l w (Nat.le_refl _) hn hcl).mono fun e w' ⟨v', he, ho, _, hb⟩ => ⟨v', he, ?_, hb⟩
    rw [List.take_length] at ho; exact ho

theorem indexByte_ix (b : UInt8) : ∀ l : List UInt8, Lib.indexByte l b = if ix b l < l.length then (ix b l : Int) else -1
  | [] => by simp [Lib.indexByte, ix]
  | x :: l => by
    unfold Lib.indexByte
    rw [indexByte_ix b l]
    have hle := ix_le (b := b) l
    by_cases e : x = b
    · simp [ix, e]
    · have e2 : (x == b) = false := by simpa using e
      simp only [e2, ix, if_neg e, List.length_cons, Bool.false_eq_true, if_false]
      by_cases h : ix b l < l.length
      · have h3 : ((ix b l : Int) == -1) = false := by
          have : ¬ (ix b l : Int) = -1 := by omega
          exact beq_false_of_ne this
        simp only [if_pos h, if_pos (show ix b l + 1 < l.length + 1 by omega), h3]
        simp
      · simp only [if_neg h, if_neg (show ¬ ix b l + 1 < l.length + 1 by omega)]
        rfl
end

section
open Go.RowKit
set_option linter.unusedVariables false
set_option linter.unusedSimpArgs false
end

section
open Go.RowKit
set_option linter.unusedVariables false
set_option linter.unusedSimpArgs false

theorem below_iter (w : World) (s : ByteArray) (p : Nat) : Below w.heap.size w (w.iter s p) := below_alloc w _
theorem wrd_step {s : ByteArray} {k : Nat} (h : ∀ j, j < k → innC (byt s j) = true) (hk : innC (byt s k) = true) : ∀ j, j < k + 1 → innC (byt s j) = true := fun j hj => by
  by_cases e : j = k
  · rw [e]; exact hk
  · exact h j (by omega)

theorem not_wrd {s : ByteArray} {k : Nat} (hk : k < s.size) (h : innC (byt s k) = false) : decide (Wrd s) = false :=
  decide_eq_false fun hw => by rw [hw.2.2 k hk] at h; cases h
theorem not_wrd0 {s : ByteArray} (h : lowC (byt s 0) = false) : decide (Wrd s) = false :=
  decide_eq_false fun hw => by rw [hw.2.1] at h; cases h
theorem high_no {c : Int} (h : 128 ≤ c) : lowC c = false ∧ innC c = false := by
  unfold lowC innC; exact ⟨decide_eq_false (by omega), decide_eq_false (by omega)⟩
theorem low_inn {c : Int} (h : lowC c = true) : innC c = true := by
  unfold lowC at h; unfold innC
  have := of_decide_eq_true h
  exact decide_eq_true (by omega)
theorem str_empty2 (d : ByteArray) : (d.toList.isEmpty = decide (d.size = 0)) ∧ ((!d.toList.isEmpty) = !decide (d.size = 0)) ∧ (d.toList = [] ↔ d.size = 0) := by
  have e : d.toList.isEmpty = decide (d.size = 0) := by
    rw [Lib.toList_data, Lib.size_eq]
    cases d.data.toList <;> simp
  refine ⟨e, by rw [e], ?_⟩
  rw [Lib.toList_data, Lib.size_eq]
  exact List.length_eq_zero_iff.symm

theorem ba_empty (s : ByteArray) : s = ByteArray.empty ↔ s.size = 0 := by
  constructor
  · intro h; rw [h]; rfl
  · intro h
    refine ba_eq ?_
    rw [Lib.size_eq] at h
    rw [List.eq_nil_of_length_eq_zero h]; rfl
end

section
open Go.RowKit
set_option linter.unusedVariables false
set_option linter.unusedSimpArgs false

theorem str_ne {a b : ByteArray} (h : a ≠ b) : (a.toList == b.toList) = false ∧ (a.toList != b.toList) = true := by
  have h2 : (a.toList == b.toList) = false := by
    have : ¬ a.toList = b.toList := fun e => h (by
      have e2 : a.data.toList = b.data.toList := by rw [← Lib.toList_data, ← Lib.toList_data]; exact e
      exact ba_eq e2)
    simpa using this
  exact ⟨h2, by simp [bne, h2]⟩
theorem SL.of_box {w : World} {g : Nat} {cs : Array Value} {t : TypeId} (h : Box w g cs t) (l : List ByteArray) (c : Nat) (hl : l.length ≤ c) (hcs : cs.toList = scells l) : SL w (.slice (some ⟨g, 0, none⟩) l.length c) l := by
  refine ⟨some ⟨g, 0, none⟩, c, rfl, hl, fun hp => ⟨_, rfl, ⟨h.lt, fun j hj => ?_⟩⟩⟩
  rw [add_none, Nat.zero_add]
  refine h.at_ j _ ?_
  rw [← Array.getElem?_toList, hcs]
  simp [scells, List.getD_eq_getElem?_getD, List.getElem?_eq_getElem hj]

theorem contains_hit {l : List ByteArray} {s : ByteArray} {k : Nat} (hk : k < l.length) (h : l.getD k ⟨#[]⟩ = s) : Lib.containsS l s = true := by
  rw [Lib.containsS_iff, ← h, List.getD_eq_getElem?_getD, List.getElem?_eq_getElem hk]
  exact List.getElem_mem hk
theorem contains_miss {l : List ByteArray} {s : ByteArray} (h : ∀ j, j < l.length → l.getD j ⟨#[]⟩ ≠ s) : Lib.containsS l s = false := by
  cases hc : Lib.containsS l s
  · rfl
  · obtain ⟨j, hj, he⟩ := List.mem_iff_getElem.1 ((Lib.containsS_iff _ _).1 hc)
    exact absurd (by rw [List.getD_eq_getElem?_getD, List.getElem?_eq_getElem hj]; exact he) (h j hj)

theorem name_no {s : ByteArray} {k : Nat} (hk : k < s.size) (h : innC (byt s k) = false) : nameB s = false := by
  cases hn : nameB s
  · rfl
  · have := (nameB_iff.1 hn).1.2.2 k hk; rw [h] at this; cases this
end

section
open Go.RowKit
set_option linter.unusedVariables false
set_option linter.unusedSimpArgs false

/-- What Split says, its third result. -/
def SPT (w : World) (s : ByteArray) (e : Ending) (w' : World) : Prop := ∃ (a : ByteArray) (i : Int), e = .returned (.tuple #[.string a, .int .i64 i, .bool (decide (Elt s))]) ∧ Below w.heap.size w w'
theorem SPT.mk {w w' : World} {s : ByteArray} {a : ByteArray} {i : Int} {b : Bool} (h : b = decide (Elt s)) (hb : Below w.heap.size w w') : SPT w s (.returned (.tuple #[.string a, .int .i64 i, .bool b])) w' := ⟨a, i, by rw [h], hb⟩
end
end Go.Proofs.YtbgficaboolgiaaGreatDoor

/-
  The library's slices functions over slices that read as lists.
-/
import Derived.Test.YtbjcbndmafddoaaDoorSlices
import Derived.Test.YtbjcbndmafddoaaDoorShelf
import Derived.Test.YtbjcbndmafddoaaDoorNameSpec
import Derived.Test.YtbjcbndmafddoaaDoorShape
namespace Go.Proofs.YtbjcbndmafddoaaDoor
open Go.RowKit
set_option linter.unusedVariables false

theorem cell_spot {w : World} {a : Addr} {v : Value} (h : w.cell? a = some v) : a.spot = none := by
  unfold World.cell? at h
  split at h
  · split at h
    · cases h
    · rename_i hs; simpa using hs
  · cases h
theorem add_none {b o : Nat} (j : Nat) : (⟨b, o, none⟩ : Addr).add j = ⟨b, o + j, none⟩ := by
  unfold Addr.add
  split
  · rename_i h; subst h; rfl
  · rfl
theorem add_zero (a : Addr) : a.add 0 = a := rfl
theorem RS.form {w : World} {a : Addr} {l : List ByteArray} (h : RS w a l) (hl : 0 < l.length) : ∃ b o, a = ⟨b, o, none⟩ ∧ b < w.heap.size ∧ ∀ j, j < l.length → w.cell? ⟨b, o + j, none⟩ = some (.string (l.getD j ⟨#[]⟩)) := by
  have h0 := cell_spot (h.cells 0 hl)
  obtain ⟨b, o, s⟩ := a
  rw [add_zero] at h0
  simp only at h0
  subst h0
  exact ⟨b, o, rfl, h.lt, fun j hj => by rw [← add_none]; exact h.cells j hj⟩
theorem IL.form {w : World} {v : Value} {l : List Int} (h : IL w v l) : (∃ A c, v = .slice A 0 c ∧ l = []) ∨ ∃ b o c, v = .slice (some ⟨b, o, none⟩) l.length c ∧ l.length ≤ c ∧ 0 < l.length ∧ b < w.heap.size ∧ ∀ j, j < l.length → w.cell? ⟨b, o + j, none⟩ = some (.int .i64 (l.getD j 0)) := by
  obtain ⟨A, c, rfl, hc, hs⟩ := h
  by_cases hl : l.length = 0
  · have : l = [] := List.eq_nil_of_length_eq_zero hl
    subst this
    exact .inl ⟨A, c, rfl, rfl⟩
  · obtain ⟨a, rfl, hlt, hcl⟩ := hs (by omega)
    have h0 := cell_spot (hcl 0 (by omega))
    obtain ⟨b, o, s⟩ := a
    rw [add_zero] at h0
    simp only at h0
    subst h0
    exact .inr ⟨b, o, c, rfl, hc, by omega, hlt, fun j hj => by rw [← add_none]; exact hcl j hj⟩
theorem SL.form {w : World} {v : Value} {l : List ByteArray} (h : SL w v l) : (∃ A c, v = .slice A 0 c ∧ l = []) ∨ ∃ b o c, v = .slice (some ⟨b, o, none⟩) l.length c ∧ l.length ≤ c ∧ 0 < l.length ∧ b < w.heap.size ∧ ∀ j, j < l.length → w.cell? ⟨b, o + j, none⟩ = some (.string (l.getD j ⟨#[]⟩)) := by
  obtain ⟨A, c, rfl, hc, hs⟩ := h
  by_cases hl : l.length = 0
  · have : l = [] := List.eq_nil_of_length_eq_zero hl
    subst this
    exact .inl ⟨A, c, rfl, rfl⟩
  · obtain ⟨a, rfl, hr⟩ := hs (by omega)
    obtain ⟨b, o, rfl, hlt, hcl⟩ := hr.form (by omega)
    exact .inr ⟨b, o, c, rfl, hc, by omega, hlt, hcl⟩

theorem slIndex (w : World) (v : Value) (l : List ByteArray) (x : ByteArray) (h : SL w v l) (hn : l.length ≤ 9223372036854775807) :
    Calls Tryd.prog 32 #[v, .string x] w fun e w' => e = .returned (.int .i64 (Lib.idxOfS l x)) ∧ w = w' := by
  rcases h.form with ⟨A, c, rfl, rfl⟩ | ⟨b, o, c, rfl, hc, hl, hlt, hcl⟩
  · exact (Tryd.slices_Index_string_empty A c x w).mono fun e w' ⟨he, hw⟩ => ⟨he, hw.symm⟩
  · refine (Tryd.slices_Index_string b o l.length c l x w (Nat.le_refl _) hn hcl).mono fun e w' ⟨he, hw⟩ => ⟨?_, hw.symm⟩
    rw [he, List.take_length]

theorem slContains (w : World) (v : Value) (l : List ByteArray) (x : ByteArray) (h : SL w v l) (hn : l.length ≤ 9223372036854775807) :
    Calls Tryd.prog 34 #[v, .string x] w fun e w' => e = .returned (.bool (Lib.containsS l x)) ∧ w = w' := by
  rcases h.form with ⟨A, c, rfl, rfl⟩ | ⟨b, o, c, rfl, hc, hl, hlt, hcl⟩
  · exact (Tryd.slices_Contains_string_empty A c x w).mono fun e w' ⟨he, hw⟩ => ⟨he, hw.symm⟩
  · refine (Tryd.slices_Contains_string b o l.length c l x w (Nat.le_refl _) hn hcl).mono fun e w' ⟨he, hw⟩ => ⟨?_, hw.symm⟩
    rw [he, List.take_length]

theorem slEqualS (w : World) (v v2 : Value) (l m : List ByteArray) (h : SL w v l) (h2 : SL w v2 m) (hn : l.length ≤ 9223372036854775807) (hm : m.length ≤ 9223372036854775807) :
    Calls Tryd.prog 45 #[v, v2] w fun e w' => e = .returned (.bool (decide (l = m))) ∧ Below w.heap.size w w' := by
  rcases h.form with ⟨A, c, rfl, rfl⟩ | ⟨b, o, c, rfl, hc, hl, hlt, hcl⟩
  · obtain ⟨A2, c2, rfl, _, _⟩ := h2
    refine (Tryd.slices_Equal_string_empty A A2 c m.length c2 w hm).mono fun e w' ⟨he, hw⟩ => ⟨?_, by rw [hw]; exact Below.refl _ _⟩
    rw [he]; congr 2
    exact decide_eq_decide.2 ⟨fun h => (List.eq_nil_of_length_eq_zero h).symm, fun h => by rw [← h]; rfl⟩
  · rcases h2.form with ⟨A2, c2, rfl, rfl⟩ | ⟨b2, o2, c2, rfl, hc2, hl2, hlt2, hcl2⟩
    · refine (Tryd.slices_Equal_string_lens _ _ l.length c 0 c2 w (by omega)).mono fun e w' ⟨he, hw⟩ => ⟨?_, by rw [hw]; exact Below.refl _ _⟩
      rw [he, decide_eq_false (fun h => by rw [h] at hl; simp at hl)]
    · refine (Tryd.slices_Equal_string b o l.length c b2 o2 m.length c2 l m w (Nat.le_refl _) (Nat.le_refl _) hn hm hcl hcl2).mono fun e w' ⟨he, n, hw⟩ => ⟨?_, by rw [hw]; exact below_drewN (Below.refl _ _) n⟩
      rw [he, List.take_length, List.take_length]

theorem slEqualI (w : World) (v v2 : Value) (l m : List Int) (h : IL w v l) (h2 : IL w v2 m) (hn : l.length ≤ 9223372036854775807) (hm : m.length ≤ 9223372036854775807) :
    Calls Tryd.prog 46 #[v, v2] w fun e w' => e = .returned (.bool (decide (l = m))) ∧ Below w.heap.size w w' := by
  rcases h.form with ⟨A, c, rfl, rfl⟩ | ⟨b, o, c, rfl, hc, hl, hlt, hcl⟩
  · obtain ⟨A2, c2, rfl, _, _⟩ := h2
    refine (Tryd.slices_Equal_int_empty A A2 c m.length c2 w hm).mono fun e w' ⟨he, hw⟩ => ⟨?_, by rw [hw]; exact Below.refl _ _⟩
    rw [he]; congr 2
    exact decide_eq_decide.2 ⟨fun h => (List.eq_nil_of_length_eq_zero h).symm, fun h => by rw [← h]; rfl⟩
  · rcases h2.form with ⟨A2, c2, rfl, rfl⟩ | ⟨b2, o2, c2, rfl, hc2, hl2, hlt2, hcl2⟩
    · refine (Tryd.slices_Equal_int_lens _ _ l.length c 0 c2 w (by omega)).mono fun e w' ⟨he, hw⟩ => ⟨?_, by rw [hw]; exact Below.refl _ _⟩
      rw [he, decide_eq_false (fun h => by rw [h] at hl; simp at hl)]
    · refine (Tryd.slices_Equal_int b o l.length c b2 o2 m.length c2 l m w (Nat.le_refl _) (Nat.le_refl _) hn hm hcl hcl2).mono fun e w' ⟨he, n, hw⟩ => ⟨?_, by rw [hw]; exact below_drewN (Below.refl _ _) n⟩
      rw [he, List.take_length, List.take_length]
      congr 2
      rw [Bool.eq_iff_iff]; simp

theorem owns_nil (w : World) (base : Nat) (e : TypeId) (size : Nat) : w.ownsRow base e size (.slice none 0 0) 0 [] := by
  refine ⟨by simp, .inl ⟨rfl, rfl⟩⟩
theorem slCloneS (w : World) (v : Value) (l : List ByteArray) (h : SL w v l) (hn : l.length * 16 ≤ 140737488355328) :
    Calls Tryd.prog 64 #[v] w fun e w' => ∃ v', e = .returned v' ∧ (w'.ownsRow w.heap.size 9 1 v' l.length (scells l) ∧ Below w.heap.size w w') := by
  rcases h.form with ⟨A, c, rfl, rfl⟩ | ⟨b, o, c, rfl, hc, hl, hlt, hcl⟩
  · cases A with
    | none => exact (Tryd.slices_Clone_string_nil 0 c w).mono fun e w' ⟨he, hw⟩ => ⟨_, he, by rw [hw]; exact ⟨owns_nil _ _ _ _, Below.refl _ _⟩⟩
    | some a => exact (Tryd.slices_Clone_string_zero a c w).mono fun e w' ⟨v', he, ho, _, hb⟩ => ⟨v', he, ho, hb⟩
  · refine (Tryd.slices_Clone_string b o l.length c l w (Nat.le_refl _) hn hcl).mono fun e w' ⟨v', he, ho, _, hb⟩ => ⟨v', he, ?_, hb⟩
    rw [List.take_length] at ho; exact ho

theorem slCloneI (w : World) (v : Value) (l : List Int) (h : IL w v l) (hn : l.length * 8 ≤ 140737488355328) :
    Calls Tryd.prog 65 #[v] w fun e w' => ∃ v', e = .returned v' ∧ (w'.ownsRow w.heap.size 3 1 v' l.length (icells l) ∧ Below w.heap.size w w') := by
  rcases h.form with ⟨A, c, rfl, rfl⟩ | ⟨b, o, c, rfl, hc, hl, hlt, hcl⟩
  · cases A with
    | none => exact (Tryd.slices_Clone_int_nil 0 c w).mono fun e w' ⟨he, hw⟩ => ⟨_, he, by rw [hw]; exact ⟨owns_nil _ _ _ _, Below.refl _ _⟩⟩
    | some a => exact (Tryd.slices_Clone_int_zero a c w).mono fun e w' ⟨v', he, ho, _, hb⟩ => ⟨v', he, ho, hb⟩
  · refine (Tryd.slices_Clone_int b o l.length c l w (Nat.le_refl _) hn hcl).mono fun e w' ⟨v', he, ho, _, hb⟩ => ⟨v', he, ?_, hb⟩
    rw [List.take_length] at ho; exact ho

theorem cutAt (b : UInt8) (s : ByteArray) (w : World) (hs : s.size ≤ 2000000) (h : MLen w) :
    Calls Tryd.prog 58 #[.string s, .string ⟨#[b]⟩] w fun e w' => e = .returned (.tuple #[.string (preB b s), .string (posB b s), .bool (hasB b s)]) ∧ Below w.heap.size w w' := by
  obtain ⟨m, hm⟩ := h
  refine (Tryd.strings_Cut s ⟨#[b]⟩ m w (by omega) hm).mono fun e w' ⟨he, n, hw⟩ => ⟨?_, ?_⟩
  · rw [he, show (⟨#[b]⟩ : ByteArray).data.toList = [b] from rfl, cut_ix]; rfl
  · rw [hw]; exact below_drewN (Below.refl _ _) n

end Go.Proofs.YtbjcbndmafddoaaDoor

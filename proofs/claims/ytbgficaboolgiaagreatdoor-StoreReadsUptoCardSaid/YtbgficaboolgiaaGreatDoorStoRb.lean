/-
  Walk of StoreRoundTrips.
-/
import Derived.Test.YtbgficaboolgiaaGreatDoorStoRa
import Derived.Test.YtbgficaboolgiaaGreatDoorStoHb
import Derived.SliceStrings
namespace Go.Proofs.YtbgficaboolgiaaGreatDoor
open Go.RowKit Go.WideShapes Go.ChangeShapes Go.Deep
set_option linter.unusedVariables false
set_option linter.unusedSimpArgs false

section
variable {H : Type} {enc : TypeId × Value → H} {w : World} {base : Nat} {spare : Nat → Bool} {held : Bool}
theorem sl_of_trod2 {fuel : Nat} {c : Value} {x : DataW H × List MemPlace} (h : DataW.trod enc Tryz.prog w base spare held fuel 22 [c] = some x) :
    ∃ ns, SL w c ns ∧ ns.length ≤ 9223372036854775807 ∧ ∀ s ∈ ns, s.size ≤ 9223372036854775807 := by
  rcases ChangeShapes.open_strings Tryz.underlying22 Tryz.underlying9 (by kernel_rfl) h with ⟨h0, _⟩ | ⟨a, len, cap, ss, h0, _, hlc, hcm, hsl, _, hcell, hsz⟩
  · obtain rfl : c = .slice none 0 0 := by simpa using h0
    exact ⟨[], SL.nil w, by simp, by simp⟩
  · obtain rfl : c = .slice (some a) len cap := by simpa using h0
    have hle : len ≤ ss.length := by rw [hsl]; split <;> omega
    have hl : (ss.take len).length = len := by rw [List.length_take]; omega
    refine ⟨ss.take len, ⟨some a, cap, by rw [hl], by omega, fun hp => ⟨a, rfl, ?_, fun j hj => ?_⟩⟩, by rw [hl]; unfold maxLen at hcm; omega, fun s hs => hsz s (List.mem_of_mem_take hs)⟩
    · have := hcell 0 (by omega)
      have := World.block_lt_of_cell? _ _ this
      rwa [block_of_add] at this
    · rw [hcell j (by omega)]
      simp only [List.getD_eq_getElem?_getD]
      rw [List.getElem?_take_of_lt (by omega)]
      rfl
end
section
variable {H : Type} {enc : TypeId × Value → H} {W : World} {v : Value} {d : DataW H} {p : List MemPlace} {base : Nat}
set_option maxRecDepth 100000 in
theorem arg_sl (h : DataW.Trod enc Tryz.prog W 0 (fun _ => true) true 22 v d p) (hv : Value.okWide Tryz.prog W .any base 22 v) :
    ∃ ns, SL W v ns ∧ ns.length ≤ 9223372036854775807 ∧ ∀ s ∈ ns, s.size ≤ 9223372036854775807 := by
  obtain ⟨fuel, hf⟩ := h
  obtain ⟨A, m, c, rfl⟩ := okWide_slice Tryz.underlying22 hv
  exact sl_of_trod2 hf
end
set_option maxRecDepth 100000 in
theorem resz_of {r : Res} (h : stoB r = true) (hse : r.seed < 18446744073709551616) : ResZ r := by
  obtain ⟨⟨s1, s2, s3⟩, ⟨⟨n1, n1'⟩, ⟨n2, n2'⟩, n3, n3'⟩, l1, l2, ⟨n4, n4'⟩, n5, n5'⟩ := sto_parts h
  obtain ⟨a1, a2⟩ := lst_parts l1
  obtain ⟨b1, b2⟩ := lst_parts l2
  unfold ResZ maxLen I64
  exact ⟨by omega, by omega, by omega, hse, ⟨by omega, by omega⟩, ⟨by omega, by omega⟩, ⟨by omega, by omega⟩, ⟨by omega, by omega⟩, ⟨by omega, by omega⟩, ⟨by omega, fun c hc => by have := (a2 c hc).1; omega⟩, by omega, fun c hc => by have := (b2 c hc).1; omega⟩

end Go.Proofs.YtbgficaboolgiaaGreatDoor

/-
  Walk of the law TxnParses.
-/
import Derived.Test.YthpioaboekpjoaaDoorTxD
import Derived.Test.YthpioaboekpjoaaDoorTxE
namespace Go.Proofs.YthpioaboekpjoaaDoor
section
open Go.RowKit
set_option linter.unusedVariables false
set_option linter.unusedSimpArgs false

theorem part_back {x n : ByteArray} {v : Int} (h : partT x = (n, v, 0)) : (n ++ ⟨#[61]⟩) ++ fmtS v = x ∧ varB n = true ∧ wordB v = true := by
  rcases part_ways x with ⟨_, hr⟩ | ⟨_, _, hr⟩ | ⟨_, _, he, hr⟩ | ⟨_, _, _, _, hr⟩ | ⟨h1, h2, h3, h4, hr⟩
  · rw [hr] at h; simp at h
  · rw [hr] at h; simp at h
  · rw [hr] at h; simp at h; exact absurd h.2.2 he
  · rw [hr] at h; simp at h
  · rw [hr] at h
    simp only [Prod.mk.injEq, and_true] at h
    obtain ⟨rfl, rfl⟩ := h
    refine ⟨?_, h2, h4⟩
    rw [(fmt_par _ h3).1]
    have hp := ix_parts x.data.toList (of_decide_eq_true h1)
    apply ba_eq
    conv => rhs; rw [hp]
    have e1 : (preB 61 x).data.toList = x.data.toList.take (ix 61 x.data.toList) := by unfold preB; simp
    have e2 : (posB 61 x).data.toList = x.data.toList.drop (ix 61 x.data.toList + 1) := by unfold posB; simp
    rw [← e1, ← e2]
    simp
/-- Names, values and words of a run without an error. -/
theorem run_back : ∀ (l ns : List ByteArray) (zs : List Int) (ms : List ByteArray) (ys : List Int), prsRun l ns zs = (ms, ys, 0) → ns.length = zs.length → ns.Nodup → (∀ s ∈ ns, varB s = true) → (∀ z ∈ zs, wordB z = true) →
    ms.length = ys.length ∧ ms.length = ns.length + l.length ∧ ms.Nodup ∧ (∀ s ∈ ms, varB s = true) ∧ (∀ z ∈ ys, wordB z = true) ∧ (prs ms ys).map pstr = (prs ns zs).map pstr ++ l
  | [], ns, zs, ms, ys, h, hl, h1, h2, h3 => by
    rw [prs_nil] at h
    simp only [Prod.mk.injEq, and_true] at h
    obtain ⟨rfl, rfl⟩ := h
    exact ⟨hl, by simp, h1, h2, h3, by simp⟩
  | x :: l, ns, zs, ms, ys, h, hl, h1, h2, h3 => by
    by_cases he : (partT x).2.2 = 0
    · cases hd : Lib.containsS ns (partT x).1
      · rw [prs_go he hd] at h
        have hb := part_back (x := x) (n := (partT x).1) (v := (partT x).2.1) (by rw [← he])
        have hno : (partT x).1 ∉ ns := fun hm => by rw [(Lib.containsS_iff _ _).2 hm] at hd; cases hd
        obtain ⟨a, b, c, d, e, f⟩ := run_back l _ _ ms ys h (by simp [hl]) (by
          rw [List.nodup_append]
          exact ⟨h1, by simp, fun p hp q hq => by simp at hq; subst hq; exact fun hh => hno (hh ▸ hp)⟩) (fun s hs => by
          rcases List.mem_append.1 hs with hs | hs
          · exact h2 s hs
          · simp at hs; rw [hs]; exact hb.2.1) (fun z hz => by
          rcases List.mem_append.1 hz with hz | hz
          · exact h3 z hz
          · simp at hz; rw [hz]; exact hb.2.2)
        refine ⟨a, by rw [b]; simp; omega, c, d, e, ?_⟩
        rw [f]
        have : prs (ns ++ [(partT x).1]) (zs ++ [(partT x).2.1]) = prs ns zs ++ [((partT x).1, (partT x).2.1)] := by
          unfold prs; rw [List.zip_append hl]; rfl
        rw [this, List.map_append, List.append_assoc]
        congr 1
        show pstr ((partT x).1, (partT x).2.1) :: l = x :: l
        unfold pstr
        rw [hb.1]
      · rw [prs_dup he hd] at h
        simp at h
    · rw [prs_bad he] at h
      simp at h
      exact absurd h.2.2 he
theorem joinL_join (b : UInt8) : ∀ ps : List (List UInt8), Lib.join ps [b] = joinL b ps
  | [] => rfl
  | [p] => Lib.join_one p [b]
  | p :: q :: r => by
    rw [Lib.join_cons, joinL, ← joinL_join b (q :: r), Lib.join_cons]
    simp [Lib.joinTail]
theorem join_words (s : ByteArray) : joinP (words 32 s) = s.data.toList := by
  unfold joinP words
  rw [List.map_map, joinL_join]
  have : (List.map ((fun x => x.data.toList) ∘ mkB) (partsL 32 s.data.toList)) = partsL 32 s.data.toList := by
    conv => rhs; rw [← List.map_id (partsL 32 s.data.toList)]
    congr 1
  rw [this, join_parts]
/-- The text of what Parse gives. -/
theorem parse_back {s : ByteArray} {ns : List ByteArray} {zs : List Int} (h : parseT s = (ns, zs, 0)) : txV ns zs = true ∧ printT ns zs = s ∧ joinP ((prs ns zs).map pstr) = s.data.toList := by
  unfold parseT at h
  by_cases h0 : s.size = 0
  · rw [if_pos h0] at h
    simp only [Prod.mk.injEq, and_true] at h
    obtain ⟨rfl, rfl⟩ := h
    have hv : txV [] [] = true := by decide
    have hs : s.data.toList = [] := List.eq_nil_of_length_eq_zero (by rw [← Lib.size_eq]; exact h0)
    have hj : joinP ((prs [] []).map pstr) = s.data.toList := by rw [hs]; rfl
    exact ⟨hv, by unfold printT; rw [if_pos hv, hj], hj⟩
  · rw [if_neg h0] at h
    by_cases h1 : (prsRun (words 32 s) [] []).2.2 = 0 ∧ 128 < (prsRun (words 32 s) [] []).1.length
    · rw [if_pos h1] at h; simp at h
    · rw [if_neg h1] at h
      obtain ⟨a, b, c, d, e, f⟩ := run_back _ _ _ ns zs h rfl (by simp) (by simp) (by simp)
      rw [h] at h1
      have hv : txV ns zs = true := decide_eq_true ⟨a, by
        by_cases hh : 128 < ns.length
        · exact absurd ⟨rfl, hh⟩ h1
        · omega, c, d, e⟩
      have hj : joinP ((prs ns zs).map pstr) = s.data.toList := by rw [f, ← join_words]; rfl
      exact ⟨hv, by unfold printT; rw [if_pos hv, hj], hj⟩
end
open Go.RowKit
set_option linter.unusedVariables false
set_option linter.unusedSimpArgs false

end Go.Proofs.YthpioaboekpjoaaDoor

/-
  The text of a rational number: where its slash stands, and what it denotes. No program in sight.
-/
import Derived.Test.YtbaalbmchhgmnaaDoorRatK
import Derived.Test.YtbaalbmchhgmnaaDoorText
import Derived.Lib.IndexMore
import Derived.Lib.CutLaws
namespace Go.Proofs.YtbaalbmchhgmnaaDoor
open Go.RowKit
set_option linter.unusedVariables false

/-- Where the first slash stands, or the length. -/
def sl : List UInt8 → Nat
  | [] => 0
  | b :: l => if b = 47 then 0 else sl l + 1
theorem sl_le : ∀ l, sl l ≤ l.length
  | [] => Nat.le_refl _
  | b :: l => by unfold sl; have := sl_le l; split <;> simp <;> omega
theorem sl_at : ∀ l, sl l < l.length → l.getD (sl l) 0 = 47
  | [], h => absurd h (by simp)
  | b :: l, h => by
    unfold sl at h ⊢
    split
    · rename_i e; simpa using e
    · rename_i e; rw [if_neg e] at h; simp only [List.getD_cons_succ]; exact sl_at l (by simp at h; omega)
theorem sl_ne : ∀ l j, j < sl l → l.getD j 0 ≠ 47
  | [], j, h => absurd h (by simp [sl])
  | b :: l, j, h => by
    unfold sl at h
    split at h
    · omega
    · rename_i e
      cases j with
      | zero => simpa using e
      | succ j => simp only [List.getD_cons_succ]; exact sl_ne l j (by omega)
theorem sl_of : ∀ (l r : List UInt8), (∀ b ∈ l, b ≠ 47) → sl (l ++ 47 :: r) = l.length
  | [], r, _ => by simp [sl]
  | b :: l, r, h => by
    simp only [List.cons_append, sl, if_neg (h b (by simp)), List.length_cons]
    rw [sl_of l r fun x hx => h x (by simp [hx])]
theorem sl_none : ∀ (l : List UInt8), (∀ b ∈ l, b ≠ 47) → sl l = l.length
  | [], _ => rfl
  | b :: l, h => by
    simp only [sl, if_neg (h b (by simp)), List.length_cons]
    rw [sl_none l fun x hx => h x (by simp [hx])]
theorem index_sl : ∀ l : List UInt8, Lib.index l [47] = if sl l < l.length then (sl l : Int) else -1
  | [] => by simp [Lib.index, sl]
  | b :: l => by
    unfold Lib.index
    by_cases e : b = 47
    · subst e; simp [sl]
    · have h1 : ([47] : List UInt8).isPrefixOf (b :: l) = false := by simp [List.isPrefixOf]; exact fun h => absurd h.symm e
      rw [h1, index_sl l]
      simp only [sl, if_neg e, List.length_cons, Bool.false_eq_true, if_false]
      by_cases h : sl l < l.length
      · have h2 : sl l + 1 < l.length + 1 := by omega
        have h3 : ((sl l : Int) == -1) = false := by
          have : ¬ (sl l : Int) = -1 := by omega
          exact beq_false_of_ne this
        simp only [if_pos h, if_pos h2, h3]
        simp
      · have h2 : ¬ sl l + 1 < l.length + 1 := by omega
        simp only [if_neg h, if_neg h2]
        rfl
theorem cut_sl (l : List UInt8) : Lib.cut l [47] = if sl l < l.length then (l.take (sl l), l.drop (sl l + 1), true) else (l, [], false) := by
  unfold Lib.cut
  rw [index_sl]
  by_cases h : sl l < l.length
  · rw [if_pos h, if_pos h, if_pos (by omega)]; simp
  · rw [if_neg h, if_neg h, if_neg (by omega)]
/-- The text ahead of the slash, the text behind it. -/
def pPart (s : ByteArray) : ByteArray := ⟨(s.data.toList.take (sl s.data.toList)).toArray⟩
def qPart (s : ByteArray) : ByteArray := ⟨(s.data.toList.drop (sl s.data.toList + 1)).toArray⟩
def hasS (s : ByteArray) : Prop := sl s.data.toList < s.data.toList.length
instance (s : ByteArray) : Decidable (hasS s) := inferInstanceAs (Decidable (_ < _))
noncomputable def parD (s : ByteArray) : Int := if hasS s then parV (qPart s) else 1
noncomputable def parF (s : ByteArray) : Int := if hasS s then (if isNeg (qPart s) = true then 5 else parE (qPart s)) else 0
noncomputable def parR (s : ByteArray) : Int × Int × Int :=
  if parE (pPart s) = 5 ∨ parF s = 5 then (0, 0, 5) else if parE (pPart s) ≠ 0 ∨ parF s ≠ 0 then (0, 0, 3) else if ratFmt (parV (pPart s)) (parD s) = s then (parV (pPart s), parD s, 0) else (0, 0, 5)
theorem parR_fmt {s : ByteArray} {n d : Int} (h : parR s = (n, d, 0)) : ratFmt n d = s := by
  unfold parR at h
  split at h
  · simp at h
  · split at h
    · simp at h
    · split at h
      · rename_i e; simp only [Prod.mk.injEq] at h; rw [← h.1, ← h.2.1]; exact e
      · simp at h
theorem itoa_ne (n : Int) : ∀ b ∈ Lib.itoa n, b ≠ 47 := by
  intro b hb e
  subst e
  have hd : ∀ u, (47 : UInt8) ∈ Lib.decDigits u → False := fun u h => by
    have := (dec_ldig u 47 h).1
    exact absurd this (by decide)
  unfold Lib.itoa at hb
  split at hb
  · rcases List.mem_cons.1 hb with h | h
    · exact absurd h (by decide)
    · exact hd _ h
  · exact hd _ hb
theorem fmt_pos {d : Int} (h : 1 ≤ d) : isNeg (fmtS d) = false := by
  have e : (fmtS d).data.toList = Lib.decDigits d.toNat := by
    rw [fmtS_data]; unfold Lib.itoa; rw [if_neg (by omega)]
  unfold isNeg
  simp only [decide_eq_false_iff_not]
  rintro ⟨_, h⟩
  rw [byt_zero, e] at h
  match hd : Lib.decDigits d.toNat with
  | [] => exact dec_ne _ hd
  | x :: r =>
    have := dec_ldig d.toNat x (by rw [hd]; simp)
    rw [hd] at h
    simp at h
    omega
/-- The text of a number in lowest terms denotes that number. -/
theorem parR_of {n d : Int} (hn : I64 n) (hd : I64 d) (hv : ratV n d = true) : parR (ratFmt n d) = (n, d, 0) := by
  obtain ⟨h1, _⟩ := ratV_iff.1 hv
  obtain ⟨p1, p2⟩ := par_fmt n hn.1 hn.2
  obtain ⟨q1, q2⟩ := par_fmt d hd.1 hd.2
  by_cases e1 : d = 1
  · have hs : ratFmt n d = fmtS n := by unfold ratFmt; rw [if_pos hv, if_pos e1]
    have hl : sl (fmtS n).data.toList = (fmtS n).data.toList.length := by rw [fmtS_data]; exact sl_none _ (itoa_ne n)
    have hh : ¬ hasS (fmtS n) := by unfold hasS; omega
    have hp : pPart (fmtS n) = fmtS n := by
      unfold pPart; rw [hl, List.take_length]
    have a1 : parD (fmtS n) = 1 := by unfold parD; rw [if_neg hh]
    have a2 : parF (fmtS n) = 0 := by unfold parF; rw [if_neg hh]
    unfold parR
    rw [hs, hp, a1, a2, p1, p2, if_neg (by decide), if_neg (by decide), ← e1, if_pos hs]
  · have hs : ratFmt n d = fmtS n ++ ⟨#[47]⟩ ++ fmtS d := by unfold ratFmt; rw [if_pos hv, if_neg e1]
    have hda : (ratFmt n d).data.toList = Lib.itoa n ++ 47 :: Lib.itoa d := by
      rw [hs]; simp [fmtS_data]
    have hl : sl (ratFmt n d).data.toList = (Lib.itoa n).length := by rw [hda]; exact sl_of _ _ (itoa_ne n)
    have hh : hasS (ratFmt n d) := by unfold hasS; rw [hl, hda]; simp
    have hp : pPart (ratFmt n d) = fmtS n := by
      unfold pPart; rw [hl, hda, List.take_left']; rfl; rfl
    have hq : qPart (ratFmt n d) = fmtS d := by
      unfold qPart; rw [hl, hda]
      have : (Lib.itoa n ++ 47 :: Lib.itoa d).drop ((Lib.itoa n).length + 1) = Lib.itoa d := by
        rw [← List.drop_drop, List.drop_left' rfl]; rfl
      rw [this]; rfl
    have a1 : parD (ratFmt n d) = d := by unfold parD; rw [if_pos hh, hq, q1]
    have a2 : parF (ratFmt n d) = 0 := by unfold parF; rw [if_pos hh, hq, fmt_pos h1, if_neg (by decide), q2]
    unfold parR
    rw [hp, a1, a2, p1, p2, if_neg (by decide), if_neg (by decide), if_pos rfl]
theorem par_codes (s : ByteArray) : parE s = 0 ∨ parE s = 3 ∨ parE s = 5 := by
  by_cases h : badForm s
  · right; right; unfold parE; rw [if_pos h]
  · rw [(par_good h).2]; unfold cE; split <;> simp
theorem par_I64 (s : ByteArray) : I64 (parV s) := by
  by_cases h : badForm s
  · unfold parV; rw [if_pos h]; unfold I64; omega
  · rw [(par_good h).1]; unfold cV; split
    · rename_i hf; unfold fits at hf; simp at hf; exact hf
    · unfold I64; omega

end Go.Proofs.YtbaalbmchhgmnaaDoor

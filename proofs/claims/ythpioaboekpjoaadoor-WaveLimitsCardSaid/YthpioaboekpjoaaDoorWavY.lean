/-
  The text of a trace and what it denotes: each the inverse of the other. No walk here.
-/
import Derived.Test.YthpioaboekpjoaaDoorWavQ
import Derived.Test.YthpioaboekpjoaaDoorRtA
import Derived.Test.YthpioaboekpjoaaDoorTxnY
namespace Go.Proofs.YthpioaboekpjoaaDoor
section
open Go.RowKit
set_option linter.unusedVariables false
set_option linter.unusedSimpArgs false

theorem line_join (s : ByteArray) : joinP (lineW s) = s.data.toList := by
  unfold lineW
  by_cases h : s.size = 0
  · rw [if_pos h]
    rw [Lib.size_eq] at h
    rw [List.eq_nil_of_length_eq_zero h]; rfl
  · rw [if_neg h]; exact join_words s
theorem rowR_back : ∀ (l : List ByteArray) (ov : Bool) (acc : List Int), (rowR l ov acc).2 = 0 → (rowR l ov acc).1.map fmtS = acc.map fmtS ++ l
  | [], ov, acc, h => by
    have := (rowR_len [] ov acc h).2.2
    subst this
    unfold rowR; simp
  | s :: l, ov, acc, h => by
    have hq : rowR (s :: l) ov acc = if parE s = 5 then ([], 5) else rowR l (ov || decide (parE s ≠ 0) || !wordB (parV s)) (acc ++ [parV s]) := rfl
    rw [hq] at h ⊢
    split at h
    · cases h
    · rename_i h5
      rw [if_neg h5]
      have i3 := (rowR_len l _ _ h).2.2
      simp only [Bool.or_eq_false_iff, decide_eq_false_iff_not, Bool.not_eq_false', Decidable.not_not] at i3
      rw [rowR_back l _ _ h, List.map_append, List.append_assoc]
      show _ ++ (fmtS (parV s) :: l) = _
      rw [(fmt_par s i3.1.2).1]
theorem rowT_back {n : Nat} {s : ByteArray} (h : (rowT n s).2 = 0) : joinP ((rowT n s).1.map fmtS) = s.data.toList := by
  unfold rowT at h ⊢
  split at h
  · rename_i hl
    rw [if_pos hl, rowR_back _ _ _ h]
    exact line_join s
  · cases h
theorem rowsR_back (n : Nat) : ∀ (l : List ByteArray) (acc : List (List Int)), (rowsR n l acc).2 = 0 → (rowsR n l acc).1.map (fun r => joinP (r.map fmtS)) = acc.map (fun r => joinP (r.map fmtS)) ++ l.map (·.data.toList)
  | [], acc, h => by simp [rowsR]
  | s :: l, acc, h => by
    unfold rowsR at h ⊢
    split at h
    · cases h
    · rename_i h1
      rw [if_neg h1]
      split at h
      · rename_i h2
        rw [if_pos h2, rowsR_back n l _ h, List.map_append, List.append_assoc]
        show _ ++ (joinP ((rowT n s).1.map fmtS) :: _) = _
        rw [rowT_back h2]; rfl
      · rename_i h2; exact absurd h h2
theorem end_cut {s : ByteArray} (h : endB s = true) : s.data.toList = (cutS s).data.toList ++ [10] := by
  unfold endB Lib.hasSuffix at h
  have := List.isSuffixOf_iff_suffix.1 h
  obtain ⟨t, ht⟩ := this
  unfold cutS Lib.trimSuffix Lib.hasSuffix
  rw [if_pos h, ← ht]
  simp
theorem joinL_lines (b : UInt8) : ∀ (x : List UInt8) (xs : List (List UInt8)), joinL b (x :: xs) ++ [b] = (x ++ [b]) ++ xs.flatMap (fun p => p ++ [b])
  | x, [] => by simp [joinL]
  | x, y :: xs => by
    rw [joinL, List.append_assoc, List.cons_append, joinL_lines b y xs]
    simp
theorem printL_lines (ns : List ByteArray) (rs : List (List Int)) : printL ns rs = joinL 10 (joinP ns :: rs.map (fun r => joinP (r.map fmtS))) ++ [10] := by
  rw [joinL_lines]
  unfold printL lnW
  rw [List.flatMap_map]
/-- A text that denotes a trace is the text of the trace. -/
theorem parseW_back {s : ByteArray} (h : (parseW s).2.2 = 0) : printL (parseW s).1 (parseW s).2.1 = s.data.toList := by
  unfold parseW at h ⊢
  split at h
  · rename_i h1
    rw [if_pos h1]
    split at h
    · rename_i h2
      rw [if_pos h2]
      split at h
      · rename_i h3
        rw [if_pos h3]
        simp only
        rw [printL_lines, rowsR_back _ _ _ h3, line_join]
        conv => rhs; rw [end_cut h1, ← join_parts 10 (cutS s).data.toList]
        congr 2
        have hm : partsL 10 (cutS s).data.toList = (words 10 (cutS s)).map (·.data.toList) := by
          unfold words
          rw [List.map_map]
          conv => lhs; rw [← List.map_id (partsL 10 (cutS s).data.toList)]
          congr 1
        rw [hm]
        have hne := words_ne 10 (cutS s)
        generalize words 10 (cutS s) = W at hne ⊢
        cases W with
        | nil => exact absurd rfl hne
        | cons a r => rfl
      · rename_i h3; exact absurd h h3
    · rename_i h2; exact absurd h h2
  · cases h
theorem parseW_print {s : ByteArray} (h : (parseW s).2.2 = 0) : printW (parseW s).1 (parseW s).2.1 = s := by
  unfold printW
  rw [if_pos (show wvV _ _ = true from decide_eq_true (parseW_valid h))]
  exact ba_eq (by simp only []; rw [List.toList_toArray]; exact parseW_back h)

/-! The other way. -/
theorem joinP_no {l : List ByteArray} {b : UInt8} (hb : b ≠ 32) (h : ∀ s ∈ l, ∀ x ∈ s.data.toList, x ≠ b) : ∀ x ∈ joinP l, x ≠ b := by
  rw [joinP_joinL]
  have key : ∀ ps : List (List UInt8), (∀ p ∈ ps, ∀ x ∈ p, x ≠ b) → ∀ x ∈ joinL 32 ps, x ≠ b := by
    intro ps
    induction ps with
    | nil => intro _ x hx; simp [joinL] at hx
    | cons p r ih =>
      intro hp x hx
      cases r with
      | nil => exact hp p (by simp) x hx
      | cons q r =>
        rw [joinL] at hx
        rcases List.mem_append.1 hx with hx | hx
        · exact hp p (by simp) x hx
        · rcases List.mem_cons.1 hx with rfl | hx
          · exact fun e => hb e.symm
          · exact ih (fun p hp' => hp p (List.mem_cons_of_mem _ hp')) x hx
  exact key _ fun p hp => by
    obtain ⟨q, hq, rfl⟩ := List.mem_map.1 hp
    exact h q hq
theorem line_back {l : List ByteArray} (hn : ∀ s ∈ l, ∀ x ∈ s.data.toList, x ≠ 32) (hz : ∀ s ∈ l, 0 < s.size) : lineW (mkB (joinP l)) = l := by
  unfold lineW
  cases l with
  | nil => rfl
  | cons a r =>
    have h0 : ¬ (mkB (joinP (a :: r))).size = 0 := by
      have ha := hz a (by simp)
      rw [Lib.size_eq] at ha ⊢
      show ¬ ((joinP (a :: r)).toArray.toList).length = 0
      rw [List.toList_toArray, joinP_joinL, List.map_cons]
      cases r with
      | nil => simp only [List.map_nil, joinL]; omega
      | cons b r => simp only [List.map_cons, joinL, List.length_append, List.length_cons]; omega
    rw [if_neg h0]
    exact words_join (by simp) hn (by unfold mkB; rw [List.toList_toArray])
theorem fmt_pos (z : Int) (h : 0 ≤ z) : 0 < (fmtS z).size := by
  rcases Nat.eq_zero_or_pos (fmtS z).size with h0 | h0
  · have h1 : (fmtS z).data.toList = Lib.decDigits z.toNat := by
      unfold fmtS
      obtain ⟨n, rfl⟩ := Int.eq_ofNat_of_zero_le h
      rw [Lib.itoa_nonneg]; simp
    rw [Lib.size_eq, h1] at h0
    have h2 := List.eq_nil_of_length_eq_zero h0
    unfold Lib.decDigits at h2
    split at h2 <;> simp at h2
  · exact h0
theorem rowR_fwd : ∀ (r acc : List Int), (∀ z ∈ r, wordB z = true) → rowR (r.map fmtS) false acc = (acc ++ r, 0)
  | [], acc, _ => by simp [rowR]
  | z :: r, acc, h => by
    have hz := h z (by simp)
    have hw : 0 ≤ z ∧ z ≤ 65535 := of_decide_eq_true hz
    obtain ⟨p1, p2⟩ := par_fmt z (by omega) (by omega)
    rw [List.map_cons]
    unfold rowR
    rw [if_neg (by rw [p2]; decide), p1, p2, hz]
    have := rowR_fwd r (acc ++ [z]) (fun x hx => h x (by simp [hx]))
    simpa using this
theorem rowT_fwd {n : Nat} {r : List Int} (hl : r.length = n) (h : ∀ z ∈ r, wordB z = true) : rowT n (mkB (joinP (r.map fmtS))) = (r, 0) := by
  have hb : lineW (mkB (joinP (r.map fmtS))) = r.map fmtS := line_back (fun s hs => by
    obtain ⟨z, hz, rfl⟩ := List.mem_map.1 hs
    have hw : 0 ≤ z ∧ z ≤ 65535 := of_decide_eq_true (h z hz)
    exact fmt_ne hw.1 (by decide)) (fun s hs => by
    obtain ⟨z, hz, rfl⟩ := List.mem_map.1 hs
    have hw : 0 ≤ z ∧ z ≤ 65535 := of_decide_eq_true (h z hz)
    exact fmt_pos z hw.1)
  unfold rowT
  rw [hb, if_pos (by simpa using hl), rowR_fwd r [] h]
  rfl
theorem rowsR_fwd (n : Nat) : ∀ (rs acc : List (List Int)), acc.length + rs.length ≤ 4096 → (∀ r ∈ rs, r.length = n ∧ ∀ z ∈ r, wordB z = true) → rowsR n (rs.map fun r => mkB (joinP (r.map fmtS))) acc = (acc ++ rs, 0)
  | [], acc, _, _ => by simp [rowsR]
  | r :: rs, acc, hl, h => by
    have hr := h r (by simp)
    rw [List.length_cons] at hl
    rw [List.map_cons]
    unfold rowsR
    rw [if_neg (by omega), rowT_fwd hr.1 hr.2, if_pos rfl, rowsR_fwd n rs _ (by simp; omega) (fun x hx => h x (by simp [hx]))]
    simp
theorem var_pos {s : ByteArray} (h : varB s = true) : 0 < s.size := by
  unfold varB at h
  rw [Bool.or_eq_true] at h
  rcases h with h | h
  · have he : Elt s := of_decide_eq_true h
    have := he.1; omega
  · exact (nameB_iff.1 h).1.1
theorem var_size {s : ByteArray} (h : varB s = true) : s.size ≤ 19 := by
  unfold varB at h
  rw [Bool.or_eq_true] at h
  rcases h with h | h
  · have he : Elt s := of_decide_eq_true h
    obtain ⟨e1, e2, e3, e4, e5, e6⟩ := he
    have hw := (nameB_iff.1 e6).2.1
    have hsz : (s.extract 0 (s.size - 3)).size = s.size - 3 := by rw [Lib.size_eq, Lib.extract_data, List.length_take, List.length_drop, ← Lib.size_eq]; omega
    omega
  · have := (nameB_iff.1 h).2.1; omega
/-- The text of a valid trace denotes the trace. -/
theorem parse_printW {ns : List ByteArray} {rs : List (List Int)} (h : wvV ns rs = true) : parseW (printW ns rs) = (ns, rs, 0) := by
  have hv : WvV ns rs := of_decide_eq_true h
  obtain ⟨h1, h2, h3, h4⟩ := hv
  have hd : (printW ns rs).data.toList = joinL 10 (joinP ns :: rs.map (fun r => joinP (r.map fmtS))) ++ [10] := by
    unfold printW
    rw [if_pos h, List.toList_toArray, printL_lines]
  generalize printW ns rs = s at *
  have he : endB s = true := by
    unfold endB Lib.hasSuffix
    rw [hd]
    exact List.isSuffixOf_iff_suffix.2 (List.suffix_append _ _)
  have hc : (cutS s).data.toList = joinL 10 (joinP ns :: rs.map (fun r => joinP (r.map fmtS))) := by
    have := end_cut he
    rw [hd] at this
    exact (List.append_inj_left' this rfl).symm
  have hw : words 10 (cutS s) = mkB (joinP ns) :: rs.map (fun r => mkB (joinP (r.map fmtS))) := by
    unfold words
    rw [hc, partsL_join 10 _ (by simp) (fun p hp => by
      rcases List.mem_cons.1 hp with rfl | hp
      · exact joinP_no (by decide) fun s hs => var_ne (h3.2 s hs) (by decide) (by decide) (by decide)
      · obtain ⟨r, hr, rfl⟩ := List.mem_map.1 hp
        exact joinP_no (by decide) fun s hs => by
          obtain ⟨z, hz, rfl⟩ := List.mem_map.1 hs
          have hw : 0 ≤ z ∧ z ≤ 65535 := of_decide_eq_true ((h4 r hr).2 z hz)
          exact fmt_ne hw.1 (by decide))]
    simp [List.map_map, Function.comp_def]
  have hl : lineW (mkB (joinP ns)) = ns := line_back (fun s hs => var_ne (h3.2 s hs) (by decide) (by decide) (by decide)) (fun s hs => var_pos (h3.2 s hs))
  have hh : hdrT ns = 0 := (hdr_zero ns).2 ⟨h1, h3⟩
  have hr := rowsR_fwd ns.length rs [] (by simpa using h2) h4
  unfold parseW
  rw [if_pos he, hw]
  simp only [List.getD_cons_zero, List.tail_cons, hl, hh, hr, if_true, List.nil_append]
end

end Go.Proofs.YthpioaboekpjoaaDoor

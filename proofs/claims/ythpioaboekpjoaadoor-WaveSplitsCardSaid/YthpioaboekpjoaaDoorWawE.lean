/-
  The plain law of WaveSplits: parts of a trace, and the cycles in which a value changes. No walk here.
-/
import Derived.Test.YthpioaboekpjoaaDoorWavQ
namespace Go.Proofs.YthpioaboekpjoaaDoor
open Go.RowKit
set_option linter.unusedVariables false
set_option linter.unusedSimpArgs false

theorem wv_part {ns : List ByteArray} {rs ts : List (List Int)} (h : wvV ns rs = true) (hl : ts.length ≤ rs.length) (hm : ∀ r ∈ ts, r ∈ rs) : wvV ns ts = true := by
  obtain ⟨h1, h2, h3, h4⟩ := (of_decide_eq_true h : WvV ns rs)
  exact decide_eq_true ⟨h1, by omega, h3, fun r hr => h4 r (hm r hr)⟩
theorem cut_to {ns : List ByteArray} {rs : List (List Int)} (h : wvV ns rs = true) {k : Nat} (hk : k ≤ rs.length) : wcT ns rs 0 k = (ns, rs.take k, 0) := by
  unfold wcT
  rw [if_neg (by rw [h]; simp; omega)]
  simp
theorem cut_from {ns : List ByteArray} {rs : List (List Int)} (h : wvV ns rs = true) {k : Nat} (hk : k ≤ rs.length) : wcT ns rs k (rs.length : Nat) = (ns, rs.drop k, 0) := by
  unfold wcT
  rw [if_neg (by rw [h]; simp; omega)]
  simp
theorem parts_joinW {ns : List ByteArray} {rs : List (List Int)} (h : wvV ns rs = true) (k : Nat) : wjT ns (rs.take k) ns (rs.drop k) = (ns, rs, 0) := by
  have h1 := wv_part (ts := rs.take k) h (by rw [List.length_take]; omega) (fun r hr => List.mem_of_mem_take hr)
  have h2 := wv_part (ts := rs.drop k) h (by rw [List.length_drop]; omega) (fun r hr => List.mem_of_mem_drop hr)
  obtain ⟨g1, g2, g3, g4⟩ := (of_decide_eq_true h : WvV ns rs)
  unfold wjT
  rw [if_neg (by rw [h1, h2]; simp), if_neg (by simp), if_neg (by rw [← List.length_append, List.take_append_drop]; omega), List.take_append_drop]
/-- Names that are asked for without a fault. -/
theorem onlyE_ok (ns : List ByteArray) : ∀ (l pre : List ByteArray), onlyE ns pre l = 0 → pre.Nodup → (∀ s ∈ pre, 0 ≤ Lib.idxOfS ns s) → (pre ++ l).Nodup ∧ ∀ s ∈ pre ++ l, 0 ≤ Lib.idxOfS ns s
  | [], pre, _, h1, h2 => by simpa using ⟨h1, h2⟩
  | s :: l, pre, h, h1, h2 => by
    unfold onlyE at h
    split at h
    · cases h
    · rename_i g1
      split at h
      · cases h
      · rename_i g2
        have hno : s ∉ pre := fun hm => g2 ((Lib.containsS_iff _ _).2 hm)
        have := onlyE_ok ns l (pre ++ [s]) h (by
          rw [List.nodup_append]
          exact ⟨h1, by simp, fun p hp q hq => by simp at hq; subst hq; exact fun hh => hno (hh ▸ hp)⟩) (fun p hp => by
          rcases List.mem_append.1 hp with hp | hp
          · exact h2 p hp
          · simp at hp; rw [hp]; omega)
        rwa [List.append_assoc] at this
theorem nodup_sub_len {α : Type} [DecidableEq α] : ∀ (l m : List α), l.Nodup → (∀ x ∈ l, x ∈ m) → l.length ≤ m.length
  | [], m, _, _ => Nat.zero_le _
  | a :: l, m, hn, hs => by
    have ha := hs a (by simp)
    rw [List.nodup_cons] at hn
    have h1 := nodup_sub_len l (m.erase a) hn.2 (fun x hx => (List.mem_erase_of_ne (fun e => hn.1 (by rw [← e]; exact hx))).2 (hs x (List.mem_cons_of_mem _ hx)))
    rw [List.length_erase_of_mem ha] at h1
    have := List.length_pos_of_mem ha
    simp only [List.length_cons]; omega
theorem only_two (ns l : List ByteArray) (rs : List (List Int)) (h : wvV ns rs = true) : (woT ns rs l).2.2 ≠ 0 ∨ (onlyE ns [] l = 0 ∧ woT ns rs l = (l, rs.map (pick ns l), 0)) := by
  unfold woT
  rw [if_neg (by rw [h]; decide)]
  by_cases h0 : onlyE ns [] l = 0
  · right; exact ⟨h0, by rw [if_neg (by rw [h0]; simp)]⟩
  · left; rw [if_pos h0]; exact h0
theorem only_val {ns l : List ByteArray} {rs : List (List Int)} (h : wvV ns rs = true) (h0 : onlyE ns [] l = 0) : woT ns rs l = (l, rs.map (pick ns l), 0) := by
  rcases only_two ns l rs h with h1 | ⟨_, h1⟩
  · unfold woT at h1
    rw [if_neg (by rw [h]; decide), if_neg (by rw [h0]; simp)] at h1
    exact absurd rfl h1
  · exact h1
theorem only_valid {ns l : List ByteArray} {rs : List (List Int)} (h : wvV ns rs = true) (h0 : onlyE ns [] l = 0) : wvV l (rs.map (pick ns l)) = true := by
  obtain ⟨h1, h2, h3, h4⟩ := (of_decide_eq_true h : WvV ns rs)
  obtain ⟨g1, g2⟩ := onlyE_ok ns l [] h0 (by simp) (by simp)
  rw [List.nil_append] at g1 g2
  have hsub : ∀ s ∈ l, s ∈ ns := fun s hs => idx_mem.1 (g2 s hs)
  have hlen := nodup_sub_len l ns g1 hsub
  refine decide_eq_true ⟨by omega, by rw [List.length_map]; exact h2, ⟨g1, fun s hs => h3.2 s (hsub s hs)⟩, fun r hr => ?_⟩
  obtain ⟨r0, hr0, rfl⟩ := List.mem_map.1 hr
  refine ⟨by unfold pick; simp, fun z hz => ?_⟩
  obtain ⟨s, hs, rfl⟩ := List.mem_map.1 hz
  have hi := idx_bd ns s
  have hj := g2 s hs
  exact (h4 r0 hr0).2 _ (getD_mem 0 (by rw [(h4 r0 hr0).1]; omega))
/-! Changes. -/
theorem filt_split (f : Nat → Bool) {M t : Nat} (ht : t < M) : (List.range M).filter f = (List.range t).filter f ++ ((List.range (M - t)).map (t + ·)).filter f := by
  rw [← List.filter_append, ← List.range_add]
  congr 2; omega
theorem filt_le (f : Nat → Bool) {M t : Nat} (ht : t ≤ M) : ((List.range t).filter f).length ≤ ((List.range M).filter f).length := by
  rcases Nat.lt_or_ge t M with h | h
  · rw [filt_split f h, List.length_append]; omega
  · have : t = M := by omega
    rw [this]; exact Nat.le_refl _
theorem filt_hit (f : Nat → Bool) {M t : Nat} (ht : t < M) (h : f t = true) : ((List.range t).filter f).length < ((List.range M).filter f).length ∧ ((List.range M).filter f).getD ((List.range t).filter f).length 0 = t := by
  obtain ⟨m, hm⟩ : ∃ m, M - t = m + 1 := ⟨M - t - 1, by omega⟩
  rw [filt_split f ht, hm, List.range_succ_eq_map, List.map_cons, List.filter_cons, if_pos (by simpa using h), List.length_append]
  refine ⟨by simp, ?_⟩
  rw [List.getD_eq_getElem?_getD, List.getElem?_append_right (Nat.le_refl _)]
  simp
theorem filt_miss (f : Nat → Bool) {M t : Nat} (ht : t < M) (h : f t = false) (hp : ((List.range t).filter f).length < ((List.range M).filter f).length) : ((List.range M).filter f).getD ((List.range t).filter f).length 0 ≠ t := by
  obtain ⟨m, hm⟩ : ∃ m, M - t = m + 1 := ⟨M - t - 1, by omega⟩
  rw [filt_split f ht, hm, List.range_succ_eq_map, List.map_cons, List.filter_cons, if_neg (by simpa using h)] at hp ⊢
  rw [List.length_append] at hp
  rw [List.getD_eq_getElem?_getD, List.getElem?_append_right (Nat.le_refl _), Nat.sub_self]
  generalize hB : List.filter f (List.map (t + ·) (List.map Nat.succ (List.range m))) = B at *
  cases B with
  | nil => simp at hp
  | cons b r =>
    have hb : b ∈ List.filter f (List.map (t + ·) (List.map Nat.succ (List.range m))) := by rw [hB]; simp
    have h1 := (List.mem_filter.1 hb).1
    obtain ⟨x, hx, rfl⟩ := List.mem_map.1 h1
    obtain ⟨y, hy, rfl⟩ := List.mem_map.1 hx
    simp
theorem filt_next (f : Nat → Bool) (t : Nat) : ((List.range (t + 1)).filter f).length = ((List.range t).filter f).length + if f t = true then 1 else 0 := by
  rw [List.range_succ, List.filter_append, List.length_append]
  congr 1
  by_cases h : f t = true
  · rw [if_pos h]; simp [h]
  · rw [if_neg h]; simp [h]
/-- The changes of a value, as the law's loop meets them. -/
def chT (rs : List (List Int)) (i : Nat) (t : Nat) : Nat := ((List.range t).filter (chg rs i)).length
theorem wh_val {ns : List ByteArray} {rs : List (List Int)} {s : ByteArray} (h : wvV ns rs = true) (hi : 0 ≤ Lib.idxOfS ns s) : whT ns rs s = ((List.range rs.length).filter (chg rs (Lib.idxOfS ns s).toNat)).map Int.ofNat := by
  unfold whT
  rw [if_neg (by rw [h]; simp; omega)]
theorem wg_val {ns : List ByteArray} {rs : List (List Int)} {s : ByteArray} (h : wvV ns rs = true) (hi : 0 ≤ Lib.idxOfS ns s) {t : Nat} (ht : t < rs.length) : wgT ns rs s t = ((rs.getD t []).getD (Lib.idxOfS ns s).toNat 0, true) := by
  unfold wgT
  rw [if_neg (by rw [h]; simp; omega)]
  simp
theorem wg_same {ns : List ByteArray} {rs : List (List Int)} {s : ByteArray} (h : wvV ns rs = true) (hi : 0 ≤ Lib.idxOfS ns s) {t : Nat} (ht : t < rs.length) (hc : chg rs (Lib.idxOfS ns s).toNat t = false) : ∃ z, wgT ns rs s t = (z, true) ∧ wgT ns rs s ((t : Int) - 1) = (z, true) := by
  unfold chg at hc
  rw [Bool.or_eq_false_iff] at hc
  have h0 : t ≠ 0 := of_decide_eq_false hc.1
  have h1 : (rs.getD t []).getD (Lib.idxOfS ns s).toNat 0 = (rs.getD (t - 1) []).getD (Lib.idxOfS ns s).toNat 0 := by
    have := of_decide_eq_false hc.2
    exact Decidable.not_not.1 this
  refine ⟨_, wg_val h hi ht, ?_⟩
  have e : (t : Int) - 1 = ((t - 1 : Nat) : Int) := by omega
  rw [e, wg_val h hi (by omega), h1]

end Go.Proofs.YthpioaboekpjoaaDoor

/-
  Walk of the law TxnOrders; first the plain law: how Diff and the values of names hang together.
-/
import Derived.Test.YtbjcbndmafddoaaGreatDoorTxE
namespace Go.Proofs.YtbjcbndmafddoaaGreatDoor
section
open Go.RowKit
set_option linter.unusedVariables false
set_option linter.unusedSimpArgs false

theorem txv_parts {ns : List ByteArray} {zs : List Int} (h : txV ns zs = true) : TxV ns zs := of_decide_eq_true h
theorem get_at {ns : List ByteArray} {zs : List Int} (h : txV ns zs = true) {k : Nat} (hk : k < ns.length) : getT ns zs (ns.getD k ⟨#[]⟩) = (zs.getD k 0, true) := by
  obtain ⟨h1, _, h3, h4, _⟩ := txv_parts h
  have hi : Lib.idxOfS ns (ns.getD k ⟨#[]⟩) = k := (idx_self hk).2 fun hm => dif_dup hk hm ⟨h3, h4⟩
  unfold getT
  rw [hi, if_neg (by omega)]
  simp
theorem get_has {ns : List ByteArray} {zs : List Int} (h : txV ns zs = true) (s : ByteArray) : (getT ns zs s).2 = true ↔ s ∈ ns := by
  obtain ⟨h1, _, _⟩ := txv_parts h
  have hb := idx_bd ns s
  rw [← idx_mem]
  unfold getT
  split
  · rename_i hh; simp; omega
  · rename_i hh; simp; omega
theorem get_no {ns : List ByteArray} {zs : List Int} (h : txV ns zs = true) {s : ByteArray} (hs : s ∉ ns) : getT ns zs s = (0, false) := by
  have h1 : Lib.idxOfS ns s < 0 := by
    by_cases hh : 0 ≤ Lib.idxOfS ns s
    · exact absurd (idx_mem.1 hh) hs
    · omega
  unfold getT; rw [if_pos (.inl h1)]
/-- The names where the values part. -/
def parts2 (ns : List ByteArray) (zs : List Int) (ms : List ByteArray) (ys : List Int) (s : ByteArray) : Bool := decide (getT ns zs s ≠ getT ms ys s)
theorem no_containsS {l : List ByteArray} {s : ByteArray} (h : s ∉ l) : Lib.containsS l s = false := by
  cases hc : Lib.containsS l s
  · rfl
  · exact absurd ((Lib.containsS_iff _ _).1 hc) h
theorem fold_dif1 (ns : List ByteArray) (zs : List Int) (ms : List ByteArray) (ys : List Int) : ∀ (l out : List ByteArray), (out ++ l).Nodup → l.foldl (dif1 ns zs ms ys) out = out ++ l.filter (parts2 ns zs ms ys)
  | [], out, _ => by simp
  | s :: l, out, h => by
    have hs : s ∉ out := fun hm => by
      rw [List.nodup_append] at h
      exact h.2.2 s hm s (List.mem_cons_self ..) rfl
    rw [List.foldl_cons]
    by_cases hp : getT ns zs s ≠ getT ms ys s
    · have e1 : dif1 ns zs ms ys out s = out ++ [s] := by unfold dif1 addU; rw [if_pos hp, no_containsS hs]; simp
      rw [e1, fold_dif1 ns zs ms ys l (out ++ [s]) (by simpa using h), List.filter_cons_of_pos (by unfold parts2; exact decide_eq_true hp)]
      simp
    · have e1 : dif1 ns zs ms ys out s = out := by unfold dif1; rw [if_neg hp]
      rw [e1, fold_dif1 ns zs ms ys l out (h.sublist (List.Sublist.append_left (List.sublist_cons_self ..) _)), List.filter_cons_of_neg (by unfold parts2; simpa using hp)]
theorem fold_dif2 (ns : List ByteArray) : ∀ (l out : List ByteArray), l.Nodup → (∀ s ∈ l, s ∉ ns → s ∉ out) → l.foldl (dif2 ns) out = out ++ l.filter (fun s => !Lib.containsS ns s)
  | [], out, _, _ => by simp
  | s :: l, out, h, ho => by
    rw [List.nodup_cons] at h
    rw [List.foldl_cons]
    by_cases hp : s ∈ ns
    · have hc := (Lib.containsS_iff ns s).2 hp
      have e1 : dif2 ns out s = out := by unfold dif2; rw [if_pos hc]
      rw [e1, fold_dif2 ns l out h.2 (fun x hx => ho x (List.mem_cons_of_mem _ hx)), List.filter_cons_of_neg (by simp [hc])]
    · have hc := no_containsS hp
      have hs := no_containsS (ho s (List.mem_cons_self ..) hp)
      have e1 : dif2 ns out s = out ++ [s] := by unfold dif2 addU; rw [if_neg (by simp [hc]), hs]; simp
      rw [e1, fold_dif2 ns l (out ++ [s]) h.2 (fun x hx hn => by
        rw [List.mem_append, not_or]
        exact ⟨ho x (List.mem_cons_of_mem _ hx) hn, fun he => h.1 (by simp at he; rwa [he] at hx)⟩), List.filter_cons_of_pos (by simp [hc])]
      simp
theorem difT_eq {ns : List ByteArray} (zs : List Int) {ms : List ByteArray} (ys : List Int) (h1 : ns.Nodup) (h2 : ms.Nodup) : difT ns zs ms ys = ns.filter (parts2 ns zs ms ys) ++ ms.filter (fun s => !Lib.containsS ns s) := by
  unfold difT
  rw [fold_dif1 ns zs ms ys ns [] (by simpa using h1), List.nil_append, fold_dif2 ns ms _ h2 (fun s _ hn hm => hn (List.mem_filter.1 hm).1)]
theorem nodup_le {α : Type} [DecidableEq α] : ∀ {l m : List α}, l.Nodup → (∀ x ∈ l, x ∈ m) → l.length ≤ m.length
  | [], m, _, _ => by simp
  | x :: l, m, h, hs => by
    rw [List.nodup_cons] at h
    have hx : x ∈ m := hs x (List.mem_cons_self ..)
    have := nodup_le (l := l) (m := m.erase x) h.2 (fun y hy => by
      have hne : y ≠ x := fun e => h.1 (e ▸ hy)
      exact (List.mem_erase_of_ne hne).2 (hs y (List.mem_cons_of_mem _ hy)))
    rw [List.length_erase_of_mem hx] at this
    have hpos : 0 < m.length := List.length_pos_of_mem hx
    simp only [List.length_cons]; omega
theorem filter_split {α : Type} (p q : α → Bool) (l : List α) : (l.filter p).length = (l.filter (fun s => p s && q s)).length + (l.filter (fun s => p s && !q s)).length := by
  induction l with
  | nil => rfl
  | cons x l ih =>
    cases hp : p x <;> cases hq : q x <;> simp [List.filter_cons, hp, hq, ih] <;> omega
theorem filter_len_congr {α : Type} {p q : α → Bool} {l : List α} (h : ∀ x ∈ l, p x = q x) : (l.filter p).length = (l.filter q).length := by rw [List.filter_congr h]
theorem parts2_out {ns : List ByteArray} {zs : List Int} {ms : List ByteArray} {ys : List Int} (h1 : txV ns zs = true) (h2 : txV ms ys = true) {s : ByteArray} (hs : s ∈ ns) (hn : s ∉ ms) : parts2 ns zs ms ys s = true := by
  unfold parts2
  refine decide_eq_true fun he => ?_
  have a := (get_has h1 s).2 hs
  rw [he, get_no h2 hn] at a
  cases a
theorem difT_half {ns : List ByteArray} {zs : List Int} {ms : List ByteArray} {ys : List Int} (h1 : txV ns zs = true) (h2 : txV ms ys = true) :
    (difT ns zs ms ys).length = (ns.filter (fun s => parts2 ns zs ms ys s && Lib.containsS ms s)).length + (ns.filter (fun s => !Lib.containsS ms s)).length + (ms.filter (fun s => !Lib.containsS ns s)).length := by
  rw [difT_eq zs ys (txv_parts h1).2.2.1 (txv_parts h2).2.2.1, List.length_append, filter_split (parts2 ns zs ms ys) (Lib.containsS ms) ns]
  congr 2
  refine filter_len_congr fun s hs => ?_
  cases hc : Lib.containsS ms s
  · rw [parts2_out h1 h2 hs (fun hm => by rw [(Lib.containsS_iff _ _).2 hm] at hc; cases hc)]; rfl
  · simp
theorem both_le {ns : List ByteArray} {zs : List Int} {ms : List ByteArray} {ys : List Int} (h1 : txV ns zs = true) : (ns.filter (fun s => parts2 ns zs ms ys s && Lib.containsS ms s)).length ≤ (ms.filter (fun s => parts2 ms ys ns zs s && Lib.containsS ns s)).length := by
  refine nodup_le (((txv_parts h1).2.2.1).sublist List.filter_sublist) fun s hs => ?_
  rw [List.mem_filter] at hs ⊢
  simp only [Bool.and_eq_true] at hs ⊢
  refine ⟨(Lib.containsS_iff _ _).1 hs.2.2, ?_, (Lib.containsS_iff _ _).2 hs.1⟩
  have := hs.2.1
  unfold parts2 at this ⊢
  rw [decide_eq_true_eq] at this ⊢
  exact fun e => this e.symm
/-- The two differences are of one length. -/
theorem difT_sym {ns : List ByteArray} {zs : List Int} {ms : List ByteArray} {ys : List Int} (h1 : txV ns zs = true) (h2 : txV ms ys = true) : (difT ns zs ms ys).length = (difT ms ys ns zs).length := by
  rw [difT_half h1 h2, difT_half h2 h1]
  have a := both_le (ms := ms) (ys := ys) h1
  have b := both_le (ms := ns) (ys := zs) h2
  omega
/-- The law's answer, as far as name k. -/
def sameTo (ns : List ByteArray) (zs : List Int) (ms : List ByteArray) (ys : List Int) (k : Nat) : Bool := decide (ns.length = ms.length ∧ ∀ j, j < k → getT ms ys (ns.getD j ⟨#[]⟩) = (zs.getD j 0, true))
theorem sameTo_zero (ns : List ByteArray) (zs : List Int) (ms : List ByteArray) (ys : List Int) : sameTo ns zs ms ys 0 = decide (ns.length = ms.length) := by
  unfold sameTo; simp
theorem sameTo_no {ns : List ByteArray} {zs : List Int} {ms : List ByteArray} {ys : List Int} {k : Nat} (h : sameTo ns zs ms ys k = false) : sameTo ns zs ms ys (k + 1) = false := by
  unfold sameTo at h ⊢
  rw [decide_eq_false_iff_not] at h ⊢
  exact fun ⟨a, b⟩ => h ⟨a, fun j hj => b j (by omega)⟩
theorem sameTo_bad {ns : List ByteArray} {zs : List Int} {ms : List ByteArray} {ys : List Int} {k : Nat} (h : getT ms ys (ns.getD k ⟨#[]⟩) ≠ (zs.getD k 0, true)) : sameTo ns zs ms ys (k + 1) = false := by
  unfold sameTo
  rw [decide_eq_false_iff_not]
  exact fun ⟨_, b⟩ => h (b k (by omega))
theorem sameTo_good {ns : List ByteArray} {zs : List Int} {ms : List ByteArray} {ys : List Int} {k : Nat} (h : sameTo ns zs ms ys k = true) (h2 : getT ms ys (ns.getD k ⟨#[]⟩) = (zs.getD k 0, true)) : sameTo ns zs ms ys (k + 1) = true := by
  unfold sameTo at h ⊢
  rw [decide_eq_true_eq] at h ⊢
  refine ⟨h.1, fun j hj => ?_⟩
  by_cases e : j = k
  · rw [e]; exact h2
  · exact h.2 j (by omega)
theorem difT_same {ns : List ByteArray} {zs : List Int} {ms : List ByteArray} {ys : List Int} (h1 : txV ns zs = true) (h2 : txV ms ys = true) : decide ((difT ns zs ms ys).length = 0) = sameTo ns zs ms ys ns.length := by
  have hl : (difT ns zs ms ys).length = 0 ↔ (∀ s ∈ ns, getT ns zs s = getT ms ys s) ∧ ∀ s ∈ ms, s ∈ ns := by
    rw [difT_eq zs ys (txv_parts h1).2.2.1 (txv_parts h2).2.2.1, List.length_append]
    constructor
    · intro h
      have a : ns.filter (parts2 ns zs ms ys) = [] := List.eq_nil_of_length_eq_zero (by omega)
      have b : ms.filter (fun s => !Lib.containsS ns s) = [] := List.eq_nil_of_length_eq_zero (by omega)
      rw [List.filter_eq_nil_iff] at a b
      refine ⟨fun s hs => ?_, fun s hs => ?_⟩
      · have := a s hs; unfold parts2 at this; simpa using this
      · have := b s hs; simp at this; exact (Lib.containsS_iff _ _).1 this
    · rintro ⟨a, b⟩
      rw [List.filter_eq_nil_iff.2 (fun s hs => by unfold parts2; simpa using a s hs), List.filter_eq_nil_iff.2 (fun s hs => by simpa using (Lib.containsS_iff _ _).2 (b s hs))]
      rfl
  unfold sameTo
  refine decide_eq_decide.2 (hl.trans ⟨fun ⟨a, b⟩ => ⟨?_, fun j hj => ?_⟩, fun ⟨a, b⟩ => ?_⟩)
  · have c : ∀ s ∈ ns, s ∈ ms := fun s hs => by
      have h3 := (get_has h1 s).2 hs
      rw [a s hs] at h3
      exact (get_has h2 s).1 h3
    exact Nat.le_antisymm (nodup_le (txv_parts h1).2.2.1 c) (nodup_le (txv_parts h2).2.2.1 b)
  · rw [← a _ (getD_mem _ hj), get_at h1 hj]
  · have c : ∀ s ∈ ns, getT ns zs s = getT ms ys s ∧ s ∈ ms := fun s hs => by
      obtain ⟨j, hj, rfl⟩ := List.mem_iff_getElem.1 hs
      have e : ns.getD j ⟨#[]⟩ = ns[j] := by rw [List.getD_eq_getElem?_getD, List.getElem?_eq_getElem hj]; rfl
      have h3 := b j hj
      have h4 := get_at h1 hj
      rw [e] at h3 h4
      exact ⟨by rw [h3, h4], (get_has h2 _).1 (by rw [h3])⟩
    refine ⟨fun s hs => (c s hs).1, fun s hs => ?_⟩
    by_cases hn : s ∈ ns
    · exact hn
    · have := nodup_le (l := s :: ns) (m := ms) (List.nodup_cons.2 ⟨hn, (txv_parts h1).2.2.1⟩) (fun x hx => by
        rcases List.mem_cons.1 hx with rfl | hx
        · exact hs
        · exact (c x hx).2)
      simp only [List.length_cons] at this
      omega
end
open Go.RowKit
set_option linter.unusedVariables false
set_option linter.unusedSimpArgs false

def fSLn (j : Nat) (D : List Nat) (l : List ByteArray) (L : Nat) : FOp := ⟨j, D, fun v => ∃ A c, v = .slice A L c, fun v w => L = l.length ∧ SL w v l⟩
theorem fSLn_st (j : Nat) (D : List Nat) (l : List ByteArray) (L : Nat) : ∀ v w w', (fSLn j D l L).Φ v w → Below w.heap.size w w' → (fSLn j D l L).Φ v w' := fun v w w' h hb => ⟨h.1, SL.below h.2 hb⟩
theorem fSLn_kn (j : Nat) (D : List Nat) (l : List ByteArray) (L : Nat) : (∀ u w, (fSLn j D l L).Φ u w → (fSLn j D l L).S u) ∧ ∃ u, (fSLn j D l L).S u := ⟨fun u w h => by
  obtain ⟨rfl, A, c, h, _⟩ := h
  exact ⟨A, c, h⟩, .slice none _ 0, none, 0, rfl⟩
theorem beq_b2 (x : Bool) : (x == x) = true := by simp
theorem few_sz {ns : List ByteArray} {zs : List Int} (h : Few ns zs) : ∀ s ∈ ns, s.size ≤ 2000000 := fun s hs => Nat.le_trans (h.2.2 s hs) (by decide)
theorem get_same {p : Int × Bool} {z : Int} : (p.2 = false ∧ p ≠ (z, true)) ∨ (p.2 = true ∧ p ≠ (z, true) ∧ (p.1 == z) = false) ∨ p = (z, true) := by
  obtain ⟨v, b⟩ := p
  cases b
  · left; simp
  · right
    by_cases e : v = z
    · right; rw [e]
    · left; exact ⟨rfl, fun h => e (Prod.mk.inj h).1, by simpa using e⟩

end Go.Proofs.YtbjcbndmafddoaaGreatDoor

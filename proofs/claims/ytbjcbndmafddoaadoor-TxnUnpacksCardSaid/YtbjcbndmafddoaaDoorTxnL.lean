/-
  Walk of the law TxnOrders; first the plain law: how Diff and the values of names hang together.
-/
import Derived.Test.YtbjcbndmafddoaaDoorTxE
namespace Go.Proofs.YtbjcbndmafddoaaDoor
section
open Go.RowKit
set_option linter.unusedVariables false
set_option linter.unusedSimpArgs false

theorem txv_parts {ns : List ByteArray} {zs : List Int} (h : txV ns zs = true) : TxV ns zs := of_decide_eq_true h
theorem get_at {ns : List ByteArray} {zs : List Int} (h : txV ns zs = true) {k : Nat} (hk : k < ns.length) : getT ns zs (ns.getD k ⟨#[]⟩) = (zs.getD k 0, true) := by
  obtain ⟨h1, _, h3, h4, _⟩ := txv_parts h
  have hi : Lib.idxOfS ns (ns.getD k ⟨#[]⟩) = k := (idx_self hk).2 fun hm => dif_dup hk hm ⟨h3, h4⟩
  unfold getT
  rw [hi, if_neg (by omega)]
  simp
theorem get_has {ns : List ByteArray} {zs : List Int} (h : txV ns zs = true) (s : ByteArray) : (getT ns zs s).2 = true ↔ s ∈ ns := by
  obtain ⟨h1, _, _⟩ := txv_parts h
  have hb := idx_bd ns s
  rw [← idx_mem]
  unfold getT
  split
  · rename_i hh; simp; omega
  · rename_i hh; simp; omega
theorem get_no {ns : List ByteArray} {zs : List Int} (h : txV ns zs = true) {s : ByteArray} (hs : s ∉ ns) : getT ns zs s = (0, false) := by
  have h1 : Lib.idxOfS ns s < 0 := by
    by_cases hh : 0 ≤ Lib.idxOfS ns s
    · exact absurd (idx_mem.1 hh) hs
    · omega
  unfold getT; rw [if_pos (.inl h1)]
/-- The names where the values part. -/
def parts2 (ns : List ByteArray) (zs : List Int) (ms : List ByteArray) (ys : List Int) (s : ByteArray) : Bool := decide (getT ns zs s ≠ getT ms ys s)
theorem no_containsS {l : List ByteArray} {s : ByteArray} (h : s ∉ l) : Lib.containsS l s = false := by
  cases hc : Lib.containsS l s
  · rfl
  · exact absurd ((Lib.containsS_iff _ _).1 hc) h
theorem fold_dif1 (ns : List ByteArray) (zs : List Int) (ms : List ByteArray) (ys : List Int) : ∀ (l out : List ByteArray), (out ++ l).Nodup → l.foldl (dif1 ns zs ms ys) out = out ++ l.filter (parts2 ns zs ms ys)
  | [], out, _ => by simp
  | s :: l, out, h => by
    have hs : s ∉ out := fun hm => by
      rw [List.nodup_append] at h
      exact h.2.2 s hm s (List.mem_cons_self ..) rfl
    rw [List.foldl_cons]
    by_cases hp : getT ns zs s ≠ getT ms ys s
    · have e1 : dif1 ns zs ms ys out s = out ++ [s] := by unfold dif1 addU; rw [if_pos hp, no_containsS hs]; simp
      rw [e1, fold_dif1 ns zs ms ys l (out ++ [s]) (by simpa using h), List.filter_cons_of_pos (by unfold parts2; exact decide_eq_true hp)]
      simp
    · have e1 : dif1 ns zs ms ys out s = out := by unfold dif1; rw [if_neg hp]
      rw [e1, fold_dif1 ns zs ms ys l out (h.sublist (List.Sublist.append_left (List.sublist_cons_self ..) _)), List.filter_cons_of_neg (by unfold parts2; simpa using hp)]
theorem fold_dif2 (ns : List ByteArray) : ∀ (l out : List ByteArray), l.Nodup → (∀ s ∈ l, s ∉ ns → s ∉ out) → l.foldl (dif2 ns) out = out ++ l.filter (fun s => !Lib.containsS ns s)
  | [], out, _, _ => by simp
  | s :: l, out, h, ho => by
    rw [List.nodup_cons] at h
    rw [List.foldl_cons]
    by_cases hp : s ∈ ns
    · have hc := (Lib.containsS_iff ns s).2 hp
      have e1 : dif2 ns out s = out := by unfold dif2; rw [if_pos hc]
      rw [e1, fold_dif2 ns l out h.2 (fun x hx => ho x (List.mem_cons_of_mem _ hx)), List.filter_cons_of_neg (by simp [hc])]
    · have hc := no_containsS hp
      have hs := no_containsS (ho s (List.mem_cons_self ..) hp)
      have e1 : dif2 ns out s = out ++ [s] := by unfold dif2 addU; rw [if_neg (by simp [hc]), hs]; simp
      rw [e1, fold_dif2 ns l (out ++ [s]) h.2 (fun x hx hn => by
        rw [List.mem_append, not_or]
        exact ⟨ho x (List.mem_cons_of_mem _ hx) hn, fun he => h.1 (by simp at he; rwa [he] at hx)⟩), List.filter_cons_of_pos (by simp [hc])]
      simp
theorem difT_eq {ns : List ByteArray} (zs : List Int) {ms : List ByteArray} (ys : List Int) (h1 : ns.Nodup) (h2 : ms.Nodup) : difT ns zs ms ys = ns.filter (parts2 ns zs ms ys) ++ ms.filter (fun s => !Lib.containsS ns s) := by
  unfold difT
  rw [fold_dif1 ns zs ms ys ns [] (by simpa using h1), List.nil_append, fold_dif2 ns ms _ h2 (fun s _ hn hm => hn (List.mem_filter.1 hm).1)]
theorem nodup_le {α : Type} [DecidableEq α] : ∀ {l m : List α}, l.Nodup → (∀ x ∈ l, x ∈ m) → l.length ≤ m.length
  | [], m, _, _ => by simp
  | x :: l, m, h, hs => by
    rw [List.nodup_cons] at h
    have hx : x ∈ m := hs x (List.mem_cons_self ..)
    have := nodup_le (l := l) (m := m.erase x) h.2 (fun y hy => by
      have hne : y ≠ x := fun e => h.1 (e ▸ hy)
      exact (List.mem_erase_of_ne hne).2 (hs y (List.mem_cons_of_mem _ hy)))
    rw [List.length_erase_of_mem hx] at this
    have hpos : 0 < m.length := List.length_pos_of_mem hx
    simp only [List.length_cons]; omega
theorem filter_split {α : Type} (p q : α → Bool) (l : List α) : (l.filter p).length = (l.filter (fun s => p s && q s)).length + (l.filter (fun s => p s && !q s)).length := by
  induction l with
  | nil => rfl
  | cons x l ih =>
    cases hp : p x <;> cases hq : q x <;> simp [List.filter_cons, hp, hq, ih] <;> omega
theorem filter_len_congr {α : Type} {p q : α → Bool} {l : List α} (h : ∀ x ∈ l, p x = q x) : (l.filter p).length = (l.filter q).length := by rw [List.filter_congr h]
theorem parts2_out {ns : List ByteArray} {zs : List Int} {ms : List ByteArray} {ys : List Int} (h1 : txV ns zs = true) (h2 : txV ms ys = true) {s : ByteArray} (hs : s ∈ ns) (hn : s ∉ ms) : parts2 ns zs ms ys s = true := by
  unfold parts2
  refine decide_eq_true fun he => ?_
  have a := (get_has h1 s).2 hs
  rw [he, get_no h2 hn] at a
  cases a
theorem difT_half {ns : List ByteArray} {zs : List Int} {ms : List ByteArray} {ys : List Int} (h1 : txV ns zs = true) (h2 : txV ms ys = true) :
    (difT ns zs ms ys).length = (ns.filter (fun s => parts2 ns zs ms ys s && Lib.containsS ms s)).length + (ns.filter (fun s => !Lib.containsS ms s)).length + (ms.filter (fun s => !Lib.containsS ns s)).length := by
  rw [difT_eq zs ys (txv_parts h1).2.2.1 (txv_parts h2).2.2.1, List.length_append, filter_split (parts2 ns zs ms ys) (Lib.containsS ms) ns]
  congr 2
  refine filter_len_congr fun s hs => ?_
  cases hc : Lib.containsS ms s
  · rw [parts2_out h1 h2 hs (fun hm => by rw [(Lib.containsS_iff _ _).2 hm] at hc; cases hc)]; rfl
  · simp
theorem both_le {ns : List ByteArray} {zs : List Int} {ms : List ByteArray} {ys : List Int} (h1 : txV ns zs = true) : (ns.filter (fun s => parts2 ns zs ms ys s && Lib.containsS ms s)).length ≤ (ms.filter (fun s => parts2 ms ys ns zs s && Lib.containsS ns s)).length := by
  refine nodup_le (((txv_parts h1).2.2.1).sublist List.filter_sublist) fun s hs => ?_
  rw [List.mem_filter] at hs ⊢
  simp only [Bool.and_eq_true] at hs ⊢
  refine ⟨(Lib.containsS_iff _ _).1 hs.2.2, ?_, (Lib.containsS_iff _ _).2 hs.1⟩
  have := hs.2.1
  unfold parts2 at this ⊢
  rw [decide_eq_true_eq] at this ⊢
  exact fun e => this e.symm
/-- The two differences are of one length. -/
theorem difT_sym {ns : List ByteArray} {zs : List Int} {ms : List ByteArray} {ys : List Int} (h1 : txV ns zs = true) (h2 : txV ms ys = true) : (difT ns zs ms ys).length = (difT ms ys ns zs).length := by
  rw [difT_half h1 h2, difT_half h2 h1]
  have a := both_le (ms := ms) (ys := ys) h1
  have b := both_le (ms := ns) (ys := zs) h2
  omega
/-- The law's answer, as far as name k. -/
def sameTo (ns : List ByteArray) (zs : List Int) (ms : List ByteArray) (ys : List Int) (k : Nat) : Bool := decide (ns.length = ms.length ∧ ∀ j, j < k → getT ms ys (ns.getD j ⟨#[]⟩) = (zs.getD j 0, true))
theorem sameTo_zero (ns : List ByteArray) (zs : List Int) (ms : List ByteArray) (ys : List Int) : sameTo ns zs ms ys 0 = decide (ns.length = ms.length) := by
  unfold sameTo; simp
theorem sameTo_no {ns : List ByteArray} {zs : List Int} {ms : List ByteArray} {ys : List Int} {k : Nat} (h : sameTo ns zs ms ys k = false) : sameTo ns zs ms ys (k + 1) = false := by
  unfold sameTo at h ⊢
  rw [decide_eq_false_iff_not] at h ⊢
  exact fun ⟨a, b⟩ => h ⟨a, fun j hj => b j (by omega)⟩
theorem sameTo_bad {ns : List ByteArray} {zs : List Int} {ms : List ByteArray} {ys : List Int} {k : Nat} (h : getT ms ys (ns.getD k ⟨#[]⟩) ≠ (zs.getD k 0, true)) : sameTo ns zs ms ys (k + 1) = false := by
  unfold sameTo
  rw [decide_eq_false_iff_not]
  exact fun ⟨_, b⟩ => h (b k (by omega))
theorem sameTo_good {ns : List ByteArray} {zs : List Int} {ms : List ByteArray} {ys : List Int} {k : Nat} (h : sameTo ns zs ms ys k = true) (h2 : getT ms ys (ns.getD k ⟨#[]⟩) = (zs.getD k 0, true)) : sameTo ns zs ms ys (k + 1) = true := by
  unfold sameTo at h ⊢
  rw [decide_eq_true_eq] at h ⊢
  refine ⟨h.1, fun j hj => ?_⟩
  by_cases e : j = k
  · rw [e]; exact h2
  · exact h.2 j (by omega)
theorem difT_same {ns : List ByteArray} {zs : List Int} {ms : List ByteArray} {ys : List Int} (h1 : txV ns zs = true) (h2 : txV ms ys = true) : decide ((difT ns zs ms ys).length = 0) = sameTo ns zs ms ys ns.length := by
  have hl : (difT ns zs ms ys).length = 0 ↔ (∀ s ∈ ns, getT ns zs s = getT ms ys s) ∧ ∀ s ∈ ms, s ∈ ns := by
    rw [difT_eq zs ys (txv_parts h1).2.2.1 (txv_parts h2).2.2.1, List.length_append]
    constructor
    · intro h
      have a : ns.filter (parts2 ns zs ms ys) = [] := List.eq_nil_of_length_eq_zero (by omega)
      have b : ms.filter (fun s => !Lib.containsS ns s) = [] := List.eq_nil_of_length_eq_zero (by omega)
      rw [List.filter_eq_nil_iff] at a b
      refine ⟨fun s hs => ?_, fun s hs => ?_⟩
      · have := a s hs; unfold parts2 at this; simpa using this
      · have := b s hs; simp at this; exact (Lib.containsS_iff _ _).1 this
    · rintro ⟨a, b⟩
      rw [List.filter_eq_nil_iff.2 (fun s hs => by unfold parts2; simpa using a s hs), List.filter_eq_nil_iff.2 (fun s hs => by simpa using (Lib.containsS_iff _ _).2 (b s hs))]
      rfl
  unfold sameTo
  refine decide_eq_decide.2 (hl.trans ⟨fun ⟨a, b⟩ => ⟨?_, fun j hj => ?_⟩, fun ⟨a, b⟩ => ?_⟩)
  · have c : ∀ s ∈ ns, s ∈ ms := fun s hs => by
      have h3 := (get_has h1 s).2 hs
      rw [a s hs] at h3
      exact (get_has h2 s).1 h3
    exact Nat.le_antisymm (nodup_le (txv_parts h1).2.2.1 c) (nodup_le (txv_parts h2).2.2.1 b)
  · rw [← a _ (getD_mem _ hj), get_at h1 hj]
  · have c : ∀ s ∈ ns, getT ns zs s = getT ms ys s ∧ s ∈ ms := fun s hs => by
      obtain ⟨j, hj, rfl⟩ := List.mem_iff_getElem.1 hs
      have e : ns.getD j ⟨#[]⟩ = ns[j] := by rw [List.getD_eq_getElem?_getD, List.getElem?_eq_getElem hj]; rfl
      have h3 := b j hj
      have h4 := get_at h1 hj
      rw [e] at h3 h4
      exact ⟨by rw [h3, h4], (get_has h2 _).1 (by rw [h3])⟩
    refine ⟨fun s hs => (c s hs).1, fun s hs => ?_⟩
    by_cases hn : s ∈ ns
    · exact hn
    · have := nodup_le (l := s :: ns) (m := ms) (List.nodup_cons.2 ⟨hn, (txv_parts h1).2.2.1⟩) (fun x hx => by
        rcases List.mem_cons.1 hx with rfl | hx
        · exact hs
        · exact (c x hx).2)
      simp only [List.length_cons] at this
      omega
end
open Go.RowKit
set_option linter.unusedVariables false
set_option linter.unusedSimpArgs false

def fSLn (j : Nat) (D : List Nat) (l : List ByteArray) (L : Nat) : FOp := ⟨j, D, fun v => ∃ A c, v = .slice A L c, fun v w => L = l.length ∧ SL w v l⟩
theorem fSLn_st (j : Nat) (D : List Nat) (l : List ByteArray) (L : Nat) : ∀ v w w', (fSLn j D l L).Φ v w → Below w.heap.size w w' → (fSLn j D l L).Φ v w' := fun v w w' h hb => ⟨h.1, SL.below h.2 hb⟩
theorem fSLn_kn (j : Nat) (D : List Nat) (l : List ByteArray) (L : Nat) : (∀ u w, (fSLn j D l L).Φ u w → (fSLn j D l L).S u) ∧ ∃ u, (fSLn j D l L).S u := ⟨fun u w h => by
  obtain ⟨rfl, A, c, h, _⟩ := h
  exact ⟨A, c, h⟩, .slice none _ 0, none, 0, rfl⟩
theorem beq_b2 (x : Bool) : (x == x) = true := by simp
theorem few_sz {ns : List ByteArray} {zs : List Int} (h : Few ns zs) : ∀ s ∈ ns, s.size ≤ 2000000 := fun s hs => Nat.le_trans (h.2.2 s hs) (by decide)
theorem get_same {p : Int × Bool} {z : Int} : (p.2 = false ∧ p ≠ (z, true)) ∨ (p.2 = true ∧ p ≠ (z, true) ∧ (p.1 == z) = false) ∨ p = (z, true) := by
  obtain ⟨v, b⟩ := p
  cases b
  · left; simp
  · right
    by_cases e : v = z
    · right; rw [e]
    · left; exact ⟨rfl, fun h => e (Prod.mk.inj h).1, by simpa using e⟩

set_option maxRecDepth 100000 in
set_option maxHeartbeats 8000000 in
theorem walkTxnOrders {H : Type} {enc : TypeId × Value → H} {base : Nat} (v : Value) (d : DataW H) (p : List MemPlace)
    (w : World) (h : DataW.Trod enc Tryd.prog w 0 (fun _ => true) true 25 v d p) (hv : Value.okWide Tryd.prog w .any base 25 v)
    (u : Value) (d' : DataW H) (p' : List MemPlace) (h' : DataW.Trod enc Tryd.prog w 0 (fun _ => true) true 25 u d' p') (hv' : Value.okWide Tryd.prog w .any base 25 u)
    (ht : Tab w) (hm : MLen w) (hk : KW w) :
    Calls Tryd.prog 3 #[v, u] w fun e w' => e = .returned (.bool true) ∧ Below w.heap.size w w' := by
  obtain ⟨v1, v2, ns, zs, rfl, h1, h2, n1, n2, hsz⟩ := arg_txn h hv
  obtain ⟨v3, v4, ms, ys, rfl, h3, h4, n3, n4, hsy⟩ := arg_txn h' hv'
  have HK := Lib.hid hk
  have HM := Lib.hid hm
  have HT := Lib.hid ht
  have HQ1 := Lib.hid h1
  have HQ2 := Lib.hid h2
  have HQ3 := Lib.hid h3
  have HQ4 := Lib.hid h4
  have CW := Lib.hid (fun W h h' h'' => lawAwake W h h' h'')
  have CF := Lib.hid (fun W h1 h2 => lawFew W v1 v2 ns zs h1 h2 n1 n2 hsz)
  have CF2 := Lib.hid (fun W h1 h2 => lawFew W v3 v4 ms ys h1 h2 n3 n4 hsy)
  clear h hv h' hv' h1 h2 h3 h4 ht hm hk
  cases hf : decide (Few ns zs)
  · rw [hf] at CF
    clear hf CF2
    go_enter Tryd.func3, Tryd.ntmps3
    go_wp2_with fail
    have XA := Lib.hid ((box_new (W := w) (g := w.heap.size) 25 #[v1, v2] (by simp)).below (below_alloc _ (.cells #[v3, v4] 25)))
    have XB := Lib.hid (box_new (W := (w.alloc (.cells #[v1, v2] 25))) (g := w.heap.size + 1) 25 #[v3, v4] (by simp))
    have HB := Lib.hid (below_step (below_alloc w (.cells #[v1, v2] 25)) (below_alloc (w.alloc (.cells #[v1, v2] 25)) (.cells #[v3, v4] 25)))
    generalize (w.alloc (.cells #[v1, v2] 25)).alloc (.cells #[v3, v4] 25) = w1 at *
    refine (CF.out _ (HQ1.out.below HB.out) (HQ2.out.below HB.out)).mono ?_; rintro e w2 ⟨rfl, hb⟩
    replace XA := Lib.hid (XA.out.below hb)
    replace XB := Lib.hid (XB.out.below hb)
    replace HB := Lib.hid (below_step HB.out hb)
    clear hb
    go_wp2_with fail
    refine (CW.out _ (HK.out.below HB.out) (HM.out.below HB.out) (HT.out.below HB.out)).mono ?_; rintro e w3 ⟨rfl, hb⟩
    replace XA := Lib.hid (XA.out.below hb)
    replace XB := Lib.hid (XB.out.below hb)
    replace HB := Lib.hid (below_step HB.out hb)
    clear hb
    go_wp2_with fail
    go_ret
    exact ⟨rfl, HB.out⟩
  cases hf2 : decide (Few ms ys)
  · rw [hf] at CF
    rw [hf2] at CF2
    clear hf hf2
    go_enter Tryd.func3, Tryd.ntmps3
    go_wp2_with fail
    have XA := Lib.hid ((box_new (W := w) (g := w.heap.size) 25 #[v1, v2] (by simp)).below (below_alloc _ (.cells #[v3, v4] 25)))
    have XB := Lib.hid (box_new (W := (w.alloc (.cells #[v1, v2] 25))) (g := w.heap.size + 1) 25 #[v3, v4] (by simp))
    have HB := Lib.hid (below_step (below_alloc w (.cells #[v1, v2] 25)) (below_alloc (w.alloc (.cells #[v1, v2] 25)) (.cells #[v3, v4] 25)))
    generalize (w.alloc (.cells #[v1, v2] 25)).alloc (.cells #[v3, v4] 25) = w1 at *
    refine (CF.out _ (HQ1.out.below HB.out) (HQ2.out.below HB.out)).mono ?_; rintro e w2 ⟨rfl, hb⟩
    replace XA := Lib.hid (XA.out.below hb)
    replace XB := Lib.hid (XB.out.below hb)
    replace HB := Lib.hid (below_step HB.out hb)
    clear hb
    have XB_0 := XB.out.at_ 0 _ rfl
    have XB_1 := XB.out.at_ 1 _ rfl
    go_wp2_with fail
    clear XB_0 XB_1
    refine (CF2.out _ (HQ3.out.below HB.out) (HQ4.out.below HB.out)).mono ?_; rintro e w3 ⟨rfl, hb⟩
    replace XA := Lib.hid (XA.out.below hb)
    replace XB := Lib.hid (XB.out.below hb)
    replace HB := Lib.hid (below_step HB.out hb)
    clear hb
    go_wp2_with fail
    refine (CW.out _ (HK.out.below HB.out) (HM.out.below HB.out) (HT.out.below HB.out)).mono ?_; rintro e w4 ⟨rfl, hb⟩
    replace XA := Lib.hid (XA.out.below hb)
    replace XB := Lib.hid (XB.out.below hb)
    replace HB := Lib.hid (below_step HB.out hb)
    clear hb
    go_wp2_with fail
    go_ret
    exact ⟨rfl, HB.out⟩
  have hfew : Few ns zs := of_decide_eq_true hf
  have hfew2 : Few ms ys := of_decide_eq_true hf2
  rw [hf] at CF
  rw [hf2] at CF2
  have a1 := hfew.1
  have a2 := hfew.2.1
  have a3 := hfew2.1
  have a4 := hfew2.2.1
  have CV1 := Lib.hid (fun W h1 h2 => refValidT W v1 v2 ns zs h1 h2 (few_sz hfew) n1 n2)
  have CV2 := Lib.hid (fun W h1 h2 => refValidT W v3 v4 ms ys h1 h2 (few_sz hfew2) n3 n4)
  clear hf hf2 hfew hfew2 hsz hsy
  cases hv1 : txV ns zs
  · rw [hv1] at CV1
    clear hv1 CV2 n1 n2 n3 n4 a1 a2 a3 a4
    go_enter Tryd.func3, Tryd.ntmps3
    go_wp2_with fail
    have XA := Lib.hid ((box_new (W := w) (g := w.heap.size) 25 #[v1, v2] (by simp)).below (below_alloc _ (.cells #[v3, v4] 25)))
    have XB := Lib.hid (box_new (W := (w.alloc (.cells #[v1, v2] 25))) (g := w.heap.size + 1) 25 #[v3, v4] (by simp))
    have HB := Lib.hid (below_step (below_alloc w (.cells #[v1, v2] 25)) (below_alloc (w.alloc (.cells #[v1, v2] 25)) (.cells #[v3, v4] 25)))
    generalize (w.alloc (.cells #[v1, v2] 25)).alloc (.cells #[v3, v4] 25) = w1 at *
    refine (CF.out _ (HQ1.out.below HB.out) (HQ2.out.below HB.out)).mono ?_; rintro e w2 ⟨rfl, hb⟩
    replace XA := Lib.hid (XA.out.below hb)
    replace XB := Lib.hid (XB.out.below hb)
    replace HB := Lib.hid (below_step HB.out hb)
    clear hb
    have XB_0 := XB.out.at_ 0 _ rfl
    have XB_1 := XB.out.at_ 1 _ rfl
    go_wp2_with fail
    clear XB_0 XB_1
    refine (CF2.out _ (HQ3.out.below HB.out) (HQ4.out.below HB.out)).mono ?_; rintro e w3 ⟨rfl, hb⟩
    replace XA := Lib.hid (XA.out.below hb)
    replace XB := Lib.hid (XB.out.below hb)
    replace HB := Lib.hid (below_step HB.out hb)
    clear hb
    have XA_0 := XA.out.at_ 0 _ rfl
    have XA_1 := XA.out.at_ 1 _ rfl
    go_wp2_with fail
    clear XA_0 XA_1
    refine (CV1.out _ (HQ1.out.below HB.out) (HQ2.out.below HB.out)).mono ?_; rintro e w3 ⟨rfl, hb⟩
    replace XA := Lib.hid (XA.out.below hb)
    replace XB := Lib.hid (XB.out.below hb)
    replace HB := Lib.hid (below_step HB.out hb)
    clear hb
    go_wp2_with fail
    refine (CW.out _ (HK.out.below HB.out) (HM.out.below HB.out) (HT.out.below HB.out)).mono ?_; rintro e w4 ⟨rfl, hb⟩
    replace XA := Lib.hid (XA.out.below hb)
    replace XB := Lib.hid (XB.out.below hb)
    replace HB := Lib.hid (below_step HB.out hb)
    clear hb
    go_wp2_with fail
    go_ret
    exact ⟨rfl, HB.out⟩
  cases hv2 : txV ms ys
  · rw [hv1] at CV1
    rw [hv2] at CV2
    clear hv1 hv2 n1 n2 n3 n4 a1 a2 a3 a4
    go_enter Tryd.func3, Tryd.ntmps3
    go_wp2_with fail
    have XA := Lib.hid ((box_new (W := w) (g := w.heap.size) 25 #[v1, v2] (by simp)).below (below_alloc _ (.cells #[v3, v4] 25)))
    have XB := Lib.hid (box_new (W := (w.alloc (.cells #[v1, v2] 25))) (g := w.heap.size + 1) 25 #[v3, v4] (by simp))
    have HB := Lib.hid (below_step (below_alloc w (.cells #[v1, v2] 25)) (below_alloc (w.alloc (.cells #[v1, v2] 25)) (.cells #[v3, v4] 25)))
    generalize (w.alloc (.cells #[v1, v2] 25)).alloc (.cells #[v3, v4] 25) = w1 at *
    refine (CF.out _ (HQ1.out.below HB.out) (HQ2.out.below HB.out)).mono ?_; rintro e w2 ⟨rfl, hb⟩
    replace XA := Lib.hid (XA.out.below hb)
    replace XB := Lib.hid (XB.out.below hb)
    replace HB := Lib.hid (below_step HB.out hb)
    clear hb
    have XB_0 := XB.out.at_ 0 _ rfl
    have XB_1 := XB.out.at_ 1 _ rfl
    go_wp2_with fail
    clear XB_0 XB_1
    refine (CF2.out _ (HQ3.out.below HB.out) (HQ4.out.below HB.out)).mono ?_; rintro e w3 ⟨rfl, hb⟩
    replace XA := Lib.hid (XA.out.below hb)
    replace XB := Lib.hid (XB.out.below hb)
    replace HB := Lib.hid (below_step HB.out hb)
    clear hb
    have XA_0 := XA.out.at_ 0 _ rfl
    have XA_1 := XA.out.at_ 1 _ rfl
    go_wp2_with fail
    clear XA_0 XA_1
    refine (CV1.out _ (HQ1.out.below HB.out) (HQ2.out.below HB.out)).mono ?_; rintro e w3 ⟨rfl, hb⟩
    replace XA := Lib.hid (XA.out.below hb)
    replace XB := Lib.hid (XB.out.below hb)
    replace HB := Lib.hid (below_step HB.out hb)
    clear hb
    have XB_0 := XB.out.at_ 0 _ rfl
    have XB_1 := XB.out.at_ 1 _ rfl
    go_wp2_with fail
    clear XB_0 XB_1
    refine (CV2.out _ (HQ3.out.below HB.out) (HQ4.out.below HB.out)).mono ?_; rintro e w3 ⟨rfl, hb⟩
    replace XA := Lib.hid (XA.out.below hb)
    replace XB := Lib.hid (XB.out.below hb)
    replace HB := Lib.hid (below_step HB.out hb)
    clear hb
    go_wp2_with fail
    refine (CW.out _ (HK.out.below HB.out) (HM.out.below HB.out) (HT.out.below HB.out)).mono ?_; rintro e w4 ⟨rfl, hb⟩
    replace XA := Lib.hid (XA.out.below hb)
    replace XB := Lib.hid (XB.out.below hb)
    replace HB := Lib.hid (below_step HB.out hb)
    clear hb
    go_wp2_with fail
    go_ret
    exact ⟨rfl, HB.out⟩
  rw [hv1] at CV1
  rw [hv2] at CV2
  have hlz : ns.length = zs.length := (txv_parts hv1).1
  have HZERO := Lib.hid (sameTo_zero ns zs ms ys)
  have HSAME := Lib.hid (difT_same hv1 hv2)
  have HSYM := Lib.hid (difT_sym hv1 hv2)
  have SNO := Lib.hid (fun k => @sameTo_no ns zs ms ys k)
  have SBAD := Lib.hid (fun k => @sameTo_bad ns zs ms ys k)
  have SGOOD := Lib.hid (fun k => @sameTo_good ns zs ms ys k)
  have CG := Lib.hid (fun W s h h' => txnGet W v3 v4 ms ys s h h' n3 n4)
  have D1 := Lib.hid (fun W h1 h2 h3 h4 => txnDiff W v1 v2 v3 v4 ns zs ms ys h1 h2 h3 h4 (by omega) n2 (by omega) n4)
  have D2 := Lib.hid (fun W h1 h2 h3 h4 => txnDiff W v3 v4 v1 v2 ms ys ns zs h1 h2 h3 h4 (by omega) n4 (by omega) n2)
  generalize difT ns zs ms ys = e1 at *
  generalize difT ms ys ns zs = e2 at *
  generalize sameTo ns zs ms ys = sm at *
  obtain ⟨N, hN⟩ : ∃ N, N = ns.length := ⟨_, rfl⟩
  obtain ⟨M, hM⟩ : ∃ M, M = ms.length := ⟨_, rfl⟩
  rw [← hN] at HZERO HSAME a1 hlz
  rw [← hM] at HZERO a3
  obtain ⟨A1, c1, rfl, hc1, hs1⟩ := HQ1.out
  obtain ⟨A2, c2, rfl, hc2, hs2⟩ := HQ2.out
  obtain ⟨A3, c3, rfl, hc3, hs3⟩ := HQ3.out
  have HS1 := Lib.hid hs1
  have HS2 := Lib.hid hs2
  rw [← hN] at HS1 HQ1 CF CV1 D1 D2 ⊢
  rw [← hM] at HQ3 CF2 CV2 D1 D2 CG ⊢
  rw [← hlz] at HS2 HQ2 CF CV1 D1 D2 ⊢
  have HN := Lib.hid hN
  have HLZ := Lib.hid hlz
  clear hv1 hv2 n1 n2 n3 n4 a2 a4 hN hM hlz hs1 hs2 hs3 hc1 hc2 hc3
  go_enter Tryd.func3, Tryd.ntmps3
  go_wp2_with fail
  have XA := Lib.hid ((box_new (W := w) (g := w.heap.size) 25 #[.slice A1 N c1, .slice A2 N c2] (by simp)).below (below_alloc _ (.cells #[.slice A3 M c3, v4] 25)))
  have XB := Lib.hid (box_new (W := (w.alloc (.cells #[.slice A1 N c1, .slice A2 N c2] 25))) (g := w.heap.size + 1) 25 #[.slice A3 M c3, v4] (by simp))
  have HB := Lib.hid (below_step (below_alloc w (.cells #[.slice A1 N c1, .slice A2 N c2] 25)) (below_alloc (w.alloc (.cells #[.slice A1 N c1, .slice A2 N c2] 25)) (.cells #[.slice A3 M c3, v4] 25)))
  generalize (w.alloc (.cells #[.slice A1 N c1, .slice A2 N c2] 25)).alloc (.cells #[.slice A3 M c3, v4] 25) = w1 at *
  refine (CF.out _ (HQ1.out.below HB.out) (HQ2.out.below HB.out)).mono ?_; rintro e w2 ⟨rfl, hb⟩
  replace XA := Lib.hid (XA.out.below hb)
  replace XB := Lib.hid (XB.out.below hb)
  replace HB := Lib.hid (below_step HB.out hb)
  clear hb
  have XB_0 := XB.out.at_ 0 _ rfl
  have XB_1 := XB.out.at_ 1 _ rfl
  go_wp2_with fail
  clear XB_0 XB_1
  refine (CF2.out _ (HQ3.out.below HB.out) (HQ4.out.below HB.out)).mono ?_; rintro e w3 ⟨rfl, hb⟩
  replace XA := Lib.hid (XA.out.below hb)
  replace XB := Lib.hid (XB.out.below hb)
  replace HB := Lib.hid (below_step HB.out hb)
  clear hb
  have XA_0 := XA.out.at_ 0 _ rfl
  have XA_1 := XA.out.at_ 1 _ rfl
  go_wp2_with fail
  clear XA_0 XA_1
  refine (CV1.out _ (HQ1.out.below HB.out) (HQ2.out.below HB.out)).mono ?_; rintro e w4 ⟨rfl, hb⟩
  replace XA := Lib.hid (XA.out.below hb)
  replace XB := Lib.hid (XB.out.below hb)
  replace HB := Lib.hid (below_step HB.out hb)
  clear hb
  have XB_0 := XB.out.at_ 0 _ rfl
  have XB_1 := XB.out.at_ 1 _ rfl
  go_wp2_with fail
  clear XB_0 XB_1
  refine (CV2.out _ (HQ3.out.below HB.out) (HQ4.out.below HB.out)).mono ?_; rintro e w5 ⟨rfl, hb⟩
  replace XA := Lib.hid (XA.out.below hb)
  replace XB := Lib.hid (XB.out.below hb)
  replace HB := Lib.hid (below_step HB.out hb)
  clear hb
  have XA_0 := XA.out.at_ 0 _ rfl
  have XA_1 := XA.out.at_ 1 _ rfl
  have XB_0 := XB.out.at_ 0 _ rfl
  have XB_1 := XB.out.at_ 1 _ rfl
  go_wp2_with fail
  clear XA_0 XA_1 XB_0 XB_1
  go_loopw [5, 6] (fun s i wr => ∃ k : Nat, k ≤ N ∧ s = .bool (sm k) ∧ i = .int .i64 k ∧ Box wr w.heap.size #[.slice A1 N c1, .slice A2 N c2] 25 ∧ Box wr (w.heap.size + 1) #[.slice A3 M c3, v4] 25 ∧ Below w.heap.size w wr) (fun _ i _ => N - (intOf i).toNat)
  case atStart => exact ⟨0, Nat.zero_le _, by rw [HZERO.out]; congr 1; rw [Bool.eq_iff_iff]; simp; omega, rfl, XA.out, XB.out, HB.out⟩
  case round =>
    obtain ⟨k, hk, rfl, rfl, hxa, hxb, hb⟩ := hrel
    clear XA XB HB
    have XA := Lib.hid hxa
    have XB := Lib.hid hxb
    have HB := Lib.hid hb
    clear hxa hxb hb
    by_cases hlt : k < N
    · have hlt2 : (k : Int) < N := by omega
      have hk0 : (0 : Int) ≤ (k : Int) := by omega
      have hkn : k < ns.length := by rw [← HN.out]; exact hlt
      have hkz : k < zs.length := by rw [← HLZ.out]; exact hlt
      obtain ⟨x1, rfl, hr1⟩ := HS1.out (by omega)
      obtain ⟨x2, rfl, hr2⟩ := HS2.out (by omega)
      have hq1 : ∀ p : Lat wr, p.w.cell? (x1.add k) = some (.string (ns.getD k ⟨#[]⟩)) := fun p => (hr1.below (below_step HB.out p.h)).cells k hkn
      have hq2 : ∀ W, Below w.heap.size w W → W.cell? (x2.add k) = some (.int .i64 (zs.getD k 0)) := fun W hb => by
        rw [hb.cell (p := x2.add k) (by rw [block_of_add]; exact hr2.1)]
        exact hr2.2 k hlt
      have HQ := Lib.hid hq2
      have G := Lib.hid (fun W => CG.out W (ns.getD k ⟨#[]⟩))
      have NO := Lib.hid (SNO.out k)
      have BAD := Lib.hid (SBAD.out k)
      have GOOD := Lib.hid (SGOOD.out k)
      have hway := @get_same (getT ms ys (ns.getD k ⟨#[]⟩)) (zs.getD k 0)
      generalize getT ms ys (ns.getD k ⟨#[]⟩) = r at *
      generalize ns.getD k ⟨#[]⟩ = s at *
      generalize zs.getD k 0 = z at *
      generalize sm k = b0 at *
      generalize HB1 : sm (k + 1) = b1 at *
      have HS := Lib.hid HB1
      clear hq2 HB1 hr1 hr2 hkn hkz
      obtain ⟨rv, rb⟩ := r
      simp only [ret2b] at G hway
      have VG := Lib.hid (fun p : Lat wr => G.out p.w (HQ3.out.below (below_step HB.out p.h)) (HQ4.out.below (below_step HB.out p.h)))
      have XA_0 := XA.out.at_ 0 _ rfl
      go_wp2_with fail
      clear XA_0
      have l0 := XA.out.lat 0 _ rfl
      have l2 := XB.out.lat 0 _ rfl
      have l3 := XB.out.lat 1 _ rfl
      refine wp_region_lat (by kernel_rfl) (by kernel_rfl) ?_
      repeat (go_big_quiet_step (with_reducible exact lat_call (VG.out _)))
      refine wpQuiet_nil ?_; intro w6 hb
      clear l0 l2 l3 VG hq1
      replace XA := Lib.hid (XA.out.below hb)
      replace XB := Lib.hid (XB.out.below hb)
      replace HB := Lib.hid (below_step HB.out hb)
      clear hb
      have q2 := HQ.out w6 HB.out
      clear HQ
      cases b0
      · have hb1 : b1 = false := NO.out rfl
        subst hb1
        clear hway
        have XA_0 := XA.out.at_ 0 _ rfl
        have XA_1 := XA.out.at_ 1 _ rfl
        go_wp2_with fail
        clear XA_0 XA_1
        go_roundw
        case rel => exact ⟨k + 1, by omega, by rw [HS.out], by go_num, XA.out, XB.out, HB.out⟩
        case measure => simp [intOf]; omega
      rcases hway with ⟨rfl, hne⟩ | ⟨rfl, hne, f1⟩ | he
      · have hb1 : b1 = false := BAD.out hne
        subst hb1
        clear hne
        have XA_0 := XA.out.at_ 0 _ rfl
        have XA_1 := XA.out.at_ 1 _ rfl
        go_wp2_with fail
        clear XA_0 XA_1
        go_roundw
        case rel => exact ⟨k + 1, by omega, by rw [HS.out], by go_num, XA.out, XB.out, HB.out⟩
        case measure => simp [intOf]; omega
      · have hb1 : b1 = false := BAD.out hne
        subst hb1
        clear hne
        have XA_0 := XA.out.at_ 0 _ rfl
        have XA_1 := XA.out.at_ 1 _ rfl
        go_wp2_with fail
        clear XA_0 XA_1
        go_roundw
        case rel => exact ⟨k + 1, by omega, by rw [HS.out], by go_num, XA.out, XB.out, HB.out⟩
        case measure => simp [intOf]; omega
      · obtain ⟨rfl, rfl⟩ := Prod.mk.inj he
        have hb1 : b1 = true := GOOD.out rfl rfl
        subst hb1
        clear he
        have f1 : (rv == rv) = true := by simp
        have XA_0 := XA.out.at_ 0 _ rfl
        have XA_1 := XA.out.at_ 1 _ rfl
        go_wp2_with fail
        clear XA_0 XA_1
        go_roundw
        case rel => exact ⟨k + 1, by omega, by rw [HS.out], by go_num, XA.out, XB.out, HB.out⟩
        case measure => simp [intOf]; omega
    · have hlt2 : ¬ (k : Int) < N := by omega
      obtain rfl : k = N := by omega
      have hsame := HSAME.out
      generalize sm k = b0 at *
      obtain ⟨L1, hL1⟩ : ∃ L, L = e1.length := ⟨_, rfl⟩
      have hL2 : L1 = e2.length := by rw [hL1]; exact HSYM.out
      have hz : ((L1 : Int) == 0) = b0 := by rw [← hsame, hL1, Bool.eq_iff_iff]; simp
      have f0 : (L1 : Int) = 0 ↔ b0 = true := by rw [← hz]; simp
      have f1 : (L1 == L1) = true := by simp
      have f2 : ((L1 : Int) == (L1 : Int)) = true := by simp
      have f3 := beq_b2 b0
      have R1 := Lib.hid (HQ1.out.below HB.out)
      have R2 := Lib.hid (HQ2.out.below HB.out)
      have R3 := Lib.hid (HQ3.out.below HB.out)
      have R4 := Lib.hid (HQ4.out.below HB.out)
      have R5 := Lib.hid (HK.out.below HB.out)
      have R6 := Lib.hid (HM.out.below HB.out)
      have R7 := Lib.hid (HT.out.below HB.out)
      have E1 := Lib.hid hL1
      have E2 := Lib.hid hL2
      clear hL1 hL2 hsame f0 hlt hk HSYM HSAME
      have XA_0 := XA.out.at_ 0 _ rfl
      have XB_0 := XB.out.at_ 0 _ rfl
      go_wp2_with fail
      clear XA_0 XB_0
      refine wp_region_gen 21 (Kit.of [fSLn 2 [] e1 L1, fSLn 10 [] e1 L1, fSLn 14 [] e2 L1, fVal 19 [] (.bool true)]) (by kernel_rfl) (by kernel_rfl) (fun γ => by kernel_rfl) (by kernel_rfl) (Kit.of_stable ?_) (Kit.of_known ?_) ?_
      · intro z hz; simp only [List.mem_cons, List.not_mem_nil, or_false] at hz; rcases hz with rfl | rfl | rfl | rfl
        · apply fSLn_st
        · apply fSLn_st
        · apply fSLn_st
        · apply fVal_st
      · intro z hz; simp only [List.mem_cons, List.not_mem_nil, or_false] at hz; rcases hz with rfl | rfl | rfl | rfl
        · apply fSLn_kn
        · apply fSLn_kn
        · apply fSLn_kn
        · apply fVal_kn
      intro γ hγ C hC hne
      obtain ⟨P2, c2', k2⟩ : ∃ A c, γ 2 = .slice A L1 c := hγ 2 rfl
      obtain ⟨P10, c10, k10⟩ : ∃ A c, γ 10 = .slice A L1 c := hγ 10 rfl
      obtain ⟨P14, c14, k14⟩ : ∃ A c, γ 14 = .slice A L1 c := hγ 14 rfl
      have k19 : γ 19 = .bool true := hγ 19 rfl
      have l0 := XA.out.latC (C := C) 0 _ rfl
      have l1 := XA.out.latC (C := C) 1 _ rfl
      have l2 := XB.out.latC (C := C) 0 _ rfl
      have l3 := XB.out.latC (C := C) 1 _ rfl
      simp only [List.take_succ_cons, List.take_zero, List.drop_succ_cons, List.drop_zero]
      iterate 2 (refine wpF_quiet rfl ?_; go_big_quiet_step (fail); refine wpQuiet_nil ?_)
      refine wpF_fresh rfl (freshAt_call (args := #[.agg #[.slice A1 k c1, .slice A2 k c2], .agg #[.slice A3 M c3, v4]]) rfl _ _ _ (run_go Tryd.func13 (by kernel_rfl) (by kernel_rfl)) rfl (by simp [Act.eval]) (fun w' hb hf => (D1.out w' (R1.out.below hb) (R2.out.below hb) (R3.out.below hb) (R4.out.below hb)).mono fun e w2 ⟨v, he, h1, h2⟩ => ⟨v, he, ⟨E1.out, h1⟩, h2⟩)) ?_
      simp only [Nat.zero_add, Nat.reduceAdd, k2]
      go_simp
      iterate 7 (refine wpF_quiet rfl ?_; go_big_quiet_step (fail); refine wpQuiet_nil ?_)
      refine wpF_freshG rfl (freshA_call (args := #[.agg #[.slice A1 k c1, .slice A2 k c2], .agg #[.slice A3 M c3, v4]]) (by kernel_rfl) _ _ _ (run_go Tryd.func13 (by kernel_rfl) (by kernel_rfl)) rfl (by simp [Act.eval]) (fun w' hb hf => (D1.out w' (R1.out.below hb) (R2.out.below hb) (R3.out.below hb) (R4.out.below hb)).mono fun e w2 ⟨v, he, h1, h2⟩ => ⟨v, he, ⟨E1.out, h1⟩, h2⟩)) ?_
      simp only [Nat.zero_add, Nat.reduceAdd, k10]
      go_simp
      iterate 3 (refine wpF_quiet rfl ?_; go_big_quiet_step (fail); refine wpQuiet_nil ?_)
      refine wpF_freshG rfl (freshA_call (args := #[.agg #[.slice A3 M c3, v4], .agg #[.slice A1 k c1, .slice A2 k c2]]) (by kernel_rfl) _ _ _ (run_go Tryd.func13 (by kernel_rfl) (by kernel_rfl)) rfl (by simp [Act.eval]) (fun w' hb hf => (D2.out w' (R3.out.below hb) (R4.out.below hb) (R1.out.below hb) (R2.out.below hb)).mono fun e w2 ⟨v, he, h1, h2⟩ => ⟨v, he, ⟨E2.out, h1⟩, h2⟩)) ?_
      simp only [Nat.zero_add, Nat.reduceAdd, k14]
      go_simp
      iterate 4 (refine wpF_quiet rfl ?_; go_big_quiet_step (fail); refine wpQuiet_nil ?_)
      refine wpF_freshG rfl (freshA_call (args := #[]) (by kernel_rfl) _ _ _ (run_go Tryd.func11 (by kernel_rfl) (by kernel_rfl)) rfl (by simp [Act.eval]) (fun w' hb hf => (CW.out w' (R5.out.below hb) (R6.out.below hb) (R7.out.below hb)).mono fun e w2 ⟨he, h1⟩ => ⟨_, he, rfl, h1⟩)) ?_
      simp only [Nat.zero_add, Nat.reduceAdd, k19]
      go_simp
      iterate 1 (refine wpF_quiet rfl ?_; go_big_quiet_step (fail); refine wpQuiet_nil ?_)
      intro w9 hb hF
      clear l0 l1 l2 l3 hF hγ hC hne
      replace HB := Lib.hid (below_step HB.out hb)
      clear hb
      go_wp2_with fail
      go_ret
      exact ⟨rfl, HB.out⟩

end Go.Proofs.YtbjcbndmafddoaaDoor

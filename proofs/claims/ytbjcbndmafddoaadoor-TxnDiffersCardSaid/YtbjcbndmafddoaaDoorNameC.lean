/-
  Contracts of the references' names and variable names.
-/
import Derived.Test.YtbjcbndmafddoaaDoorNameB
namespace Go.Proofs.YtbjcbndmafddoaaDoor
open Go.RowKit
set_option linter.unusedVariables false
set_option linter.unusedSimpArgs false

theorem str_ne {a b : ByteArray} (h : a ≠ b) : (a.toList == b.toList) = false ∧ (a.toList != b.toList) = true := by
  have h2 : (a.toList == b.toList) = false := by
    have : ¬ a.toList = b.toList := fun e => h (by
      have e2 : a.data.toList = b.data.toList := by rw [← Lib.toList_data, ← Lib.toList_data]; exact e
      exact ba_eq e2)
    simpa using this
  exact ⟨h2, by simp [bne, h2]⟩
theorem SL.of_box {w : World} {g : Nat} {cs : Array Value} {t : TypeId} (h : Box w g cs t) (l : List ByteArray) (c : Nat) (hl : l.length ≤ c) (hcs : cs.toList = scells l) : SL w (.slice (some ⟨g, 0, none⟩) l.length c) l := by
  refine ⟨some ⟨g, 0, none⟩, c, rfl, hl, fun hp => ⟨_, rfl, ⟨h.lt, fun j hj => ?_⟩⟩⟩
  rw [add_none, Nat.zero_add]
  refine h.at_ j _ ?_
  rw [← Array.getElem?_toList, hcs]
  simp [scells, List.getD_eq_getElem?_getD, List.getElem?_eq_getElem hj]

set_option maxRecDepth 100000 in
set_option maxHeartbeats 4000000 in
theorem refKeywords (w : World) : Calls Tryd.prog 107 #[] w fun e w' => ∃ v, e = .returned v ∧ (SL w' v keyWords ∧ Below w.heap.size w w') := by
  go_enter Tryd.func107, Tryd.ntmps107
  go_wp2_with fail
  go_ret
  exact ⟨_, rfl, SL.of_box (Box.new _ _ _) keyWords 24 (by decide) rfl, below_alloc _ _⟩

theorem contains_hit {l : List ByteArray} {s : ByteArray} {k : Nat} (hk : k < l.length) (h : l.getD k ⟨#[]⟩ = s) : Lib.containsS l s = true := by
  rw [Lib.containsS_iff, ← h, List.getD_eq_getElem?_getD, List.getElem?_eq_getElem hk]
  exact List.getElem_mem hk
theorem contains_miss {l : List ByteArray} {s : ByteArray} (h : ∀ j, j < l.length → l.getD j ⟨#[]⟩ ≠ s) : Lib.containsS l s = false := by
  cases hc : Lib.containsS l s
  · rfl
  · obtain ⟨j, hj, he⟩ := List.mem_iff_getElem.1 ((Lib.containsS_iff _ _).1 hc)
    exact absurd (by rw [List.getD_eq_getElem?_getD, List.getElem?_eq_getElem hj]; exact he) (h j hj)

set_option maxRecDepth 100000 in
set_option maxHeartbeats 4000000 in
theorem refHas (w : World) (v : Value) (l : List ByteArray) (s : ByteArray) (h : SL w v l) (hn : l.length ≤ 9223372036854775807) :
    Calls Tryd.prog 106 #[v, .string s] w fun e w' => e = .returned (.bool (Lib.containsS l s)) ∧ w = w' := by
  obtain ⟨A, c, rfl, hc, hs⟩ := h
  have HC1 := Lib.hid (fun k hk h => contains_hit (l := l) (s := s) (k := k) hk h)
  have HC2 := Lib.hid (contains_miss (l := l) (s := s))
  obtain ⟨N, hN⟩ : ∃ N, N = l.length := ⟨_, rfl⟩
  rw [← hN] at hs hc hn HC1 HC2 ⊢
  have HS := Lib.hid hs
  have HN := Lib.hid hN
  generalize Lib.containsS l s = r at *
  clear hs hN
  go_enter Tryd.func106, Tryd.ntmps106
  go_wp2_with fail
  go_loop [5] (fun i => ∃ k : Nat, k ≤ N ∧ i = .int .i64 k ∧ Hid (∀ j, j < k → l.getD j ⟨#[]⟩ ≠ s)) (fun i => N - (intOf i).toNat)
  case atStart => exact ⟨0, Nat.zero_le _, rfl, (fun j hj => by omega)⟩
  case round =>
    obtain ⟨k, hk, rfl, hd⟩ := hrel
    by_cases hlt : k < N
    · have hlt2 : (k : Int) < N := by omega
      obtain ⟨a, rfl, hr⟩ := HS.out (by omega)
      by_cases he : l.getD k ⟨#[]⟩ = s
      · have HR := Lib.hid (HC1.out k hlt he)
        have hcell : w.cell? (a.add k) = some (.string s) := by rw [hr.cells k (by rw [← HN.out]; exact hlt), he]
        clear he hd hr
        go_wp2_with fail
        go_ret
        exact ⟨retb HR.out.symm, rfl⟩
      · have HD : Hid (∀ j, j < k + 1 → l.getD j ⟨#[]⟩ ≠ s) := fun j hj => by
          by_cases e : j = k
          · rw [e]; exact he
          · exact hd.out j (by omega)
        have hcell := hr.cells k (by rw [← HN.out]; exact hlt)
        obtain ⟨e1, e2⟩ := str_ne he
        generalize l.getD k ⟨#[]⟩ = x at *
        clear he hd hr
        go_wp2_with fail
        go_round
        case rel => exact ⟨k + 1, by omega, by go_num, HD⟩
        case measure => simp [intOf]; omega
    · have hlt2 : ¬ (k : Int) < N := by omega
      have HR := Lib.hid (HC2.out fun j hj => hd.out j (by omega))
      clear hd
      go_wp2_with fail
      go_ret
      exact ⟨retb HR.out.symm, rfl⟩

theorem refKey (s : ByteArray) (w : World) :
    Calls Tryd.prog 95 #[.string s] w fun e w' => e = .returned (.bool (isKey s)) ∧ Below w.heap.size w w' := by
  have C2 := Lib.hid (fun w v h => refHas w v keyWords s h (by decide))
  go_enter Tryd.func95, Tryd.ntmps95
  go_wp2_with fail
  refine (refKeywords _).mono ?_; rintro e w1 ⟨v, rfl, hs, hb⟩
  have HB := Lib.hid hb
  have HS := Lib.hid hs
  clear hb hs
  go_wp2_with fail
  refine (C2.out _ _ HS.out).mono ?_; rintro e w' ⟨rfl, rfl⟩
  go_wp2_with fail
  go_ret
  exact ⟨rfl, HB.out⟩

theorem name_no {s : ByteArray} {k : Nat} (hk : k < s.size) (h : innC (byt s k) = false) : nameB s = false := by
  cases hn : nameB s
  · rfl
  · have := (nameB_iff.1 hn).1.2.2 k hk; rw [h] at this; cases this

set_option maxRecDepth 100000 in
set_option maxHeartbeats 8000000 in
theorem refName (s : ByteArray) (w : World) (hs : s.size ≤ maxLen) :
    Calls Tryd.prog 78 #[.string s] w fun e w' => e = .returned (.bool (nameB s)) ∧ Below w.heap.size w w' := by
  unfold maxLen at hs
  have hno : nameB s = false → Hid (nameB s = false) := fun h => Lib.hid h
  by_cases hz : s.size = 0
  · have HR : Hid (nameB s = false) := hno (by
      cases hn : nameB s
      · rfl
      · have := (nameB_iff.1 hn).1.1; omega)
    have f1 : s.toList = [] := (str_empty2 s).2.2.2 hz
    clear hz hno
    go_enter Tryd.func78, Tryd.ntmps78
    go_wp2_with fail
    go_ret
    exact ⟨retb HR.out.symm, Below.refl _ _⟩
  have g1 : s.toList.isEmpty = false := by rw [(str_empty2 s).1]; exact decide_eq_false hz
  have g2 : ¬ s.toList = [] := fun h => hz ((str_empty2 s).2.2.1 h)
  by_cases h16 : 16 < s.size
  · have HR : Hid (nameB s = false) := hno (by
      cases hn : nameB s
      · rfl
      · have := (nameB_iff.1 hn).2.1; omega)
    have f2 : (16 : Int) < s.size := by omega
    clear hz hno h16
    go_enter Tryd.func78, Tryd.ntmps78
    go_wp2_with fail
    go_ret
    exact ⟨retb HR.out.symm, Below.refl _ _⟩
  have f2 : ¬ (16 : Int) < s.size := by omega
  have hpos : 0 < s.size := by omega
  have b0 := byt_at s 0 hpos
  have L1 := Lib.hid (fun w => refSmall (s[0].toNat : Int) w (by omega) (by have := s[0].toNat_lt; omega))
  by_cases hl : lowC (byt s 0) = true
  case neg =>
    have HR : Hid (nameB s = false) := hno (by
      cases hn : nameB s
      · rfl
      · exact absurd (nameB_iff.1 hn).1.2.1 hl)
    have hl2 : lowC (s[0].toNat : Int) = false := by rw [← b0]; simpa using hl
    rw [hl2] at L1
    clear hz hno h16 hl hl2 b0
    go_enter Tryd.func78, Tryd.ntmps78
    go_wp2_with fail
    refine (L1.out _).mono ?_; rintro e w' ⟨rfl, rfl⟩
    go_wp2_with fail
    go_ret
    exact ⟨retb HR.out.symm, Below.refl _ _⟩
  have hl2 : lowC (s[0].toNat : Int) = true := by rw [← b0]; exact hl
  rw [hl2] at L1
  have L2 := Lib.hid (fun w => refKey s w)
  have HW : Hid ((∀ j, j < s.size → innC (byt s j) = true) → nameB s = !isKey s) := Lib.hid fun h => by
    unfold nameB
    rw [decide_eq_true (show Wrd s from ⟨hpos, hl, h⟩), decide_eq_true (show s.size ≤ 16 by omega)]; rfl
  have HNK : Hid (isKey s = true → nameB s = false) := Lib.hid fun h => by unfold nameB; rw [h]; simp
  have HNI := Lib.hid (fun k hk h => name_no (s := s) (k := k) hk h)
  clear hno hl hl2 b0 h16 hz
  generalize nameB s = r at *
  generalize isKey s = ky at *
  cases ky
  case true =>
    have HR := Lib.hid (HNK.out rfl)
    go_enter Tryd.func78, Tryd.ntmps78
    go_wp2_with fail
    refine (L1.out _).mono ?_; rintro e w' ⟨rfl, rfl⟩
    go_wp2_with fail
    refine (L2.out _).mono ?_; rintro e w1 ⟨rfl, hb⟩
    have HB := Lib.hid hb
    clear hb
    go_wp2_with fail
    go_ret
    exact ⟨retb HR.out.symm, HB.out⟩
  go_enter Tryd.func78, Tryd.ntmps78
  go_wp2_with fail
  refine (L1.out _).mono ?_; rintro e w' ⟨rfl, rfl⟩
  go_wp2_with fail
  refine (L2.out _).mono ?_; rintro e w1 ⟨rfl, hb⟩
  have HB := Lib.hid hb
  clear hb
  go_wp2_with fail
  go_loop [3] (fun i => ∃ k : Nat, k ≤ s.size ∧ i = .int .i64 k ∧ Hid (∀ j, j < k → innC (byt s j) = true)) (fun i => s.size - (intOf i).toNat)
  case atStart => exact ⟨0, Nat.zero_le _, rfl, (fun j hj => by omega)⟩
  case round =>
    obtain ⟨k, hk, rfl, hd⟩ := hrel
    by_cases hlt : k < s.size
    · have bk := byt_at s k hlt
      have L3 := Lib.hid (fun w => refInner (s[k].toNat : Int) w (by omega) (by have := s[k].toNat_lt; omega))
      rw [← bk] at L3
      have BK := Lib.hid bk
      clear bk
      cases hi : innC (byt s k)
      · have HR := Lib.hid (HNI.out k hlt hi)
        rw [hi] at L3
        rw [BK.out] at L3
        clear hd hi
        go_wp2_with fail
        refine (L3.out _).mono ?_; rintro e w' ⟨rfl, rfl⟩
        go_wp2_with fail
        go_ret
        exact ⟨retb HR.out.symm, HB.out⟩
      · have HD := Lib.hid (wrd_step hd.out hi)
        rw [hi] at L3
        rw [BK.out] at L3
        clear hd hi
        go_wp2_with fail
        refine (L3.out _).mono ?_; rintro e w' ⟨rfl, rfl⟩
        go_wp2_with fail
        go_round
        case rel => exact ⟨k + 1, by omega, by go_num, HD⟩
        case measure => simp [intOf]; omega
    · have HR := Lib.hid (HW.out fun j hj => hd.out j (by omega))
      clear hd
      go_wp2_with fail
      go_ret
      exact ⟨retb (by rw [HR.out]; rfl), HB.out⟩

end Go.Proofs.YtbjcbndmafddoaaDoor

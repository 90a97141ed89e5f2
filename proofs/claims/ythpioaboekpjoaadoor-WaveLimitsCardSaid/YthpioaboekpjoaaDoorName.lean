/-
  The library's slices functions over slices that read as lists.
  Contracts of lexer and of its reference: names.
  Contracts of lexer and of its reference: words, keywords, names, variable names.
  Contracts of the references' names and variable names.
  Contracts of the reference's variable names.
-/
import Derived.Test.YthpioaboekpjoaaDoorBase
import Derived.Test.YthpioaboekpjoaaDoorShelf
import Derived.Test.YthpioaboekpjoaaDoorNum
import Derived.Laws.RangeAny
import Derived.LoopTactic
namespace Go.Proofs.YthpioaboekpjoaaDoor
section
open Go.RowKit
set_option linter.unusedVariables false

theorem cell_spot {w : World} {a : Addr} {v : Value} (h : w.cell? a = some v) : a.spot = none := by
  unfold World.cell? at h
  split at h
  · split at h
    · cases h
    · rename_i hs; simpa using hs
  · cases h
theorem add_none {b o : Nat} (j : Nat) : (⟨b, o, none⟩ : Addr).add j = ⟨b, o + j, none⟩ := by
  unfold Addr.add
  split
  · rename_i h; subst h; rfl
  · rfl
theorem add_zero (a : Addr) : a.add 0 = a := rfl
theorem RS.form {w : World} {a : Addr} {l : List ByteArray} (h : RS w a l) (hl : 0 < l.length) : ∃ b o, a = ⟨b, o, none⟩ ∧ b < w.heap.size ∧ ∀ j, j < l.length → w.cell? ⟨b, o + j, none⟩ = some (.string (l.getD j ⟨#[]⟩)) := by
  have h0 := cell_spot (h.cells 0 hl)
  obtain ⟨b, o, s⟩ := a
  rw [add_zero] at h0
  simp only at h0
  subst h0
  exact ⟨b, o, rfl, h.lt, fun j hj => by rw [← add_none]; exact h.cells j hj⟩
theorem IL.form {w : World} {v : Value} {l : List Int} (h : IL w v l) : (∃ A c, v = .slice A 0 c ∧ l = []) ∨ ∃ b o c, v = .slice (some ⟨b, o, none⟩) l.length c ∧ l.length ≤ c ∧ 0 < l.length ∧ b < w.heap.size ∧ ∀ j, j < l.length → w.cell? ⟨b, o + j, none⟩ = some (.int .i64 (l.getD j 0)) := by
  obtain ⟨A, c, rfl, hc, hs⟩ := h
  by_cases hl : l.length = 0
  · have : l = [] := List.eq_nil_of_length_eq_zero hl
    subst this
    exact .inl ⟨A, c, rfl, rfl⟩
  · obtain ⟨a, rfl, hlt, hcl⟩ := hs (by omega)
    have h0 := cell_spot (hcl 0 (by omega))
    obtain ⟨b, o, s⟩ := a
    rw [add_zero] at h0
    simp only at h0
    subst h0
    exact .inr ⟨b, o, c, rfl, hc, by omega, hlt, fun j hj => by rw [← add_none]; exact hcl j hj⟩
theorem SL.form {w : World} {v : Value} {l : List ByteArray} (h : SL w v l) : (∃ A c, v = .slice A 0 c ∧ l = []) ∨ ∃ b o c, v = .slice (some ⟨b, o, none⟩) l.length c ∧ l.length ≤ c ∧ 0 < l.length ∧ b < w.heap.size ∧ ∀ j, j < l.length → w.cell? ⟨b, o + j, none⟩ = some (.string (l.getD j ⟨#[]⟩)) := by
  obtain ⟨A, c, rfl, hc, hs⟩ := h
  by_cases hl : l.length = 0
  · have : l = [] := List.eq_nil_of_length_eq_zero hl
    subst this
    exact .inl ⟨A, c, rfl, rfl⟩
  · obtain ⟨a, rfl, hr⟩ := hs (by omega)
    obtain ⟨b, o, rfl, hlt, hcl⟩ := hr.form (by omega)
    exact .inr ⟨b, o, c, rfl, hc, by omega, hlt, hcl⟩

theorem slIndex (w : World) (v : Value) (l : List ByteArray) (x : ByteArray) (h : SL w v l) (hn : l.length ≤ 9223372036854775807) :
    Calls Tryd.prog 51 #[v, .string x] w fun e w' => e = .returned (.int .i64 (Lib.idxOfS l x)) ∧ w = w' := by
  rcases h.form with ⟨A, c, rfl, rfl⟩ | ⟨b, o, c, rfl, hc, hl, hlt, hcl⟩
  · exact (Tryd.slices_Index_string_empty A c x w).mono fun e w' ⟨he, hw⟩ => ⟨he, hw.symm⟩
  · refine (Tryd.slices_Index_string b o l.length c l x w (Nat.le_refl _) hn hcl).mono fun e w' ⟨he, hw⟩ => ⟨?_, hw.symm⟩
    rw [he, List.take_length]

theorem slContains (w : World) (v : Value) (l : List ByteArray) (x : ByteArray) (h : SL w v l) (hn : l.length ≤ 9223372036854775807) :
    Calls Tryd.prog 58 #[v, .string x] w fun e w' => e = .returned (.bool (Lib.containsS l x)) ∧ w = w' := by
  rcases h.form with ⟨A, c, rfl, rfl⟩ | ⟨b, o, c, rfl, hc, hl, hlt, hcl⟩
  · exact (Tryd.slices_Contains_string_empty A c x w).mono fun e w' ⟨he, hw⟩ => ⟨he, hw.symm⟩
  · refine (Tryd.slices_Contains_string b o l.length c l x w (Nat.le_refl _) hn hcl).mono fun e w' ⟨he, hw⟩ => ⟨?_, hw.symm⟩
    rw [he, List.take_length]

theorem slEqualS (w : World) (v v2 : Value) (l m : List ByteArray) (h : SL w v l) (h2 : SL w v2 m) (hn : l.length ≤ 9223372036854775807) (hm : m.length ≤ 9223372036854775807) :
    Calls Tryd.prog 59 #[v, v2] w fun e w' => e = .returned (.bool (decide (l = m))) ∧ Below w.heap.size w w' := by
  rcases h.form with ⟨A, c, rfl, rfl⟩ | ⟨b, o, c, rfl, hc, hl, hlt, hcl⟩
  · obtain ⟨A2, c2, rfl, _, _⟩ := h2
    refine (Tryd.slices_Equal_string_empty A A2 c m.length c2 w hm).mono fun e w' ⟨he, hw⟩ => ⟨?_, by rw [hw]; exact Below.refl _ _⟩
    rw [he]; congr 2
    exact decide_eq_decide.2 ⟨fun h => (List.eq_nil_of_length_eq_zero h).symm, fun h => by rw [← h]; rfl⟩
  · rcases h2.form with ⟨A2, c2, rfl, rfl⟩ | ⟨b2, o2, c2, rfl, hc2, hl2, hlt2, hcl2⟩
    · refine (Tryd.slices_Equal_string_lens _ _ l.length c 0 c2 w (by omega)).mono fun e w' ⟨he, hw⟩ => ⟨?_, by rw [hw]; exact Below.refl _ _⟩
      rw [he, decide_eq_false (fun h => by rw [h] at hl; simp at hl)]
    · refine (Tryd.slices_Equal_string b o l.length c b2 o2 m.length c2 l m w (Nat.le_refl _) (Nat.le_refl _) hn hm hcl hcl2).mono fun e w' ⟨he, n, hw⟩ => ⟨?_, by rw [hw]; exact below_drewN (Below.refl _ _) n⟩
      rw [he, List.take_length, List.take_length]

theorem owns_nil (w : World) (base : Nat) (e : TypeId) (size : Nat) : w.ownsRow base e size (.slice none 0 0) 0 [] := by
  refine ⟨by simp, .inl ⟨rfl, rfl⟩⟩
theorem slCloneS (w : World) (v : Value) (l : List ByteArray) (h : SL w v l) (hn : l.length * 16 ≤ 140737488355328) :
    Calls Tryd.prog 56 #[v] w fun e w' => ∃ v', e = .returned v' ∧ (w'.ownsRow w.heap.size 9 1 v' l.length (scells l) ∧ Below w.heap.size w w') := by
  rcases h.form with ⟨A, c, rfl, rfl⟩ | ⟨b, o, c, rfl, hc, hl, hlt, hcl⟩
  · cases A with
    | none => exact (Tryd.slices_Clone_string_nil 0 c w).mono fun e w' ⟨he, hw⟩ => ⟨_, he, by rw [hw]; exact ⟨owns_nil _ _ _ _, Below.refl _ _⟩⟩
    | some a => exact (Tryd.slices_Clone_string_zero a c w).mono fun e w' ⟨v', he, ho, _, hb⟩ => ⟨v', he, ho, hb⟩
  · refine (Tryd.slices_Clone_string b o l.length c l w (Nat.le_refl _) hn hcl).mono fun e w' ⟨v', he, ho, _, hb⟩ => ⟨v', he, ?_, hb⟩
    rw [List.take_length] at ho; exact ho

theorem indexByte_ix (b : UInt8) : ∀ l : List UInt8, Lib.indexByte l b = if ix b l < l.length then (ix b l : Int) else -1
  | [] => by simp [Lib.indexByte, ix]
  | x :: l => by
    unfold Lib.indexByte
    rw [indexByte_ix b l]
    have hle := ix_le (b := b) l
    by_cases e : x = b
    · simp [ix, e]
    · have e2 : (x == b) = false := by simpa using e
      simp only [e2, ix, if_neg e, List.length_cons, Bool.false_eq_true, if_false]
      by_cases h : ix b l < l.length
      · have h3 : ((ix b l : Int) == -1) = false := by
          have : ¬ (ix b l : Int) = -1 := by omega
          exact beq_false_of_ne this
        simp only [if_pos h, if_pos (show ix b l + 1 < l.length + 1 by omega), h3]
        simp
      · simp only [if_neg h, if_neg (show ¬ ix b l + 1 < l.length + 1 by omega)]
        rfl

set_option maxRecDepth 100000 in
set_option maxHeartbeats 2000000 in
theorem liteCut (b : UInt8) (s : ByteArray) (w : World) (hs : s.size ≤ 9223372036854775807) :
    Calls Tryd.prog 93 #[.string s, .string ⟨#[b]⟩] w fun e w' => e = .returned (.tuple #[.string (preB b s), .string (posB b s), .bool (hasB b s)]) ∧ Below w.heap.size w w' := by
  have CI := Lib.hid (fun w => Tryd.stringslite_Index_one s b w)
  rw [indexByte_ix] at CI
  have hle := ix_le (b := b) s.data.toList
  have hH : Hid (hasB b s = decide (ix b s.data.toList < s.data.toList.length)) := Lib.hid rfl
  have hP : Hid (preB b s = s.extract 0 (ix b s.data.toList)) := Lib.hid (ba_eq (by rw [Lib.extract_data]; simp [preB]))
  have hQ : Hid (posB b s = s.extract (ix b s.data.toList + 1) s.size) := Lib.hid (ba_eq (by rw [Lib.extract_data]; simp only [posB]; exact (List.take_of_length_le (by rw [List.length_drop, Lib.size_eq]; omega)).symm))
  have hM : Hid (ix b s.data.toList = s.data.toList.length → preB b s = s ∧ posB b s = ⟨#[]⟩) := Lib.hid fun h => ⟨ba_eq (by simp only [preB, h]; exact List.take_of_length_le (Nat.le_refl _)), ba_eq (by simp [posB, h])⟩
  obtain ⟨n, hn⟩ : ∃ n, n = s.size := ⟨_, rfl⟩
  have hn2 : s.data.toList.length = n := by rw [hn, Lib.size_eq]
  rw [hn2] at CI hle hH hM
  generalize ix b s.data.toList = i at *
  obtain ⟨p, hp⟩ : ∃ p : ByteArray, p = ⟨#[b]⟩ := ⟨_, rfl⟩
  have hp1 : p.size = 1 := by rw [hp]; rfl
  rw [← hp] at CI ⊢
  generalize preB b s = x at *
  generalize posB b s = y at *
  generalize hasB b s = z at *
  by_cases h : i < n
  · rw [if_pos h] at CI
    have c1 : (0 : Int) ≤ (i : Int) := by omega
    have c2 : (i : Int) ≤ (s.size : Int) := by omega
    have c3 : (0 : Int) ≤ (i : Int) + (p.size : Int) := by omega
    have c4 : (i : Int) + (p.size : Int) ≤ (s.size : Int) := by omega
    have HZ : Hid (z = true) := Lib.hid (by rw [hH.out]; exact decide_eq_true h)
    have HP1 := Lib.hid hp1
    have HNN := Lib.hid hn
    clear hM hH hn2 hp hp1 h hle
    go_enter Tryd.func93, Tryd.ntmps93
    go_wp2_with fail
    refine (CI.out _).mono ?_; rintro e w' ⟨rfl, rfl⟩
    go_wp2_with fail
    go_region
    go_wp2_with fail
    go_ret3
    refine ⟨?_, below_drewN (Below.refl _ _) 1⟩
    rw [HZ.out, hP.out, hQ.out, HP1.out]
    rfl
  · rw [if_neg h] at CI
    have hi : i = n := by omega
    have HZ : Hid (z = false) := Lib.hid (by rw [hH.out]; exact decide_eq_false h)
    have hM2 := Lib.hid (hM.out hi)
    clear hM hH hn2 hp hp1 h hle hn hi hP hQ
    go_enter Tryd.func93, Tryd.ntmps93
    go_wp2_with fail
    refine (CI.out _).mono ?_; rintro e w' ⟨rfl, rfl⟩
    go_wp2_with fail
    go_ret3
    refine ⟨?_, Below.refl _ _⟩
    rw [HZ.out, hM2.out.1, hM2.out.2]
    rfl

set_option maxRecDepth 100000 in
set_option maxHeartbeats 2000000 in
theorem cutAt (b : UInt8) (s : ByteArray) (w : World) (hs : s.size ≤ 9223372036854775807) (h : MLen w) :
    Calls Tryd.prog 78 #[.string s, .string ⟨#[b]⟩] w fun e w' => e = .returned (.tuple #[.string (preB b s), .string (posB b s), .bool (hasB b s)]) ∧ Below w.heap.size w w' := by
  have CI := Lib.hid (fun w => liteCut b s w hs)
  obtain ⟨p, hp⟩ : ∃ p : ByteArray, p = ⟨#[b]⟩ := ⟨_, rfl⟩
  rw [← hp] at CI ⊢
  generalize preB b s = x at *
  generalize posB b s = y at *
  generalize hasB b s = z at *
  clear hp hs h
  go_enter Tryd.func78, Tryd.ntmps78
  go_wp2_with fail
  refine (CI.out _).mono ?_; rintro e w' ⟨rfl, hb⟩
  have HB := Lib.hid hb
  clear hb
  go_wp2_with fail
  go_ret3
  exact ⟨rfl, HB.out⟩
end

section
open Go.RowKit
set_option linter.unusedVariables false
set_option linter.unusedSimpArgs false

theorem lexLower (c : Int) (w : World) (h0 : -2147483648 ≤ c) (h1 : c ≤ 2147483647) :
    Calls Tryd.prog 107 #[.int .i32 c] w fun e w' => e = .returned (.bool (lowC c)) ∧ w = w' := by
  go_enter Tryd.func107, Tryd.ntmps107
  go_wp2
  all_goals
    go_ret
    refine ⟨retb ?_, rfl⟩
    unfold lowC
    first | (rw [eq_comm]; exact decide_eq_true (by omega)) | (rw [eq_comm]; exact decide_eq_false (by omega)) | (simp; omega)
theorem lexDigit (c : Int) (w : World) (h0 : -2147483648 ≤ c) (h1 : c ≤ 2147483647) :
    Calls Tryd.prog 118 #[.int .i32 c] w fun e w' => e = .returned (.bool (digC c)) ∧ w = w' := by
  go_enter Tryd.func118, Tryd.ntmps118
  go_wp2
  all_goals
    go_ret
    refine ⟨retb ?_, rfl⟩
    unfold digC
    first | (rw [eq_comm]; exact decide_eq_true (by omega)) | (rw [eq_comm]; exact decide_eq_false (by omega)) | (simp; omega)
theorem inn_ways (c : Int) : (lowC c = true ∧ innC c = true) ∨ (lowC c = false ∧ digC c = true ∧ innC c = true) ∨ (lowC c = false ∧ digC c = false ∧ 65 ≤ c ∧ c ≤ 90 ∧ innC c = true) ∨
    (lowC c = false ∧ digC c = false ∧ ¬ 65 ≤ c ∧ (c == 95) = false ∧ innC c = false) ∨ (lowC c = false ∧ digC c = false ∧ 65 ≤ c ∧ decide (c ≤ 90) = false ∧ (c == 95) = true ∧ innC c = true) ∨ (lowC c = false ∧ digC c = false ∧ 65 ≤ c ∧ decide (c ≤ 90) = false ∧ (c == 95) = false ∧ innC c = false) := by
  unfold lowC digC innC
  simp only [decide_eq_true_eq, decide_eq_false_iff_not, beq_iff_eq, beq_eq_false_iff_ne]
  omega

set_option maxHeartbeats 1000000 in
theorem lexFollows (c : Int) (w : World) (h0 : -2147483648 ≤ c) (h1 : c ≤ 2147483647) :
    Calls Tryd.prog 108 #[.int .i32 c] w fun e w' => e = .returned (.bool (innC c)) ∧ w = w' := by
  have L1 := Lib.hid (fun w => lexLower c w h0 h1)
  have L2 := Lib.hid (fun w => lexDigit c w h0 h1)
  have key := inn_ways c
  generalize lowC c = lo at *
  generalize digC c = di at *
  rcases key with ⟨rfl, hI⟩ | ⟨rfl, rfl, hI⟩ | ⟨rfl, rfl, k1, k2, hI⟩ | ⟨rfl, rfl, k1, k2, hI⟩ | ⟨rfl, rfl, k1, k2, k3, hI⟩ | ⟨rfl, rfl, k1, k2, k3, hI⟩
  all_goals
    have HI := Lib.hid hI
    clear hI
    go_enter Tryd.func108, Tryd.ntmps108
    go_wp2_with fail
    refine (L1.out _).mono ?_; rintro e w' ⟨rfl, rfl⟩
    go_wp2_with (refine (L2.out _).mono ?_; rintro e w' ⟨rfl, rfl⟩)
    go_ret
    exact ⟨retb HI.out.symm, rfl⟩

theorem refSmall (c : Int) (w : World) (h0 : 0 ≤ c) (h1 : c ≤ 255) :
    Calls Tryd.prog 96 #[.int .u8 c] w fun e w' => e = .returned (.bool (lowC c)) ∧ w = w' := by
  go_enter Tryd.func96, Tryd.ntmps96
  go_wp2
  all_goals
    go_ret
    refine ⟨retb ?_, rfl⟩
    unfold lowC
    first | (rw [eq_comm]; exact decide_eq_true (by omega)) | (rw [eq_comm]; exact decide_eq_false (by omega)) | (simp; omega)
theorem refDigit7 (c : Int) (w : World) (h0 : 0 ≤ c) (h1 : c ≤ 255) :
    Calls Tryd.prog 111 #[.int .u8 c] w fun e w' => e = .returned (.bool (digC c)) ∧ w = w' := by
  go_enter Tryd.func111, Tryd.ntmps111
  go_wp2
  all_goals
    go_ret
    refine ⟨retb ?_, rfl⟩
    unfold digC
    first | (rw [eq_comm]; exact decide_eq_true (by omega)) | (rw [eq_comm]; exact decide_eq_false (by omega)) | (simp; omega)

set_option maxHeartbeats 1000000 in
theorem refInner (c : Int) (w : World) (h0 : 0 ≤ c) (h1 : c ≤ 255) :
    Calls Tryd.prog 98 #[.int .u8 c] w fun e w' => e = .returned (.bool (innC c)) ∧ w = w' := by
  have L1 := Lib.hid (fun w => refSmall c w h0 h1)
  have L2 := Lib.hid (fun w => refDigit7 c w h0 h1)
  have key := inn_ways c
  generalize lowC c = lo at *
  generalize digC c = di at *
  rcases key with ⟨rfl, hI⟩ | ⟨rfl, rfl, hI⟩ | ⟨rfl, rfl, k1, k2, hI⟩ | ⟨rfl, rfl, k1, k2, hI⟩ | ⟨rfl, rfl, k1, k2, k3, hI⟩ | ⟨rfl, rfl, k1, k2, k3, hI⟩
  all_goals
    have HI := Lib.hid hI
    clear hI
    go_enter Tryd.func98, Tryd.ntmps98
    go_wp2_with fail
    refine (L1.out _).mono ?_; rintro e w' ⟨rfl, rfl⟩
    go_wp2_with (refine (L2.out _).mono ?_; rintro e w' ⟨rfl, rfl⟩)
    go_ret
    exact ⟨retb HI.out.symm, rfl⟩
end

section
open Go.RowKit
set_option linter.unusedVariables false
set_option linter.unusedSimpArgs false

/-- The program's table of keywords. -/
def KW (w : World) : Prop := ∃ v, w.cell? ⟨1, 0, none⟩ = some v ∧ SL w v keyWords
theorem KW.lt {w : World} (h : KW w) : 1 < w.heap.size := by
  obtain ⟨v, h, _⟩ := h
  rcases Nat.lt_or_ge 1 w.heap.size with hlt | hge
  · exact hlt
  · unfold World.cell? at h
    simp only [Array.getElem?_eq_none hge] at h
    cases h
theorem KW.below {w w' : World} (h : KW w) (hb : Below w.heap.size w w') : KW w' := by
  have hlt := h.lt
  obtain ⟨v, h1, h2⟩ := h
  exact ⟨v, by rw [hb.cell (p := ⟨1, 0, none⟩) hlt]; exact h1, h2.below hb⟩

theorem below_iter (w : World) (s : ByteArray) (p : Nat) : Below w.heap.size w (w.iter s p) := below_alloc w _
theorem wrd_step {s : ByteArray} {k : Nat} (h : ∀ j, j < k → innC (byt s j) = true) (hk : innC (byt s k) = true) : ∀ j, j < k + 1 → innC (byt s j) = true := fun j hj => by
  by_cases e : j = k
  · rw [e]; exact hk
  · exact h j (by omega)

theorem not_wrd {s : ByteArray} {k : Nat} (hk : k < s.size) (h : innC (byt s k) = false) : decide (Wrd s) = false :=
  decide_eq_false fun hw => by rw [hw.2.2 k hk] at h; cases h
theorem not_wrd0 {s : ByteArray} (h : lowC (byt s 0) = false) : decide (Wrd s) = false :=
  decide_eq_false fun hw => by rw [hw.2.1] at h; cases h
theorem high_no {c : Int} (h : 128 ≤ c) : lowC c = false ∧ innC c = false := by
  unfold lowC innC; exact ⟨decide_eq_false (by omega), decide_eq_false (by omega)⟩
theorem low_inn {c : Int} (h : lowC c = true) : innC c = true := by
  unfold lowC at h; unfold innC
  have := of_decide_eq_true h
  exact decide_eq_true (by omega)
theorem str_empty2 (d : ByteArray) : (d.toList.isEmpty = decide (d.size = 0)) ∧ ((!d.toList.isEmpty) = !decide (d.size = 0)) ∧ (d.toList = [] ↔ d.size = 0) := by
  have e : d.toList.isEmpty = decide (d.size = 0) := by
    rw [Lib.toList_data, Lib.size_eq]
    cases d.data.toList <;> simp
  refine ⟨e, by rw [e], ?_⟩
  rw [Lib.toList_data, Lib.size_eq]
  exact List.length_eq_zero_iff.symm

theorem ba_empty (s : ByteArray) : s = ByteArray.empty ↔ s.size = 0 := by
  constructor
  · intro h; rw [h]; rfl
  · intro h
    refine ba_eq ?_
    rw [Lib.size_eq] at h
    rw [List.eq_nil_of_length_eq_zero h]; rfl

set_option maxRecDepth 100000 in
set_option maxHeartbeats 8000000 in
theorem lexWord (s : ByteArray) (w : World) (hs : s.size ≤ maxLen) :
    Calls Tryd.prog 94 #[.string s] w fun e w' => e = .returned (.bool (decide (Wrd s))) ∧ Below w.heap.size w w' := by
  unfold maxLen at hs
  go_enter Tryd.func94, Tryd.ntmps94
  go_wp2_with fail
  go_loopw [] (fun wr => ∃ k : Nat, k ≤ s.size ∧ Hid (∀ j, j < k → innC (byt s j) = true) ∧ Hid (0 < k → lowC (byt s 0) = true) ∧ wr = w.iter s k) (fun wr => s.size - wr.iterPos w.heap.size)
  case atStart => exact ⟨0, Nat.zero_le _, (fun j h => by omega), (fun h => by omega), rfl⟩
  case round =>
    obtain ⟨k, hk, hd, hl, rfl⟩ := hrel
    by_cases hlt : k < s.size
    · have hbk := byt_at s k hlt
      have hbd := byt_bd s k
      obtain ⟨c, k', hnx, hc0, hc1, hway⟩ : ∃ (c : Int) (k' : Nat), (∀ ty, (Instr.next (.pointer (some ⟨w.heap.size, 0, none⟩)) true ty).run Tryd.prog (w.iter s k) = .ok (.tuple #[.bool true, .int .i64 k, .int .i32 c]) (w.iter s k')) ∧ 0 ≤ c ∧ c ≤ 2147483647 ∧
          ((c = byt s k ∧ k' = k + 1) ∨ (innC c = false ∧ innC (byt s k) = false ∧ lowC c = false)) := by
        by_cases ha : (s[k]'hlt).toNat < 128
        · exact ⟨byt s k, k + 1, fun ty => by rw [hbk]; exact run_next_ascii (P := Tryd.prog) w s k ty hlt ha, by omega, by omega, .inl ⟨rfl, rfl⟩⟩
        · have h1 := (decode_high s k hlt (by omega)).1
          have h2 := decode_le s k
          exact ⟨((Utf8.decode s k).1 : Int), k + (Utf8.decode s k).2, fun ty => run_next_any (P := Tryd.prog) w s k ty hlt, by omega, by omega, .inr ⟨(high_no (by omega)).2, (high_no (by rw [hbk]; omega)).2, (high_no (by omega)).1⟩⟩
      have L1 := Lib.hid (fun w => lexLower c w (by omega) hc1)
      have L2 := Lib.hid (fun w => lexFollows c w (by omega) hc1)
      have key : (lowC c = true ∧ innC c = true ∧ c = byt s k ∧ k' = k + 1) ∨ (lowC c = false ∧ innC c = true ∧ c = byt s k ∧ k' = k + 1) ∨ (lowC c = false ∧ innC c = false ∧ innC (byt s k) = false) := by
        rcases hway with ⟨e1, e2⟩ | ⟨e1, e2, e3⟩
        · cases hl : lowC c
          · cases hi : innC c
            · exact .inr (.inr ⟨rfl, rfl, by rw [← e1]; exact hi⟩)
            · exact .inr (.inl ⟨rfl, rfl, e1, e2⟩)
          · exact .inl ⟨rfl, low_inn hl, e1, e2⟩
        · exact .inr (.inr ⟨e3, e1, e2⟩)
      have HK : Hid (k' = k + 1 → ∀ W, W = w.iter s k' → W = w.iter s (k + 1)) := Lib.hid fun h W hW => by rw [hW, h]
      clear hway hbk hbd
      rcases key with ⟨h1, h2, h3, h4⟩ | ⟨h1, h2, h3, h4⟩ | ⟨h1, h2, h3⟩
      · have HD := Lib.hid (wrd_step hd.out (by rw [← h3]; exact h2))
        have HL : Hid (0 < k + 1 → lowC (byt s 0) = true) := Lib.hid fun _ => by
          by_cases h0 : k = 0
          · subst h0; rw [← h3]; exact h1
          · exact hl.out (by omega)
        rw [h1] at L1
        rw [h2] at L2
        have H4 := Lib.hid h4
        clear h1 h2 h3 h4 hd hl HK
        by_cases h0 : k = 0
        · have f0 : ((k : Int) == 0) = true := by simpa using h0
          clear h0
          go_wp2_with fail
          refine (L1.out _).mono ?_; rintro e w' ⟨rfl, rfl⟩
          go_wp2_with fail
          refine (L2.out _).mono ?_; rintro e w' ⟨rfl, rfl⟩
          go_wp2_with fail
          go_roundw
          case rel => exact ⟨k + 1, by omega, HD, HL, by rw [H4.out]⟩
          case measure => simp [H4.out]; omega
        · have f0 : ((k : Int) == 0) = false := by simpa using h0
          clear h0
          go_wp2_with fail
          refine (L2.out _).mono ?_; rintro e w' ⟨rfl, rfl⟩
          go_wp2_with fail
          go_roundw
          case rel => exact ⟨k + 1, by omega, HD, HL, by rw [H4.out]⟩
          case measure => simp [H4.out]; omega
      · by_cases h0 : k = 0
        · have f0 : ((k : Int) == 0) = true := by simpa using h0
          have HR := Lib.hid (not_wrd0 (s := s) (by rw [h0] at h3; rw [← h3]; exact h1))
          rw [h1] at L1
          clear h0 h1 h2 h3 h4 hd hl HK
          go_wp2_with fail
          refine (L1.out _).mono ?_; rintro e w' ⟨rfl, rfl⟩
          go_wp2_with fail
          go_ret
          exact ⟨retb HR.out.symm, below_iter _ _ _⟩
        · have f0 : ((k : Int) == 0) = false := by simpa using h0
          have HD := Lib.hid (wrd_step hd.out (by rw [← h3]; exact h2))
          have HL : Hid (0 < k + 1 → lowC (byt s 0) = true) := Lib.hid fun _ => hl.out (by omega)
          rw [h2] at L2
          have H4 := Lib.hid h4
          clear h0 h1 h2 h3 h4 hd hl HK
          go_wp2_with fail
          refine (L2.out _).mono ?_; rintro e w' ⟨rfl, rfl⟩
          go_wp2_with fail
          go_roundw
          case rel => exact ⟨k + 1, by omega, HD, HL, by rw [H4.out]⟩
          case measure => simp [H4.out]; omega
      · have HR := Lib.hid (not_wrd hlt h3)
        rw [h1] at L1
        rw [h2] at L2
        clear h1 h2 h3 hd hl HK
        by_cases h0 : k = 0
        · have f0 : ((k : Int) == 0) = true := by simpa using h0
          clear h0
          go_wp2_with fail
          refine (L1.out _).mono ?_; rintro e w' ⟨rfl, rfl⟩
          go_wp2_with fail
          go_ret
          exact ⟨retb HR.out.symm, below_iter _ _ _⟩
        · have f0 : ((k : Int) == 0) = false := by simpa using h0
          clear h0
          go_wp2_with fail
          refine (L2.out _).mono ?_; rintro e w' ⟨rfl, rfl⟩
          go_wp2_with fail
          go_ret
          exact ⟨retb HR.out.symm, below_iter _ _ _⟩
    · have hnx := fun ty => run_next_end (P := Tryd.prog) w s k ty hlt
      have HR : Hid ((!s.toList.isEmpty) = decide (Wrd s)) := by
        refine Lib.hid ?_
        rw [(str_empty2 s).2.1]
        by_cases hz : s.size = 0
        · rw [decide_eq_true hz, decide_eq_false (fun hw : Wrd s => by have := hw.1; omega)]; rfl
        · have hks : k = s.size := by omega
          rw [decide_eq_false hz, decide_eq_true (show Wrd s from ⟨by omega, hl.out (by omega), fun j hj => hd.out j (by omega)⟩)]; rfl
      clear hd hl
      go_wp2_with fail
      go_ret
      exact ⟨retb HR.out, below_iter _ _ _⟩

set_option maxRecDepth 100000 in
set_option maxHeartbeats 4000000 in
theorem lexKey (s : ByteArray) (w : World) (h : KW w) :
    Calls Tryd.prog 95 #[.string s] w fun e w' => e = .returned (.bool (isKey s)) ∧ w = w' := by
  obtain ⟨v, h1, h2⟩ := h
  have C := Lib.hid (slContains w v keyWords s h2 (by decide))
  clear h2
  go_enter Tryd.func95, Tryd.ntmps95
  go_wp2_with fail
  refine C.out.mono ?_; rintro e w' ⟨rfl, rfl⟩
  go_wp2_with fail
  go_ret
  exact ⟨rfl, rfl⟩

set_option maxRecDepth 100000 in
set_option maxHeartbeats 4000000 in
theorem lexName (s : ByteArray) (w : World) (hs : s.size ≤ maxLen) (h : KW w) :
    Calls Tryd.prog 79 #[.string s] w fun e w' => e = .returned (.bool (nameB s)) ∧ Below w.heap.size w w' := by
  have HK := Lib.hid h
  have C1 := Lib.hid (fun w => lexWord s w hs)
  have C2 := Lib.hid (fun w h => lexKey s w h)
  have HN : Hid (nameB s = (decide (Wrd s) && decide (s.size ≤ 16) && !isKey s)) := Lib.hid rfl
  generalize nameB s = r at *
  generalize decide (Wrd s) = q at *
  generalize isKey s = ky at *
  unfold maxLen at hs
  clear h
  cases q
  · go_enter Tryd.func79, Tryd.ntmps79
    go_wp2_with fail
    refine (C1.out _).mono ?_; rintro e w1 ⟨rfl, hb⟩
    have HB := Lib.hid hb
    clear hb
    go_wp2_with fail
    go_ret
    exact ⟨retb (by rw [HN.out]; rfl), HB.out⟩
  · by_cases h16 : s.size ≤ 16
    · have f : (s.size : Int) ≤ 16 := by omega
      have HN2 : Hid (r = !ky) := Lib.hid (by rw [HN.out, decide_eq_true h16]; rfl)
      clear HN
      go_enter Tryd.func79, Tryd.ntmps79
      go_wp2_with fail
      refine (C1.out _).mono ?_; rintro e w1 ⟨rfl, hb⟩
      have HB := Lib.hid hb
      clear hb
      go_wp2_with fail
      refine (C2.out _ (HK.out.below HB.out)).mono ?_; rintro e w' ⟨rfl, rfl⟩
      go_wp2_with fail
      go_ret
      exact ⟨retb (by rw [HN2.out]), HB.out⟩
    · have f : ¬ (s.size : Int) ≤ 16 := by omega
      have HN2 : Hid (r = false) := Lib.hid (by rw [HN.out, decide_eq_false h16]; rfl)
      clear HN
      go_enter Tryd.func79, Tryd.ntmps79
      go_wp2_with fail
      refine (C1.out _).mono ?_; rintro e w1 ⟨rfl, hb⟩
      have HB := Lib.hid hb
      clear hb
      go_wp2_with fail
      go_ret
      exact ⟨retb (by rw [HN2.out]), HB.out⟩
end

section
open Go.RowKit
set_option linter.unusedVariables false
set_option linter.unusedSimpArgs false

theorem str_ne {a b : ByteArray} (h : a ≠ b) : (a.toList == b.toList) = false ∧ (a.toList != b.toList) = true := by
  have h2 : (a.toList == b.toList) = false := by
    have : ¬ a.toList = b.toList := fun e => h (by
      have e2 : a.data.toList = b.data.toList := by rw [← Lib.toList_data, ← Lib.toList_data]; exact e
      exact ba_eq e2)
    simpa using this
  exact ⟨h2, by simp [bne, h2]⟩
theorem SL.of_box {w : World} {g : Nat} {cs : Array Value} {t : TypeId} (h : Box w g cs t) (l : List ByteArray) (c : Nat) (hl : l.length ≤ c) (hcs : cs.toList = scells l) : SL w (.slice (some ⟨g, 0, none⟩) l.length c) l := by
  refine ⟨some ⟨g, 0, none⟩, c, rfl, hl, fun hp => ⟨_, rfl, ⟨h.lt, fun j hj => ?_⟩⟩⟩
  rw [add_none, Nat.zero_add]
  refine h.at_ j _ ?_
  rw [← Array.getElem?_toList, hcs]
  simp [scells, List.getD_eq_getElem?_getD, List.getElem?_eq_getElem hj]

set_option maxRecDepth 100000 in
set_option maxHeartbeats 4000000 in
theorem refKeywords (w : World) : Calls Tryd.prog 110 #[] w fun e w' => ∃ v, e = .returned v ∧ (SL w' v keyWords ∧ Below w.heap.size w w') := by
  go_enter Tryd.func110, Tryd.ntmps110
  go_wp2_with fail
  go_ret
  exact ⟨_, rfl, SL.of_box (Box.new _ _ _) keyWords 24 (by decide) rfl, below_alloc _ _⟩

theorem contains_hit {l : List ByteArray} {s : ByteArray} {k : Nat} (hk : k < l.length) (h : l.getD k ⟨#[]⟩ = s) : Lib.containsS l s = true := by
  rw [Lib.containsS_iff, ← h, List.getD_eq_getElem?_getD, List.getElem?_eq_getElem hk]
  exact List.getElem_mem hk
theorem contains_miss {l : List ByteArray} {s : ByteArray} (h : ∀ j, j < l.length → l.getD j ⟨#[]⟩ ≠ s) : Lib.containsS l s = false := by
  cases hc : Lib.containsS l s
  · rfl
  · obtain ⟨j, hj, he⟩ := List.mem_iff_getElem.1 ((Lib.containsS_iff _ _).1 hc)
    exact absurd (by rw [List.getD_eq_getElem?_getD, List.getElem?_eq_getElem hj]; exact he) (h j hj)

set_option maxRecDepth 100000 in
set_option maxHeartbeats 4000000 in
theorem refHas (w : World) (v : Value) (l : List ByteArray) (s : ByteArray) (h : SL w v l) (hn : l.length ≤ 9223372036854775807) :
    Calls Tryd.prog 109 #[v, .string s] w fun e w' => e = .returned (.bool (Lib.containsS l s)) ∧ w = w' := by
  obtain ⟨A, c, rfl, hc, hs⟩ := h
  have HC1 := Lib.hid (fun k hk h => contains_hit (l := l) (s := s) (k := k) hk h)
  have HC2 := Lib.hid (contains_miss (l := l) (s := s))
  obtain ⟨N, hN⟩ : ∃ N, N = l.length := ⟨_, rfl⟩
  rw [← hN] at hs hc hn HC1 HC2 ⊢
  have HS := Lib.hid hs
  have HN := Lib.hid hN
  generalize Lib.containsS l s = r at *
  clear hs hN
  go_enter Tryd.func109, Tryd.ntmps109
  go_wp2_with fail
  go_loop [5] (fun i => ∃ k : Nat, k ≤ N ∧ i = .int .i64 k ∧ Hid (∀ j, j < k → l.getD j ⟨#[]⟩ ≠ s)) (fun i => N - (intOf i).toNat)
  case atStart => exact ⟨0, Nat.zero_le _, rfl, (fun j hj => by omega)⟩
  case round =>
    obtain ⟨k, hk, rfl, hd⟩ := hrel
    by_cases hlt : k < N
    · have hlt2 : (k : Int) < N := by omega
      obtain ⟨a, rfl, hr⟩ := HS.out (by omega)
      by_cases he : l.getD k ⟨#[]⟩ = s
      · have HR := Lib.hid (HC1.out k hlt he)
        have hcell : w.cell? (a.add k) = some (.string s) := by rw [hr.cells k (by rw [← HN.out]; exact hlt), he]
        clear he hd hr
        go_wp2_with fail
        go_ret
        exact ⟨retb HR.out.symm, rfl⟩
      · have HD : Hid (∀ j, j < k + 1 → l.getD j ⟨#[]⟩ ≠ s) := fun j hj => by
          by_cases e : j = k
          · rw [e]; exact he
          · exact hd.out j (by omega)
        have hcell := hr.cells k (by rw [← HN.out]; exact hlt)
        obtain ⟨e1, e2⟩ := str_ne he
        generalize l.getD k ⟨#[]⟩ = x at *
        clear he hd hr
        go_wp2_with fail
        go_round
        case rel => exact ⟨k + 1, by omega, by go_num, HD⟩
        case measure => simp [intOf]; omega
    · have hlt2 : ¬ (k : Int) < N := by omega
      have HR := Lib.hid (HC2.out fun j hj => hd.out j (by omega))
      clear hd
      go_wp2_with fail
      go_ret
      exact ⟨retb HR.out.symm, rfl⟩

theorem refKey (s : ByteArray) (w : World) :
    Calls Tryd.prog 97 #[.string s] w fun e w' => e = .returned (.bool (isKey s)) ∧ Below w.heap.size w w' := by
  have C2 := Lib.hid (fun w v h => refHas w v keyWords s h (by decide))
  go_enter Tryd.func97, Tryd.ntmps97
  go_wp2_with fail
  refine (refKeywords _).mono ?_; rintro e w1 ⟨v, rfl, hs, hb⟩
  have HB := Lib.hid hb
  have HS := Lib.hid hs
  clear hb hs
  go_wp2_with fail
  refine (C2.out _ _ HS.out).mono ?_; rintro e w' ⟨rfl, rfl⟩
  go_wp2_with fail
  go_ret
  exact ⟨rfl, HB.out⟩

theorem name_no {s : ByteArray} {k : Nat} (hk : k < s.size) (h : innC (byt s k) = false) : nameB s = false := by
  cases hn : nameB s
  · rfl
  · have := (nameB_iff.1 hn).1.2.2 k hk; rw [h] at this; cases this

set_option maxRecDepth 100000 in
set_option maxHeartbeats 8000000 in
theorem refName (s : ByteArray) (w : World) (hs : s.size ≤ maxLen) :
    Calls Tryd.prog 82 #[.string s] w fun e w' => e = .returned (.bool (nameB s)) ∧ Below w.heap.size w w' := by
  unfold maxLen at hs
  have hno : nameB s = false → Hid (nameB s = false) := fun h => Lib.hid h
  by_cases hz : s.size = 0
  · have HR : Hid (nameB s = false) := hno (by
      cases hn : nameB s
      · rfl
      · have := (nameB_iff.1 hn).1.1; omega)
    have f1 : s.toList = [] := (str_empty2 s).2.2.2 hz
    clear hz hno
    go_enter Tryd.func82, Tryd.ntmps82
    go_wp2_with fail
    go_ret
    exact ⟨retb HR.out.symm, Below.refl _ _⟩
  have g1 : s.toList.isEmpty = false := by rw [(str_empty2 s).1]; exact decide_eq_false hz
  have g2 : ¬ s.toList = [] := fun h => hz ((str_empty2 s).2.2.1 h)
  by_cases h16 : 16 < s.size
  · have HR : Hid (nameB s = false) := hno (by
      cases hn : nameB s
      · rfl
      · have := (nameB_iff.1 hn).2.1; omega)
    have f2 : (16 : Int) < s.size := by omega
    clear hz hno h16
    go_enter Tryd.func82, Tryd.ntmps82
    go_wp2_with fail
    go_ret
    exact ⟨retb HR.out.symm, Below.refl _ _⟩
  have f2 : ¬ (16 : Int) < s.size := by omega
  have hpos : 0 < s.size := by omega
  have b0 := byt_at s 0 hpos
  have L1 := Lib.hid (fun w => refSmall (s[0].toNat : Int) w (by omega) (by have := s[0].toNat_lt; omega))
  by_cases hl : lowC (byt s 0) = true
  case neg =>
    have HR : Hid (nameB s = false) := hno (by
      cases hn : nameB s
      · rfl
      · exact absurd (nameB_iff.1 hn).1.2.1 hl)
    have hl2 : lowC (s[0].toNat : Int) = false := by rw [← b0]; simpa using hl
    rw [hl2] at L1
    clear hz hno h16 hl hl2 b0
    go_enter Tryd.func82, Tryd.ntmps82
    go_wp2_with fail
    refine (L1.out _).mono ?_; rintro e w' ⟨rfl, rfl⟩
    go_wp2_with fail
    go_ret
    exact ⟨retb HR.out.symm, Below.refl _ _⟩
  have hl2 : lowC (s[0].toNat : Int) = true := by rw [← b0]; exact hl
  rw [hl2] at L1
  have L2 := Lib.hid (fun w => refKey s w)
  have HW : Hid ((∀ j, j < s.size → innC (byt s j) = true) → nameB s = !isKey s) := Lib.hid fun h => by
    unfold nameB
    rw [decide_eq_true (show Wrd s from ⟨hpos, hl, h⟩), decide_eq_true (show s.size ≤ 16 by omega)]; rfl
  have HNK : Hid (isKey s = true → nameB s = false) := Lib.hid fun h => by unfold nameB; rw [h]; simp
  have HNI := Lib.hid (fun k hk h => name_no (s := s) (k := k) hk h)
  clear hno hl hl2 b0 h16 hz
  generalize nameB s = r at *
  generalize isKey s = ky at *
  cases ky
  case true =>
    have HR := Lib.hid (HNK.out rfl)
    go_enter Tryd.func82, Tryd.ntmps82
    go_wp2_with fail
    refine (L1.out _).mono ?_; rintro e w' ⟨rfl, rfl⟩
    go_wp2_with fail
    refine (L2.out _).mono ?_; rintro e w1 ⟨rfl, hb⟩
    have HB := Lib.hid hb
    clear hb
    go_wp2_with fail
    go_ret
    exact ⟨retb HR.out.symm, HB.out⟩
  go_enter Tryd.func82, Tryd.ntmps82
  go_wp2_with fail
  refine (L1.out _).mono ?_; rintro e w' ⟨rfl, rfl⟩
  go_wp2_with fail
  refine (L2.out _).mono ?_; rintro e w1 ⟨rfl, hb⟩
  have HB := Lib.hid hb
  clear hb
  go_wp2_with fail
  go_loop [3] (fun i => ∃ k : Nat, k ≤ s.size ∧ i = .int .i64 k ∧ Hid (∀ j, j < k → innC (byt s j) = true)) (fun i => s.size - (intOf i).toNat)
  case atStart => exact ⟨0, Nat.zero_le _, rfl, (fun j hj => by omega)⟩
  case round =>
    obtain ⟨k, hk, rfl, hd⟩ := hrel
    by_cases hlt : k < s.size
    · have bk := byt_at s k hlt
      have L3 := Lib.hid (fun w => refInner (s[k].toNat : Int) w (by omega) (by have := s[k].toNat_lt; omega))
      rw [← bk] at L3
      have BK := Lib.hid bk
      clear bk
      cases hi : innC (byt s k)
      · have HR := Lib.hid (HNI.out k hlt hi)
        rw [hi] at L3
        rw [BK.out] at L3
        clear hd hi
        go_wp2_with fail
        refine (L3.out _).mono ?_; rintro e w' ⟨rfl, rfl⟩
        go_wp2_with fail
        go_ret
        exact ⟨retb HR.out.symm, HB.out⟩
      · have HD := Lib.hid (wrd_step hd.out hi)
        rw [hi] at L3
        rw [BK.out] at L3
        clear hd hi
        go_wp2_with fail
        refine (L3.out _).mono ?_; rintro e w' ⟨rfl, rfl⟩
        go_wp2_with fail
        go_round
        case rel => exact ⟨k + 1, by omega, by go_num, HD⟩
        case measure => simp [intOf]; omega
    · have HR := Lib.hid (HW.out fun j hj => hd.out j (by omega))
      clear hd
      go_wp2_with fail
      go_ret
      exact ⟨retb (by rw [HR.out]; rfl), HB.out⟩
end

section
open Go.RowKit
set_option linter.unusedVariables false
set_option linter.unusedSimpArgs false

/-- What Split says, its third result. -/
def SPT (w : World) (s : ByteArray) (e : Ending) (w' : World) : Prop := ∃ (a : ByteArray) (i : Int), e = .returned (.tuple #[.string a, .int .i64 i, .bool (decide (Elt s))]) ∧ Below w.heap.size w w'
theorem SPT.mk {w w' : World} {s : ByteArray} {a : ByteArray} {i : Int} {b : Bool} (h : b = decide (Elt s)) (hb : Below w.heap.size w w') : SPT w s (.returned (.tuple #[.string a, .int .i64 i, .bool b])) w' := ⟨a, i, by rw [h], hb⟩

set_option maxRecDepth 100000 in
set_option maxHeartbeats 8000000 in
theorem refSplit (s : ByteArray) (w : World) (hs : s.size ≤ 9223372036854775807) :
    Calls Tryd.prog 81 #[.string s] w (SPT w s) := by
  have hno : ¬ Elt s → Hid (false = decide (Elt s)) := fun h => Lib.hid (decide_eq_false h).symm
  by_cases h4 : s.size < 4
  · have HR := hno (fun h => by have := h.1; omega)
    have f : (s.size : Int) < 4 := by omega
    clear hno h4
    go_enter Tryd.func81, Tryd.ntmps81
    go_wp2_with fail
    go_ret3
    exact SPT.mk HR.out (Below.refl _ _)
  obtain ⟨n, hn⟩ : ∃ n, s.size = n + 4 := ⟨s.size - 4, by omega⟩
  have f4 : ¬ (s.size : Int) < 4 := by omega
  have l1 : s.size - 1 < s.size := by omega
  have l2 : s.size - 2 < s.size := by omega
  have l3 : s.size - 3 < s.size := by omega
  have b1 := byt_at s _ l1
  have b2 := byt_at s _ l2
  have b3 := byt_at s _ l3
  have HE : Hid (Elt s ↔ (s[s.size - 1].toNat : Int) = 93 ∧ (s[s.size - 3].toNat : Int) = 91 ∧ 48 ≤ (s[s.size - 2].toNat : Int) ∧ (s[s.size - 2].toNat : Int) < 56 ∧ nameB (s.extract 0 (s.size - 3)) = true) := Lib.hid (by
    rw [← b1, ← b2, ← b3]; unfold Elt
    constructor
    · exact fun h => h.2
    · exact fun h => ⟨by omega, h⟩)
  have C1 := Lib.hid (fun w => refName (s.extract 0 (s.size - 3)) w (by unfold maxLen; rw [Lib.size_eq, Lib.extract_data]; simp only [List.length_take, List.length_drop]; omega))
  have u1 := s[s.size - 1].toNat_lt
  have u2 := s[s.size - 2].toNat_lt
  have u3 := s[s.size - 3].toNat_lt
  have x1 : ((s.size : Int) - 1).toNat = s.size - 1 := by omega
  have x2 : ((s.size : Int) - 2).toNat = s.size - 2 := by omega
  have x3 : ((s.size : Int) - 3).toNat = s.size - 3 := by omega
  have y1 : 1 ≤ (s.size : Int) := by omega
  have y2 : 2 ≤ (s.size : Int) := by omega
  have y3 : 3 ≤ (s.size : Int) := by omega
  generalize nameB (s.extract 0 (s.size - 3)) = nb at *
  clear b1 b2 b3 hn h4
  by_cases k1 : (s[s.size - 1].toNat : Int) = 93
  case neg =>
    have HR := hno (fun h => k1 (HE.out.1 h).1)
    have f1 : ((s[s.size - 1].toNat : Int) != 93) = true := by simpa using k1
    clear hno k1
    go_enter Tryd.func81, Tryd.ntmps81
    go_wp2_with fail
    go_ret3
    exact SPT.mk HR.out (Below.refl _ _)
  have f1 : ((s[s.size - 1].toNat : Int) != 93) = false := by simpa using k1
  by_cases k3 : (s[s.size - 3].toNat : Int) = 91
  case neg =>
    have HR := hno (fun h => k3 (HE.out.1 h).2.1)
    have f3 : ((s[s.size - 3].toNat : Int) != 91) = true := by simpa using k3
    clear hno k1 k3
    go_enter Tryd.func81, Tryd.ntmps81
    go_wp2_with fail
    go_ret3
    exact SPT.mk HR.out (Below.refl _ _)
  have f3 : ((s[s.size - 3].toNat : Int) != 91) = false := by simpa using k3
  by_cases k5 : (s[s.size - 2].toNat : Int) < 48
  · have HR := hno (fun h => by have := (HE.out.1 h).2.2.1; omega)
    have k6 : (s[s.size - 2].toNat : Int) - 48 < 0 := by omega
    clear hno k1 k3
    go_enter Tryd.func81, Tryd.ntmps81
    go_wp2_with fail
    go_ret3
    exact SPT.mk HR.out (Below.refl _ _)
  have k6 : ¬ (s[s.size - 2].toNat : Int) - 48 < 0 := by omega
  by_cases k7 : 8 ≤ (s[s.size - 2].toNat : Int) - 48
  · have HR := hno (fun h => by have := (HE.out.1 h).2.2.2.1; omega)
    clear hno k1 k3
    go_enter Tryd.func81, Tryd.ntmps81
    go_wp2_with fail
    go_ret3
    exact SPT.mk HR.out (Below.refl _ _)
  have HR : Hid (nb = decide (Elt s)) := Lib.hid (by
    cases nb
    · exact (hno (fun h => by have := (HE.out.1 h).2.2.2.2; cases this)).out
    · exact (decide_eq_true (HE.out.2 ⟨k1, k3, by omega, by omega, rfl⟩)).symm)
  clear hno k1 k3
  cases nb
  all_goals
    go_enter Tryd.func81, Tryd.ntmps81
    go_wp2_with fail
    refine (C1.out _).mono ?_; rintro e w1 ⟨rfl, hb⟩
    have HB := Lib.hid hb
    clear hb
    go_wp2_with fail
    go_ret3
    exact SPT.mk HR.out HB.out

set_option maxRecDepth 100000 in
set_option maxHeartbeats 4000000 in
theorem refIsVar (s : ByteArray) (w : World) (hs : s.size ≤ 9223372036854775807) :
    Calls Tryd.prog 66 #[.string s] w fun e w' => e = .returned (.bool (varB s)) ∧ Below w.heap.size w w' := by
  have C1 := Lib.hid (fun w => refSplit s w hs)
  have C2 := Lib.hid (fun w => refName s w (by unfold maxLen; omega))
  have HV : Hid (varB s = (decide (Elt s) || nameB s)) := Lib.hid rfl
  unfold SPT at C1
  generalize varB s = r at *
  generalize decide (Elt s) = el at *
  generalize nameB s = nb at *
  cases el
  · have HR : Hid (r = nb) := Lib.hid (by rw [HV.out]; rfl)
    clear HV
    go_enter Tryd.func66, Tryd.ntmps66
    go_wp2_with fail
    refine (C1.out _).mono ?_; rintro e w1 ⟨a, i, rfl, hb⟩
    have HB := Lib.hid hb
    clear hb
    go_wp2_with fail
    refine (C2.out _).mono ?_; rintro e w2 ⟨rfl, hb⟩
    replace HB := Lib.hid (below_step HB.out hb)
    clear hb
    go_wp2_with fail
    go_ret
    exact ⟨retb (by rw [HR.out]), HB.out⟩
  · have HR : Hid (r = true) := Lib.hid (by rw [HV.out]; rfl)
    clear HV
    go_enter Tryd.func66, Tryd.ntmps66
    go_wp2_with fail
    refine (C1.out _).mono ?_; rintro e w1 ⟨a, i, rfl, hb⟩
    have HB := Lib.hid hb
    clear hb
    go_wp2_with fail
    go_ret
    exact ⟨retb (by rw [HR.out]), HB.out⟩
end
end Go.Proofs.YthpioaboekpjoaaDoor

/-
  Texts parted at a byte: strings.Split, and the reference's Parts.
  Contract of a pair's text: the reference's one.
  Contract of txn.Parse.
  Contract of the reference's Parse.
-/
import Derived.Test.YthpioaboekpjoaaDoorTxC
import Derived.Lib.SplitLaws
import Derived.Lib.CountLaws
import Derived.Test.YthpioaboekpjoaaDoorDec
namespace Go.Proofs.YthpioaboekpjoaaDoor
section
open Go.RowKit
set_option linter.unusedVariables false
set_option linter.unusedSimpArgs false

def mkB (l : List UInt8) : ByteArray := ⟨l.toArray⟩
/-- The parts of a text. -/
def words (b : UInt8) (s : ByteArray) : List ByteArray := (partsL b s.data.toList).map mkB
theorem words_ne (b : UInt8) (s : ByteArray) : words b s ≠ [] := by
  unfold words; simp [partsL_ne]
theorem words_cut {b : UInt8} {s : ByteArray} (h : hasB b s = true) : words b s = preB b s :: words b (posB b s) := by
  unfold words
  have hp := ix_parts s.data.toList (of_decide_eq_true h)
  conv => lhs; rw [hp]
  rw [partsL_cut b _ _ (ix_take_ne _)]
  rfl
theorem words_no {b : UInt8} {s : ByteArray} (h : hasB b s = false) : words b s = [s] := by
  unfold words
  have h2 := of_decide_eq_false h
  have h3 := ix_le (b := b) s.data.toList
  have hx : ix b s.data.toList = s.data.toList.length := by omega
  rw [partsL_no b _ fun x hx2 => ?_]
  · simp only [List.map_cons, List.map_nil]; congr 1
  · have := ix_take_ne (b := b) s.data.toList
    rw [hx, List.take_length] at this
    exact this x hx2
theorem split_words (b : UInt8) : ∀ (n : Nat) (s : ByteArray), s.size ≤ n → Lib.splitB ⟨#[b]⟩ 0 (Lib.countB s ⟨#[b]⟩) s = words b s := by
  intro n
  induction n with
  | zero =>
    intro s hs
    have hh : hasB b s = false := by
      unfold hasB
      have := ix_le (b := b) s.data.toList
      rw [Lib.size_eq] at hs
      exact decide_eq_false (by omega)
    have hi : Lib.indexB s ⟨#[b]⟩ = -1 := by
      show Lib.index s.data.toList [b] = -1
      rw [index_ix, if_neg (of_decide_eq_false hh)]
    rw [Lib.splitB_miss _ _ _ _ hi, words_no hh]
  | succ n ih =>
    intro s hs
    cases hh : hasB b s
    · have hi : Lib.indexB s ⟨#[b]⟩ = -1 := by
        show Lib.index s.data.toList [b] = -1
        rw [index_ix, if_neg (of_decide_eq_false hh)]
      rw [Lib.splitB_miss _ _ _ _ hi, words_no hh]
    · have hlt := of_decide_eq_true hh
      have hi : Lib.indexB s ⟨#[b]⟩ = (ix b s.data.toList : Int) := by
        show Lib.index s.data.toList [b] = _
        rw [index_ix, if_pos hlt]
      have e : s.extract (ix b s.data.toList + 1) s.size = posB b s := ba_eq (by unfold posB; rw [Lib.extract_to_end])
      rw [Lib.countB_hit s ⟨#[b]⟩ _ (Nat.le_refl 1) hi, Nat.add_comm 1, Lib.splitB_hit _ _ _ _ _ hi]
      rw [show (⟨#[b]⟩ : ByteArray).size = 1 from rfl, e, Nat.add_zero, preB_extract, words_cut hh, ih _ (by rw [posB_size]; omega)]
theorem words_len (b : UInt8) (s : ByteArray) : (words b s).length = Lib.countB s ⟨#[b]⟩ + 1 := by
  rw [← split_words b s.size s (Nat.le_refl _)]
  exact Lib.splitB_all ⟨#[b]⟩ (Nat.le_refl 1) _ _ _ rfl
theorem words_le (b : UInt8) (s : ByteArray) : (words b s).length ≤ s.size + 1 := by
  rw [words_len]
  have := Lib.countB_le ⟨#[b]⟩ (Nat.le_refl 1) s.size s (Nat.le_refl _)
  omega
theorem words_size (b : UInt8) : ∀ (n : Nat) (s : ByteArray), s.size ≤ n → ∀ p ∈ words b s, p.size ≤ s.size := by
  intro n
  induction n with
  | zero =>
    intro s hs p hp
    have hh : hasB b s = false := by
      unfold hasB
      have := ix_le (b := b) s.data.toList
      rw [Lib.size_eq] at hs
      exact decide_eq_false (by omega)
    rw [words_no hh] at hp
    rw [List.mem_singleton.1 hp]; exact Nat.le_refl _
  | succ n ih =>
    intro s hs p hp
    cases hh : hasB b s
    · rw [words_no hh] at hp
      rw [List.mem_singleton.1 hp]; exact Nat.le_refl _
    · have hlt := of_decide_eq_true hh
      rw [words_cut hh] at hp
      rcases List.mem_cons.1 hp with rfl | hp
      · rw [preB_size, Lib.size_eq]; omega
      · have h1 := posB_size b s
        have := ih _ (by omega) p hp
        omega

theorem strSplit (b : UInt8) (s : ByteArray) (w : World) (hs : s.size ≤ 2000000) (h : MLen w) :
    Calls Tryd.prog 34 #[.string s, .string ⟨#[b]⟩] w fun e w' => ∃ v, e = .returned v ∧ (SL w' v (words b s) ∧ Below w.heap.size w w') := by
  obtain ⟨m, hm⟩ := h
  refine (Tryd.strings_Split s ⟨#[b]⟩ m w (by omega) hm (Nat.le_refl 1)).mono fun e w' ⟨he, hw⟩ => ⟨_, he, ?_, ?_⟩
  · rw [hw, split_words b s.size s (Nat.le_refl _), ← words_len]
    exact SL.of_box (Box.new _ _ _) _ _ (Nat.le_refl _) (by simp [scells])
  · rw [hw]; exact below_alloc _ _

/-! The reference's Parts. -/
theorem words_seg {b : UInt8} {s : ByteArray} {f k : Nat} (hf : f ≤ k) (hk : k < s.size) (hn : ∀ j, f ≤ j → j < k → byt s j ≠ b.toNat) (hb : byt s k = b.toNat) :
    words b (mkB (s.data.toList.drop f)) = s.extract f k :: words b (mkB (s.data.toList.drop (k + 1))) := by
  have hlen : s.data.toList.length = s.size := (Lib.size_eq s).symm
  have e1 : s.data.toList.drop f = (s.extract f k).data.toList ++ b :: s.data.toList.drop (k + 1) := by
    rw [Lib.extract_data]
    have e2 := List.take_append_drop (k - f) (s.data.toList.drop f)
    rw [List.drop_drop, show f + (k - f) = k by omega] at e2
    have e3 : s.data.toList.drop k = b :: s.data.toList.drop (k + 1) := by
      rw [List.drop_eq_getElem_cons (by omega)]
      congr 1
      unfold byt at hb
      rw [List.getD_eq_getElem?_getD, List.getElem?_eq_getElem (by omega)] at hb
      simp only [Option.getD_some] at hb
      exact UInt8.toNat_inj.1 (by omega)
    rw [← e3, e2]
  have hno : ∀ x ∈ (s.extract f k).data.toList, x ≠ b := by
    intro x hx e
    rw [Lib.extract_data] at hx
    obtain ⟨j, hj, rfl⟩ := List.mem_iff_getElem.1 hx
    rw [List.length_take, List.length_drop] at hj
    have := hn (f + j) (by omega) (by omega)
    apply this
    unfold byt
    rw [List.getElem_take, List.getElem_drop] at e
    rw [List.getD_eq_getElem?_getD, List.getElem?_eq_getElem (by omega)]
    simp only [Option.getD_some]
    rw [e]
  unfold words
  show (partsL b (s.data.toList.drop f)).map mkB = _
  rw [e1, partsL_cut b _ _ hno, List.map_cons]
  rfl
theorem words_last {b : UInt8} {s : ByteArray} {f : Nat} (hf : f ≤ s.size) (hn : ∀ j, f ≤ j → j < s.size → byt s j ≠ b.toNat) :
    words b (mkB (s.data.toList.drop f)) = [s.extract f s.size] := by
  have hlen : s.data.toList.length = s.size := (Lib.size_eq s).symm
  have hno : ∀ x ∈ s.data.toList.drop f, x ≠ b := by
    intro x hx e
    obtain ⟨j, hj, rfl⟩ := List.mem_iff_getElem.1 hx
    rw [List.length_drop] at hj
    apply hn (f + j) (by omega) (by omega)
    unfold byt
    rw [List.getElem_drop] at e
    rw [List.getD_eq_getElem?_getD, List.getElem?_eq_getElem (by omega)]
    simp only [Option.getD_some]
    rw [e]
  unfold words
  show (partsL b (s.data.toList.drop f)).map mkB = _
  rw [partsL_no b _ hno, List.map_cons, List.map_nil]
  congr 1
  refine ba_eq ?_
  rw [Lib.extract_to_end]; rfl

set_option maxRecDepth 100000 in
set_option maxHeartbeats 8000000 in
theorem refPartsB (b : UInt8) (c : Int) (hcb : c = (b.toNat : Int)) (s : ByteArray) (w : World) (hs : s.size ≤ 2000000) :
    Calls Tryd.prog 38 #[.string s, .int .u8 c] w fun e w' => ∃ v, e = .returned v ∧ (w'.ownsRow w.heap.size 9 1 v (words b s).length (scells (words b s)) ∧ Below w.heap.size w w') := by
  obtain ⟨i0, hi, hz0, hz1, hz2⟩ := info_parts istr
  have HI := Lib.hid hi
  have HZ0 := Lib.hid hz0
  have HZ1 := Lib.hid hz1
  have HZ2 := Lib.hid hz2
  have hc0 : 0 ≤ c := by omega
  have hc1 : c ≤ 255 := by have := b.toNat_lt; omega
  have HCB := Lib.hid hcb
  have hwl := words_le b s
  have HW0 : Hid (words b s = [] ++ words b (mkB (s.data.toList.drop 0))) := Lib.hid rfl
  obtain ⟨WS, hWS⟩ : ∃ WS, WS = words b s := ⟨_, rfl⟩
  have HWS := Lib.hid hWS
  rw [← hWS] at hwl HW0 ⊢
  have HWL := Lib.hid hwl
  clear hi hz0 hz1 hz2 hcb hWS hwl
  go_enter Tryd.func38, Tryd.ntmps38
  go_wp2_with fail
  go_loopw [7, 6, 5] (fun i f o wr => ∃ (k q : Nat) (v0 : Value) (L : List ByteArray), k ≤ s.size + 1 ∧ v0 = o ∧ i = .int .i64 k ∧ f = .int .i64 q ∧ Hid ((k ≤ s.size ∧ q ≤ k ∧ WS = L ++ words b (mkB (s.data.toList.drop q)) ∧ ∀ j, q ≤ j → j < k → byt s j ≠ b.toNat) ∨ (k = s.size + 1 ∧ WS = L)) ∧ wr.ownsRow w.heap.size 9 1 v0 L.length (scells L) ∧ Below w.heap.size w wr) (fun i _ _ _ => s.size + 1 - (intOf i).toNat)
  case atStart => exact ⟨0, 0, _, [], Nat.zero_le _, rfl, rfl, rfl, Lib.hid (.inl ⟨Nat.zero_le _, Nat.le_refl _, HW0.out, fun j h1 h2 => by omega⟩), World.ownsRow_nil _ _ _ _, Below.refl _ _⟩
  case round =>
    obtain ⟨k, q, v0, L, hk, rfl, rfl, rfl, hinv, hown, hb⟩ := hrel
    have HOWN := Lib.hid hown
    have HB := Lib.hid hb
    clear hown hb
    rcases hinv.out with ⟨hk2, hqk, hws, hno⟩ | ⟨hk2, hws⟩
    · have hle : (k : Int) ≤ s.size := by omega
      have hLl : L.length ≤ 2000001 := by
        have := HWL.out
        rw [hws, List.length_append] at this
        omega
      have hseg : k = s.size ∨ (k < s.size ∧ byt s k = b.toNat) ∨ (k < s.size ∧ byt s k ≠ b.toNat) := by
        by_cases h1 : k = s.size
        · exact .inl h1
        · by_cases h2 : byt s k = b.toNat
          · exact .inr (.inl ⟨by omega, h2⟩)
          · exact .inr (.inr ⟨by omega, h2⟩)
      have HNO := Lib.hid hno
      have HWSQ := Lib.hid hws
      clear hinv hno hws
      rcases hseg with h1 | ⟨h1, h2⟩ | ⟨h1, h2⟩
      · -- the end of the text
        have HNEXT : Hid (WS = L ++ [s.extract q k]) := Lib.hid (by
          rw [HWSQ.out, words_last (by omega) (fun j h3 h4 => HNO.out j h3 (by omega)), h1])
        have f1 : ((k : Int) == (s.size : Int)) = true := by simpa using (by omega : (k : Int) = s.size)
        have f2 : (k == s.size) = true := by simpa using h1
        have HK1 := Lib.hid h1
        have hqk2 : (q : Int) ≤ k := by omega
        clear h1 HNO HWSQ
        go_wp2_with (at_builtin; refine wpList_append_own _ rfl _ _ 23 rfl w.heap.size 9 i0 (.string ⟨#[]⟩) 1 16 Tryd.underlying23 HI.out HZ0.out HZ1.out HZ2.out rfl (by decide) v0 L.length (scells L) rfl (HOWN.out.alloc _) ⟨wr.heap.size, 0, none⟩ 1 1 [.string (s.extract q k)] rfl rfl ?c1 ?c2 ?c3 ?c4 ?c5 ?_)
        case c1 => exact news1
        case c2 => intro u hu; simp at hu; subst hu; rfl
        case c3 => unfold maxLen; omega
        case c4 => omega
        case c5 => have := HB.out.size; simp; omega
        intro v' w5 hown5 hgrow _
        have HOWN5 : Hid (w5.ownsRow w.heap.size 9 1 v' (L ++ [s.extract q k]).length (scells (L ++ [s.extract q k]))) := Lib.hid (by
          rw [scells_snoc, List.length_append]; exact hown5)
        have HB5 := Lib.hid (below_grownB HB.out HB.out.size (Nat.le_refl _) HOWN.out hgrow)
        clear hown5 hgrow
        go_wp2_with fail
        go_roundw
        case rel => exact ⟨k + 1, k + 1, v', L ++ [s.extract q k], by omega, rfl, by go_num, by go_num, Lib.hid (.inr ⟨by rw [HK1.out], HNEXT.out⟩), HOWN5.out, HB5.out⟩
        case measure => simp [intOf]; omega
      · -- the byte
        have HNEXT : Hid (WS = (L ++ [s.extract q k]) ++ words b (mkB (s.data.toList.drop (k + 1)))) := Lib.hid (by
          rw [HWSQ.out, words_seg hqk h1 HNO.out h2]; simp)
        have f1 : ((k : Int) == (s.size : Int)) = false := by
          have : ¬ (k : Int) = s.size := by omega
          simpa using this
        have f2 : (k == s.size) = false := by
          have : ¬ k = s.size := by omega
          simpa using this
        have hbk := byt_at s k h1
        have f3 : ((s[k].toNat : Int) == c) = true := by
          rw [← hbk, HCB.out, h2]; simp
        have hqk2 : (q : Int) ≤ k := by omega
        clear h2 hbk HNO HWSQ
        go_wp2_with (at_builtin; refine wpList_append_own _ rfl _ _ 23 rfl w.heap.size 9 i0 (.string ⟨#[]⟩) 1 16 Tryd.underlying23 HI.out HZ0.out HZ1.out HZ2.out rfl (by decide) v0 L.length (scells L) rfl (HOWN.out.alloc _) ⟨wr.heap.size, 0, none⟩ 1 1 [.string (s.extract q k)] rfl rfl ?c1 ?c2 ?c3 ?c4 ?c5 ?_)
        case c1 => exact news1
        case c2 => intro u hu; simp at hu; subst hu; rfl
        case c3 => unfold maxLen; omega
        case c4 => omega
        case c5 => have := HB.out.size; simp; omega
        intro v' w5 hown5 hgrow _
        have HOWN5 : Hid (w5.ownsRow w.heap.size 9 1 v' (L ++ [s.extract q k]).length (scells (L ++ [s.extract q k]))) := Lib.hid (by
          rw [scells_snoc, List.length_append]; exact hown5)
        have HB5 := Lib.hid (below_grownB HB.out HB.out.size (Nat.le_refl _) HOWN.out hgrow)
        clear hown5 hgrow
        go_wp2_with fail
        go_roundw
        case rel => exact ⟨k + 1, k + 1, v', L ++ [s.extract q k], by omega, rfl, by go_num, by go_num, Lib.hid (.inl ⟨by omega, Nat.le_refl _, HNEXT.out, fun j h3 h4 => by omega⟩), HOWN5.out, HB5.out⟩
        case measure => simp [intOf]; omega
      · -- another byte
        have f1 : ((k : Int) == (s.size : Int)) = false := by
          have : ¬ (k : Int) = s.size := by omega
          simpa using this
        have f2 : (k == s.size) = false := by
          have : ¬ k = s.size := by omega
          simpa using this
        have hbk := byt_at s k h1
        have f3 : ((s[k].toNat : Int) == c) = false := by
          rw [← hbk, HCB.out]; simpa using h2
        have HN2 : Hid (∀ j, q ≤ j → j < k + 1 → byt s j ≠ b.toNat) := Lib.hid fun j h3 h4 => by
          by_cases e : j = k
          · rw [e]; exact h2
          · exact HNO.out j h3 (by omega)
        clear h2 hbk HNO
        go_wp2_with fail
        go_roundw
        case rel => exact ⟨k + 1, q, v0, L, by omega, rfl, by go_num, rfl, Lib.hid (.inl ⟨by omega, by omega, HWSQ.out, HN2.out⟩), HOWN.out, HB.out⟩
        case measure => simp [intOf]; omega
    · have hle : ¬ (k : Int) ≤ s.size := by omega
      have HSR : Hid (wr.ownsRow w.heap.size 9 1 v0 WS.length (scells WS)) := Lib.hid (by
        rw [hws]; exact HOWN.out)
      clear hinv hws HOWN hk2
      go_wp2_with fail
      go_ret
      exact ⟨_, rfl, HSR.out, HB.out⟩
theorem refParts (b : UInt8) (c : Int) (hcb : c = (b.toNat : Int)) (s : ByteArray) (w : World) (hs : s.size ≤ 2000000) :
    Calls Tryd.prog 38 #[.string s, .int .u8 c] w fun e w' => ∃ v, e = .returned v ∧ (SL w' v (words b s) ∧ Below w.heap.size w w') :=
  (refPartsB b c hcb s w hs).mono fun e w' ⟨v, he, h1, h2⟩ => ⟨v, he, SL.of_own h1, h2⟩
end

section
section
open Go.RowKit
set_option linter.unusedVariables false
set_option linter.unusedSimpArgs false

/-- What a pair's text denotes: the name, the value, the error. -/
noncomputable def partT (s : ByteArray) : ByteArray × Int × Int :=
  if hasB 61 s = false ∨ varB (preB 61 s) = false then (⟨#[]⟩, 0, 5) else if parE (posB 61 s) ≠ 0 then (⟨#[]⟩, 0, parE (posB 61 s)) else if wordB (parV (posB 61 s)) = false then (⟨#[]⟩, 0, 3) else (preB 61 s, parV (posB 61 s), 0)
theorem part_ways (s : ByteArray) : (hasB 61 s = false ∧ partT s = (⟨#[]⟩, 0, 5)) ∨ (hasB 61 s = true ∧ varB (preB 61 s) = false ∧ partT s = (⟨#[]⟩, 0, 5)) ∨ (hasB 61 s = true ∧ varB (preB 61 s) = true ∧ parE (posB 61 s) ≠ 0 ∧ partT s = (⟨#[]⟩, 0, parE (posB 61 s))) ∨
    (hasB 61 s = true ∧ varB (preB 61 s) = true ∧ parE (posB 61 s) = 0 ∧ wordB (parV (posB 61 s)) = false ∧ partT s = (⟨#[]⟩, 0, 3)) ∨ (hasB 61 s = true ∧ varB (preB 61 s) = true ∧ parE (posB 61 s) = 0 ∧ wordB (parV (posB 61 s)) = true ∧ partT s = (preB 61 s, parV (posB 61 s), 0)) := by
  unfold partT
  cases h1 : hasB 61 s <;> cases h2 : varB (preB 61 s) <;> simp
  by_cases h3 : parE (posB 61 s) = 0
  · right; cases h4 : wordB (parV (posB 61 s)) <;> simp [h3]
  · left; simp [h3]
def ret3s (r : ByteArray × Int × Int) : Ending := .returned (.tuple #[.string r.1, .int .i64 r.2.1, .int .i64 r.2.2])
def ret3p (r : ByteArray × Int × Int) : Ending := .returned (.tuple #[.agg #[.string r.1, .int .i64 r.2.1], .int .i64 r.2.2])

end
open Go.RowKit
set_option linter.unusedVariables false
set_option linter.unusedSimpArgs false

/-! The reference's one. -/
theorem parE_bad {d : ByteArray} (h : hasB 61 d = true) : parE d = 5 := by
  have hlt := of_decide_eq_true h
  have hbad : badForm d := by
    right; left
    intro hd
    -- the sign stands in the body
    have hx := byt_ix h
    have hsz : d.data.toList.length = d.size := (Lib.size_eq d).symm
    unfold body at hd
    by_cases hn : isNeg d = true
    · rw [if_pos hn] at hd
      unfold isNeg at hn
      have hn2 := of_decide_eq_true hn
      have hi : ix 61 d.data.toList ≠ 0 := fun h0 => by rw [h0] at hx; have := hn2.2; rw [hx] at this; simp at this
      have hs1 : (d.extract 1 d.size).size = d.size - 1 := by rw [Lib.size_eq, Lib.extract_data]; simp only [List.length_take, List.length_drop]; omega
      have := hd (ix 61 d.data.toList - 1) (by rw [hs1]; omega)
      have e : byt (d.extract 1 d.size) (ix 61 d.data.toList - 1) = byt d (ix 61 d.data.toList) := by
        unfold byt
        rw [Lib.extract_to_end, List.getD_eq_getElem?_getD, List.getElem?_drop, ← List.getD_eq_getElem?_getD, show 1 + (ix 61 d.data.toList - 1) = ix 61 d.data.toList by omega]
      rw [e, hx] at this
      simp at this
    · rw [if_neg hn] at hd
      have := hd (ix 61 d.data.toList) (by omega)
      rw [hx] at this
      simp at this
  unfold parE; rw [if_pos hbad]
end

section
section
open Go.RowKit
set_option linter.unusedVariables false
set_option linter.unusedSimpArgs false

theorem iint : (Tryd.prog.info? 3).map (fun i => (i.zero, i.size, i.bytes)) = some (some (.int .i64 0), 1, 8) := by kernel_rfl
noncomputable def prsRun : List ByteArray → List ByteArray → List Int → List ByteArray × List Int × Int
  | [], ns, zs => (ns, zs, 0)
  | x :: l, ns, zs => if (partT x).2.2 ≠ 0 then ([], [], (partT x).2.2) else if Lib.containsS ns (partT x).1 = true then ([], [], 8) else prsRun l (ns ++ [(partT x).1]) (zs ++ [(partT x).2.1])
theorem prs_nil (ns : List ByteArray) (zs : List Int) : prsRun [] ns zs = (ns, zs, 0) := rfl
theorem prs_bad {x : ByteArray} {l ns : List ByteArray} {zs : List Int} (h : (partT x).2.2 ≠ 0) : prsRun (x :: l) ns zs = ([], [], (partT x).2.2) := by simp only [prsRun]; rw [if_pos h]
theorem prs_dup {x : ByteArray} {l ns : List ByteArray} {zs : List Int} (h : (partT x).2.2 = 0) (h2 : Lib.containsS ns (partT x).1 = true) : prsRun (x :: l) ns zs = ([], [], 8) := by simp only [prsRun]; rw [if_neg (by simp [h]), if_pos h2]
theorem prs_go {x : ByteArray} {l ns : List ByteArray} {zs : List Int} (h : (partT x).2.2 = 0) (h2 : Lib.containsS ns (partT x).1 = false) : prsRun (x :: l) ns zs = prsRun l (ns ++ [(partT x).1]) (zs ++ [(partT x).2.1]) := by
  conv => lhs; rw [prsRun]
  rw [if_neg (by simp [h]), if_neg (by simp [h2])]
/-- What Parse denotes: names, values, error. -/
noncomputable def parseT (s : ByteArray) : List ByteArray × List Int × Int :=
  if s.size = 0 then ([], [], 0) else if (prsRun (words 32 s) [] []).2.2 = 0 ∧ 128 < (prsRun (words 32 s) [] []).1.length then ([], [], 2) else prsRun (words 32 s) [] []

/-! Rows and boxes of other types stay as they are when a row grows. -/
theorem rows_apart {w : World} {b1 b2 s1 s2 n1 n2 : Nat} {e1 e2 : TypeId} {v1 v2 : Value} {x1 x2 : List Value} (h1 : w.ownsRow b1 e1 s1 v1 n1 x1) (h2 : w.ownsRow b2 e2 s2 v2 n2 x2) (he : e1 ≠ e2) : v1.ownBlock = none ∨ v1.ownBlock ≠ v2.ownBlock := by
  rcases h1.2 with ⟨rfl, _⟩ | ⟨g, cap, cur, rfl, hg, hh, _⟩
  · left; simp [Value.ownBlock]
  · right
    rcases h2.2 with ⟨rfl, _⟩ | ⟨g2, cap2, cur2, rfl, _, hh2, _⟩
    · simp [Value.ownBlock]
    · intro h
      simp [Value.ownBlock] at h
      subst h
      rw [hh] at hh2
      simp only [Option.some.injEq, Obj.cells.injEq] at hh2
      exact he hh2.2.1
theorem box_apart {w : World} {g b s n : Nat} {t e : TypeId} {cs : Array Value} {v : Value} {xs : List Value} (hb : Box w g cs t) (h : w.ownsRow b e s v n xs) (he : t ≠ e) : some g ≠ v.ownBlock := by
  rcases h.2 with ⟨rfl, _⟩ | ⟨g2, cap, cur, rfl, hg, hh, _⟩
  · simp [Value.ownBlock]
  · intro h
    simp [Value.ownBlock] at h
    subst h
    unfold Box at hb
    rw [hb] at hh
    simp only [Option.some.injEq, Obj.cells.injEq] at hh
    exact he hh.2.1
theorem Box.keptT {w w3 : World} {g b s n : Nat} {t e : TypeId} {cs : Array Value} {v : Value} {xs : List Value} {o : Obj} (hb : Box w g cs t) (h : w.ownsRow b e s v n xs) (he : t ≠ e) (hg : (w.alloc o).grownBy w3 v.ownBlock) : Box w3 g cs t :=
  (hb.below (below_alloc _ _)).grownR hg (fun hq => box_apart hb h he hq.symm)
theorem Box.keptB {w w3 : World} {g b s n : Nat} {t e : TypeId} {cs : Array Value} {v : Value} {xs : List Value} {o : Obj} (hb : Box w g cs t) (h : w.ownsRow b e s v n xs) (hlt : g < b) (hg : (w.alloc o).grownBy w3 v.ownBlock) : Box w3 g cs t := hb.grownO h hlt hg
theorem own_keptT {w w3 : World} {b1 b2 s1 s2 n1 n2 : Nat} {e1 e2 : TypeId} {v1 v2 : Value} {x1 x2 : List Value} {o : Obj} (h1 : w.ownsRow b1 e1 s1 v1 n1 x1) (h2 : w.ownsRow b2 e2 s2 v2 n2 x2) (he : e1 ≠ e2) (hg : (w.alloc o).grownBy w3 v2.ownBlock) : w3.ownsRow b1 e1 s1 v1 n1 x1 :=
  (h1.alloc o).kept hg (rows_apart h1 h2 he)
theorem own_keptM {w w3 : World} {m b s n : Nat} {e : TypeId} {v : Value} {xs : List Value} (h : w.ownsRow b e s v n xs) (hm : m < b) (hg : w.grownBy w3 (some m)) : w3.ownsRow b e s v n xs :=
  h.kept hg (.inr fun he => by have := own_block h m he; omega)

theorem grown_set {a : Addr} {g : Nat} (ha : a.block = g) (w : World) (u : Value) : w.grownBy (w.setCell a u) (some g) := by
  subst ha
  exact ⟨rfl, rfl, rfl, by simp [World.setCell], fun k _ hne => by
    simp only [World.setCell, Array.getElem?_modify]
    rw [if_neg (fun h => hne (by rw [h]))]⟩

theorem own_setNe {w : World} {g base : Nat} {a : Addr} {e : TypeId} {size : Nat} {v u : Value} {n : Nat} {xs : List Value} (h : w.ownsRow base e size v n xs) (ha : a.block = g) (hg : g < base) : (w.setCell a u).ownsRow base e size v n xs :=
  h.kept (grown_set ha w u) (.inr fun e => by have := own_block h g e; omega)
theorem RS.of_box {w : World} {g : Nat} {l : List ByteArray} {t : TypeId} (h : Box w g (scells l).toArray t) : RS w ⟨g, 0, none⟩ l := by
  refine ⟨h.lt, fun j hj => ?_⟩
  rw [show (⟨g, 0, none⟩ : Addr).add j = ⟨g, j, none⟩ by unfold Addr.add; split <;> simp_all]
  exact h.at_ j _ (by simp [scells, List.getD_eq_getElem?_getD, List.getElem?_eq_getElem hj])
theorem strSplitB (b : UInt8) (s : ByteArray) (w : World) (hs : s.size ≤ 2000000) (h : MLen w) :
    Calls Tryd.prog 34 #[.string s, .string ⟨#[b]⟩] w fun e w' => ∃ c, e = .returned (.slice (some ⟨w.heap.size, 0, none⟩) (words b s).length c) ∧ (Box w' w.heap.size (scells (words b s)).toArray 9 ∧ Below w.heap.size w w') := by
  obtain ⟨m, hm⟩ := h
  refine (Tryd.strings_Split s ⟨#[b]⟩ m w (by omega) hm (Nat.le_refl 1)).mono fun e w' ⟨he, hw⟩ => ?_
  rw [split_words b s.size s (Nat.le_refl _)] at hw
  refine ⟨(words b s).length, by rw [words_len]; exact he, ?_, ?_⟩
  · rw [hw]; exact Box.new _ _ _
  · rw [hw]; exact below_alloc _ _
end
open Go.RowKit
set_option linter.unusedVariables false
set_option linter.unusedSimpArgs false

def RET (e : Ending) (w w' : World) (r : List ByteArray × List Int × Int) : Prop :=
  ∃ v1 v2, e = .returned (.tuple #[.agg #[v1, v2], .int .i64 r.2.2]) ∧ (SL w' v1 r.1 ∧ IL w' v2 r.2.1 ∧ Below w.heap.size w w')
theorem RET.no {w w' : World} {c : Int} (h : Below w.heap.size w w') : RET (.returned (.tuple #[.agg #[.slice none 0 0, .slice none 0 0], .int .i64 c])) w w' ([], [], c) :=
  ⟨_, _, rfl, SL.nil _, IL.nil _, h⟩
theorem prs_step {WS : List ByteArray} {k : Nat} (h : k < WS.length) {ns : List ByteArray} {zs : List Int} {r : List ByteArray × List Int × Int} (hr : r = prsRun (WS.drop k) ns zs) : r = prsRun (WS.getD k ⟨#[]⟩ :: WS.drop (k + 1)) ns zs := by
  rw [hr, List.drop_eq_getElem_cons h]
  simp [List.getD_eq_getElem?_getD, List.getElem?_eq_getElem h]

theorem below_z2 {w w4 : World} (h : Below w.heap.size w w4) (o : Obj) : Below w.heap.size w (((w4.setCell ⟨w.heap.size, 0, none⟩ (.slice none 0 0)).setCell ⟨w.heap.size, 1, none⟩ (.slice none 0 0)).alloc o) := by
  have h5 := (h.setCell (p := ⟨w.heap.size, 0, none⟩) (Nat.le_refl _) (.slice none 0 0)).setCell (p := ⟨w.heap.size, 1, none⟩) (Nat.le_refl _) (.slice none 0 0)
  exact h5.alloc h5.size _
theorem partT_size {x : ByteArray} (h : x.size ≤ 2000000) : (partT x).1.size ≤ 2000000 := by
  have h1 := preB_size 61 x
  have h2 := ix_le (b := 61) x.data.toList
  rw [← Lib.size_eq] at h2
  rcases part_ways x with ⟨_, hr⟩ | ⟨_, _, hr⟩ | ⟨_, _, _, hr⟩ | ⟨_, _, _, _, hr⟩ | ⟨_, _, _, _, hr⟩ <;> rw [hr]
  all_goals first | (show (ByteArray.mk #[]).size ≤ 2000000; decide) | (show (preB 61 x).size ≤ 2000000; omega)
end

section
open Go.RowKit
set_option linter.unusedVariables false
set_option linter.unusedSimpArgs false

theorem row_box {w : World} {base n : Nat} {v : Value} {l : List ByteArray} (h : w.ownsRow base 9 1 v n (scells l)) (hn : 0 < n) : ∃ g cap cur, v = .slice (some ⟨g, 0, none⟩) n cap ∧ base ≤ g ∧ Box w g cur 9 ∧ ∀ j, j < l.length → cur[j]? = some (.string (l.getD j ⟨#[]⟩)) := by
  have h0 := h
  rcases h.2 with ⟨_, h2⟩ | ⟨g, cap, cur, rfl, hg, hh, _⟩
  · omega
  · refine ⟨g, cap, cur, rfl, hg, hh, fun j hj => ?_⟩
    have hb : Box w g cur 9 := hh
    have := World.ownsRow.cells h0 (g := g) rfl j (.string (l.getD j ⟨#[]⟩)) (by simp [scells, List.getD_eq_getElem?_getD, List.getElem?_eq_getElem hj])
    rw [show (⟨g, 0, none⟩ : Addr).add j = ⟨g, j, none⟩ by unfold Addr.add; split <;> simp_all, hb.cell j] at this
    exact this
end
end Go.Proofs.YthpioaboekpjoaaDoor

/-
  The contract of num.Parse.
  The contract of num.Format, and that the examples of awake hold.
  The contracts of the reference's digits and Parse.
  The contract of the reference's Format.
  Plain laws of decimal forms: parsing the form of a number gives the number; what parses is the form of the number.
-/
import Derived.Test.YtldafnjbgjagiaaDoorNum
import Derived.Test.YtldafnjbgjagiaaDoorBase
import Derived.Lib.ConvBytes
import Derived.Lib.Strings
import Derived.Below
import Derived.WalkSmall
import Derived.Laws.IdiomStrings
import Derived.Lib.ItoaLen
namespace Go.Proofs.YtldafnjbgjagiaaDoor
section
open Go.RowKit

/-- The conversion of a string to bytes: a new row of cells, all else as before. -/
theorem conv_bytes (w : World) (d : ByteArray) : ∃ (C : Nat) (W1 : World), (convert 9 85 (.string d)).run Tryd.prog w = .ok (.slice (some ⟨w.heap.size, 0, none⟩) d.size C) W1 ∧
    (∀ j, j < d.size → W1.cell? ⟨w.heap.size, j, none⟩ = some (.int .u8 (byt d j))) ∧ Below w.heap.size w W1 := by
  refine ⟨_, _, Lib.run_convert_string_bytes w 9 85 5 d Tryd.underlying9 Tryd.underlying85 Tryd.underlying5, fun j hj => ?_, ?_⟩
  · exact Lib.bytesWorld_cell w _ d j hj
  · exact ⟨rfl, rfl, rfl, by rw [Lib.bytesWorld_size]; omega, fun k hk => Lib.bytesWorld_at_old w _ d k hk⟩

theorem toList_empty (d : ByteArray) : d.toList.isEmpty = decide (d.size = 0) := by
  obtain ⟨⟨l⟩⟩ := d
  have e : (ByteArray.mk ⟨l⟩).toList = l := by simp
  have e2 : (ByteArray.mk ⟨l⟩).size = l.length := rfl
  rw [e, e2]
  cases l <;> simp
theorem toList_nil {d : ByteArray} (h : d.size = 0) : d.toList = [] := by
  have := toList_empty d
  rw [h] at this
  simpa using this
end

section
open Go.RowKit

/-- The table that strconv reads is as the library's text lays it. -/
def Tab (w : World) : Prop := Lib.TabIs Tryd.prog w "internal/strconv.uint64pow10" .u64 Lib.pow10Tab
theorem gPow : Tryd.prog.globalNamed "internal/strconv.uint64pow10" = some 1 := by kernel_rfl
theorem Tab.lt {w : World} (h : Tab w) : 1 < w.heap.size := by
  have := Lib.TabIs.cell h gPow 0 (by decide)
  exact World.block_lt_of_cell? _ _ this
theorem Tab.below {w w' : World} (h : Tab w) (hb : Below w.heap.size w w') : Tab w' :=
  var?_below hb gPow h.lt h
theorem Tab.drewN {w : World} (h : Tab w) (n : Nat) : Tab (w.drewN n) := h
theorem below_grow (w : World) (n : Nat) (os : Array Obj) : Below w.heap.size w (Go.Sort.grow (w.drewN n) os) :=
  ⟨rfl, rfl, rfl, by show w.heap.size ≤ (w.heap ++ os).size; simp, fun k hk => by show (w.heap ++ os)[k]? = _; rw [Array.getElem?_append_left hk]⟩

/-- The decimal form of a number, as a string. -/
def fmtS (n : Int) : ByteArray := ⟨(Lib.itoa n).toArray⟩

theorem twelve : parV ⟨#[45, 49, 50]⟩ = -12 ∧ parE ⟨#[45, 49, 50]⟩ = 0 := by
  have hb : body ⟨#[45, 49, 50]⟩ = ⟨#[49, 50]⟩ := by decide
  have hn : isNeg ⟨#[45, 49, 50]⟩ = true := by decide
  have hg : ¬ badForm ⟨#[45, 49, 50]⟩ := by
    unfold badForm
    rw [hb]
    intro h
    rcases h with h | h | h
    · exact absurd h (by decide)
    · refine h ?_
      have : ∀ j, j < 2 → 48 ≤ byt ⟨#[49, 50]⟩ j ∧ byt ⟨#[49, 50]⟩ j ≤ 57 := by decide
      exact this
    · exact absurd h.1 (by decide)
  obtain ⟨p1, p2⟩ := par_good hg
  have hd : den ⟨#[45, 49, 50]⟩ = -12 := by unfold den; rw [hn, hb]; decide
  rw [p1, p2, hd]
  exact ⟨by decide, by decide⟩
end

section
open Go.RowKit

theorem toList_one (s : ByteArray) : (s.toList == [48]) = decide (s.size = 1 ∧ byt s 0 = 48) := by
  obtain ⟨⟨l⟩⟩ := s
  have e : (ByteArray.mk ⟨l⟩).toList = l := by simp
  have e2 : (ByteArray.mk ⟨l⟩).size = l.length := rfl
  have e3 : byt (ByteArray.mk ⟨l⟩) 0 = ((l.getD 0 0).toNat : Int) := rfl
  rw [e, e2, e3]
  match l with
  | [] => simp
  | [x] =>
    simp only [List.length_singleton, List.getD_cons_zero, true_and]
    rw [Bool.eq_iff_iff]
    simp only [beq_iff_eq, List.cons.injEq, and_true, decide_eq_true_eq]
    constructor
    · rintro rfl; rfl
    · intro h
      exact UInt8.toNat_inj.1 (by simpa using (by omega : x.toNat = 48))
  | x :: y :: r => simp
end

section
open Go.RowKit

theorem bytes_eq {b c : ByteArray} (h : b.data.toList = c.data.toList) : b = c := by
  obtain ⟨⟨l⟩⟩ := b
  obtain ⟨⟨m⟩⟩ := c
  simp at h
  rw [h]
theorem fmtS_data (n : Int) : (fmtS n).data.toList = Lib.itoa n := by simp [fmtS]
theorem dec_len {u : Nat} (h : u ≤ 9223372036854775808) : (Lib.decDigits u).length ≤ 21 := by
  by_cases hz : u = 0
  · subst hz
    rw [Lib.decDigits, dif_pos (by decide)]; simp
  · have h1 := Lib.itoa_neg u (by omega)
    have h2 := Lib.itoa_length_le (-(u : Int)) (by omega) (by omega)
    rw [h1] at h2
    simp at h2; omega
end

section
open Go.RowKit

/-- The value of a list of digits. -/
def lval (l : List UInt8) : Nat := l.foldl (fun a b => 10 * a + (b.toNat - 48)) 0
theorem lval_snoc (l : List UInt8) (c : UInt8) : lval (l ++ [c]) = 10 * lval l + (c.toNat - 48) := by simp [lval]
theorem take_snoc' (l : List UInt8) (k : Nat) (h : k < l.length) : l.take (k + 1) = l.take k ++ [l.getD k 0] := by
  rw [List.take_succ_eq_append_getElem h, List.getD_eq_getElem?_getD, List.getElem?_eq_getElem h]; rfl
theorem dvl_take (d : ByteArray) (k : Nat) (h : k ≤ d.size) : dvl d k = lval (d.data.toList.take k) := by
  induction k with
  | zero => rfl
  | succ k ih =>
    rw [take_snoc' _ _ (by rw [Lib.size_eq] at h; omega), lval_snoc, dvl_succ, ih (by omega)]
    unfold byt; omega
theorem dvl_all (d : ByteArray) : dvl d d.size = lval d.data.toList := by
  rw [dvl_take d d.size (Nat.le_refl _), List.take_of_length_le (by rw [Lib.size_eq]; exact Nat.le_refl _)]

/-- All are digits. -/
def ldig (l : List UInt8) : Prop := ∀ b ∈ l, 48 ≤ b.toNat ∧ b.toNat ≤ 57
theorem digs_list (d : ByteArray) : digs d d.size ↔ ldig d.data.toList := by
  constructor
  · intro h b hb
    obtain ⟨i, hi, rfl⟩ := List.mem_iff_getElem.1 hb
    have := h i (by rw [Lib.size_eq]; exact hi)
    unfold byt at this
    rw [List.getD_eq_getElem?_getD, List.getElem?_eq_getElem hi] at this
    simp only [Option.getD_some] at this
    omega
  · intro h j hj
    have hj' : j < d.data.toList.length := by rw [← Lib.size_eq]; exact hj
    have := h _ (List.getElem_mem hj')
    unfold byt
    rw [List.getD_eq_getElem?_getD, List.getElem?_eq_getElem hj']
    simp only [Option.getD_some]
    omega

theorem dec_ldig (u : Nat) : ldig (Lib.decDigits u) := by
  induction u using Nat.strongRecOn with
  | ind u ih =>
    rw [Lib.decDigits]
    split
    · intro b hb
      simp only [List.mem_singleton] at hb
      subst hb
      have : (UInt8.ofNat (48 + u)).toNat = 48 + u := by simp; omega
      rw [this]; omega
    · intro b hb
      rcases List.mem_append.1 hb with hb | hb
      · exact ih (u / 10) (by omega) b hb
      · simp only [List.mem_singleton] at hb
        subst hb
        have : (UInt8.ofNat (48 + u % 10)).toNat = 48 + u % 10 := by simp; omega
        rw [this]; omega
theorem dec_lval (u : Nat) : lval (Lib.decDigits u) = u := by
  induction u using Nat.strongRecOn with
  | ind u ih =>
    rw [Lib.decDigits]
    split
    · have : (UInt8.ofNat (48 + u)).toNat = 48 + u := by simp; omega
      simp only [lval, List.foldl_cons, List.foldl_nil]
      rw [this]; omega
    · have : (UInt8.ofNat (48 + u % 10)).toNat = 48 + u % 10 := by simp; omega
      rw [lval_snoc, ih (u / 10) (by omega), this]; omega
theorem dec_ne (u : Nat) : Lib.decDigits u ≠ [] := by
  rw [Lib.decDigits]; split <;> simp
theorem dec_head (u : Nat) (h : 1 ≤ u) : ((Lib.decDigits u).getD 0 0).toNat ≠ 48 := by
  induction u using Nat.strongRecOn with
  | ind u ih =>
    rw [Lib.decDigits]
    split
    · have : (UInt8.ofNat (48 + u)).toNat = 48 + u := by simp; omega
      simp only [List.getD_cons_zero]
      omega
    · have h1 := ih (u / 10) (by omega) (by omega)
      have h2 := dec_ne (u / 10)
      match hd : Lib.decDigits (u / 10) with
      | [] => exact absurd hd h2
      | x :: r => rw [hd] at h1; simpa using h1
theorem dec_small (u : Nat) (h : u < 10) : (Lib.decDigits u).length = 1 := by
  rw [Lib.decDigits, dif_pos h]; rfl

theorem lval_pos (x : UInt8) (r : List UInt8) (h : 49 ≤ x.toNat) : 1 ≤ lval (x :: r) := by
  have : ∀ (r : List UInt8) (a : Nat), 1 ≤ a → 1 ≤ r.foldl (fun a b => 10 * a + (b.toNat - 48)) a := by
    intro r
    induction r with
    | nil => intro a h; exact h
    | cons y r ih => intro a h; exact ih _ (by show 1 ≤ 10 * a + (y.toNat - 48); omega)
  exact this r _ (by show 1 ≤ 10 * 0 + (x.toNat - 48); omega)
/-- A list of digits without a leading zero is the decimal form of its value. -/
theorem dec_of_lval (n : Nat) : ∀ l : List UInt8, l.length = n + 1 → ldig l → ((l.getD 0 0).toNat ≠ 48 ∨ l.length = 1) → Lib.decDigits (lval l) = l := by
  induction n with
  | zero =>
    intro l hl hd _
    match l, hl with
    | [c], _ =>
      have hc := hd c (by simp)
      have hv : lval [c] = c.toNat - 48 := by simp [lval]
      rw [hv, Lib.decDigits, dif_pos (by omega)]
      have : UInt8.ofNat (48 + (c.toNat - 48)) = c := by
        rw [show 48 + (c.toNat - 48) = c.toNat by omega]; simp
      rw [this]
  | succ n ih =>
    intro l hl hd hh
    have hne : l ≠ [] := by intro e; rw [e] at hl; simp at hl
    obtain ⟨l', c, rfl⟩ : ∃ l' c, l = l' ++ [c] := ⟨l.dropLast, l.getLast hne, (List.dropLast_concat_getLast hne).symm⟩
    have hl' : l'.length = n + 1 := by simpa using hl
    have hd' : ldig l' := fun b hb => hd b (List.mem_append_left _ hb)
    have hc := hd c (by simp)
    match l', hl' with
    | x :: r, hl' =>
      have hx : x.toNat ≠ 48 := by
        rcases hh with h | h
        · simpa using h
        · simp at h
      have hx' := hd' x (by simp)
      have hp := lval_pos x r (by omega)
      rw [lval_snoc, Lib.decDigits, dif_neg (by omega)]
      rw [show (10 * lval (x :: r) + (c.toNat - 48)) / 10 = lval (x :: r) by omega, ih _ hl' hd' (.inl hx)]
      have : UInt8.ofNat (48 + (10 * lval (x :: r) + (c.toNat - 48)) % 10) = c := by
        rw [show 48 + (10 * lval (x :: r) + (c.toNat - 48)) % 10 = c.toNat by omega]; simp
      rw [this]

theorem byt_zero (d : ByteArray) : byt d 0 = ((d.data.toList.getD 0 0).toNat : Int) := rfl

/-- The decimal form of a number parses to the number. -/
theorem par_fmt (n : Int) (h0 : -9223372036854775808 ≤ n) (h1 : n ≤ 9223372036854775807) : parV (fmtS n) = n ∧ parE (fmtS n) = 0 := by
  have key : ∀ (d : ByteArray) (u : Nat), body (fmtS n) = d → d.data.toList = Lib.decDigits u → isNeg (fmtS n) = decide (n < 0) → u = n.natAbs → parV (fmtS n) = n ∧ parE (fmtS n) = 0 := by
    intro d u hb hd hn hu
    have hg : ¬ badForm (fmtS n) := by
      unfold badForm
      rw [hb]
      intro h
      rcases h with h | h | ⟨h, h2⟩
      · rw [Lib.size_eq, hd] at h
        exact dec_ne u (List.eq_nil_of_length_eq_zero h)
      · exact h ((digs_list d).2 (by rw [hd]; exact dec_ldig u))
      · rw [byt_zero, hd] at h
        have hu0 : u = 0 := by
          apply Classical.byContradiction
          intro e
          exact dec_head u (by omega) (by omega)
        rcases h2 with h2 | h2
        · rw [Lib.size_eq, hd, dec_small u (by omega)] at h2; omega
        · rw [hn] at h2; simp at h2; omega
    obtain ⟨p1, p2⟩ := par_good hg
    have hden : den (fmtS n) = n := by
      unfold den
      rw [hb, hn, dvl_all, hd, dec_lval]
      by_cases h : n < 0
      · rw [if_pos (by simpa using h)]; omega
      · rw [if_neg (by simpa using h)]; omega
    rw [p1, p2, hden]
    exact ⟨cV_yes h0 h1, cE_yes h0 h1⟩
  by_cases hn : n < 0
  · have e : (fmtS n).data.toList = 45 :: Lib.decDigits n.natAbs := by
      rw [fmtS_data]; unfold Lib.itoa; rw [if_pos hn]
    have hneg : isNeg (fmtS n) = true := by
      unfold isNeg
      simp only [decide_eq_true_eq]
      refine ⟨by rw [Lib.size_eq, e]; simp, by rw [byt_zero, e]; rfl⟩
    refine key _ n.natAbs rfl ?_ (by rw [hneg]; simpa using hn) rfl
    unfold body
    rw [if_pos hneg, Lib.extract_data, e]
    rw [Lib.size_eq, e]
    simp
  · have e : (fmtS n).data.toList = Lib.decDigits n.natAbs := by
      rw [fmtS_data]; unfold Lib.itoa; rw [if_neg hn]; congr 1; omega
    have hneg : isNeg (fmtS n) = false := by
      unfold isNeg
      simp only [decide_eq_false_iff_not]
      rintro ⟨_, h⟩
      rw [byt_zero, e] at h
      match hd : Lib.decDigits n.natAbs with
      | [] => exact dec_ne _ hd
      | x :: r =>
        have := dec_ldig n.natAbs x (by rw [hd]; simp)
        rw [hd] at h
        simp at h
        omega
    refine key _ n.natAbs ((body_size _).2 hneg) e (by rw [hneg]; simpa using hn) rfl

theorem fmt_size (n : Int) (h0 : -9223372036854775808 ≤ n) (h1 : n ≤ 9223372036854775807) : (fmtS n).size ≤ 21 := by
  rw [Lib.size_eq, fmtS_data]; exact Lib.itoa_length_le n h0 h1

/-- What parses is the decimal form of the number. -/
theorem fmt_par (s : ByteArray) (h : parE s = 0) : fmtS (parV s) = s ∧ -9223372036854775808 ≤ parV s ∧ parV s ≤ 9223372036854775807 := by
  have hg : ¬ badForm s := by
    intro hb
    unfold parE at h
    rw [if_pos hb] at h
    omega
  obtain ⟨p1, p2⟩ := par_good hg
  rw [p2] at h
  obtain ⟨f1, f2⟩ := cE_zero h
  have hv : parV s = den s := by rw [p1, cV_yes f1 f2]
  rw [hv]
  refine ⟨?_, f1, f2⟩
  unfold badForm at hg
  have g1 : ¬ (body s).size = 0 := fun e => hg (.inl e)
  have g2 : ldig (body s).data.toList := (digs_list _).1 (Classical.byContradiction fun e => hg (.inr (.inl e)))
  have g3 : ¬ (byt (body s) 0 = 48 ∧ (1 < (body s).size ∨ isNeg s = true)) := fun e => hg (.inr (.inr e))
  have g1' : (body s).data.toList.length ≠ 0 := by rw [← Lib.size_eq]; exact g1
  obtain ⟨k, hk⟩ : ∃ k, (body s).data.toList.length = k + 1 := ⟨(body s).data.toList.length - 1, by omega⟩
  have hdec : Lib.decDigits (lval (body s).data.toList) = (body s).data.toList := by
    refine dec_of_lval k _ hk g2 ?_
    by_cases e : ((body s).data.toList.getD 0 0).toNat = 48
    · right
      apply Classical.byContradiction
      intro e2
      exact g3 ⟨by rw [byt_zero]; omega, .inl (by rw [Lib.size_eq]; omega)⟩
    · exact .inl e
  refine bytes_eq ?_
  rw [fmtS_data]
  unfold den
  rw [dvl_all]
  cases hn : isNeg s
  · rw [if_neg (by simp), Lib.itoa_nonneg, hdec, (body_size s).2 hn]
  · have hp : 1 ≤ lval (body s).data.toList := by
      match hd : (body s).data.toList with
      | [] => rw [hd] at hk; simp at hk
      | x :: r =>
        have hx := g2 x (by rw [hd]; simp)
        have hx2 : x.toNat ≠ 48 := by
          intro e
          refine g3 ⟨?_, .inr hn⟩
          rw [byt_zero, hd]; simp; omega
        exact lval_pos x r (by omega)
    rw [if_pos rfl, Lib.itoa_neg _ hp, hdec]
    have hb : body s = s.extract 1 s.size := by unfold body; rw [hn]; rfl
    rw [hb, Lib.extract_data]
    unfold isNeg at hn
    simp at hn
    obtain ⟨hz, h45⟩ := hn
    rw [byt_zero] at h45
    match hd : s.data.toList with
    | [] => rw [Lib.size_eq, hd] at hz; simp at hz
    | x :: r =>
      rw [hd] at h45
      simp only [List.getD_cons_zero] at h45
      have : x = 45 := by
        apply UInt8.toNat_inj.1
        have : x.toNat = 45 := by omega
        rw [this]; rfl
      rw [this, Lib.size_eq, hd]
      simp
end
end Go.Proofs.YtldafnjbgjagiaaDoor

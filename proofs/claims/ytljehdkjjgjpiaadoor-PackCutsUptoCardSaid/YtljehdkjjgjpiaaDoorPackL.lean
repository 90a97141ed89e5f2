/-
  TakeList: what it returns; the walks of pack and of the reference.
-/
import Derived.Test.YtljehdkjjgjpiaaDoorPackR
import Derived.Test.YtljehdkjjgjpiaaDoorPackE
import Derived.Laws.AppendOwn
namespace Go.Proofs.YtljehdkjjgjpiaaDoor
open Go.RowKit

/-- Taking k texts from an offset on: the texts, the offset behind, the error. -/
def tlRun (s : ByteArray) : Nat → Int → List ByteArray → List ByteArray × Int × Int
  | 0, at_, acc => (acc, at_, 0)
  | k + 1, at_, acc => if (tt s at_).2.2 = 0 then tlRun s k (tt s at_).2.1 (acc ++ [(tt s at_).1]) else ([], 0, (tt s at_).2.2)
theorem tlRun_go {s : ByteArray} {k : Nat} {at_ : Int} {acc : List ByteArray} (h : (tt s at_).2.2 = 0) : tlRun s (k + 1) at_ acc = tlRun s k (tt s at_).2.1 (acc ++ [(tt s at_).1]) := by rw [tlRun, if_pos h]
theorem tlRun_err {s : ByteArray} {k : Nat} {at_ : Int} {acc : List ByteArray} (h : (tt s at_).2.2 ≠ 0) : tlRun s (k + 1) at_ acc = ([], 0, (tt s at_).2.2) := by rw [tlRun, if_neg h]
/-- What TakeList returns. -/
def tl (s : ByteArray) (at_ most : Int) : List ByteArray × Int × Int :=
  if at_ < 0 ∨ (s.size : Int) < at_ ∨ most < 0 then ([], 0, 1)
  else if (tn s at_).2.2 ≠ 0 then ([], 0, (tn s at_).2.2)
  else if (tn s at_).1 < 0 then ([], 0, 5)
  else if most < (tn s at_).1 then ([], 0, 2)
  else tlRun s (tn s at_).1.toNat (tn s at_).2.1 []

/-- A taken text lies in the string. -/
theorem tt_ok {s : ByteArray} {at_ : Int} (h : (tt s at_).2.2 = 0) : 0 ≤ at_ ∧ at_ + 2 ≤ (tt s at_).2.1 ∧ (tt s at_).2.1 ≤ s.size := by
  unfold tt at h ⊢
  by_cases h0 : at_ < 0 ∨ (s.size : Int) < at_
  · rw [if_pos h0] at h; simp at h
  · rw [if_neg h0] at h ⊢
    obtain ⟨a, rfl⟩ := Int.eq_ofNat_of_zero_le (show 0 ≤ at_ by omega)
    rw [Int.toNat_natCast] at h ⊢
    obtain ⟨g1, g2, g3, g4⟩ := dE1_spec s a (by omega)
    unfold ttN at h ⊢
    by_cases c1 : dE1 s a = s.size
    · rw [if_pos c1] at h; simp at h
    rw [if_neg c1] at h ⊢
    by_cases c2 : dE1 s a = a ∨ (byt s a = 48 ∧ a + 1 < dE1 s a) ∨ byt s (dE1 s a) ≠ 58
    · rw [if_pos c2] at h; simp at h
    rw [if_neg c2] at h ⊢
    have c2' : dE1 s a ≠ a := fun e => c2 (.inl e)
    by_cases c3 : 9223372036854775807 < dval s a (dE1 s a)
    · rw [if_pos c3] at h; simp at h
    rw [if_neg c3] at h ⊢
    by_cases c4 : s.size - dE1 s a - 1 < dval s a (dE1 s a)
    · rw [if_pos c4] at h; simp at h
    rw [if_neg c4] at h ⊢
    simp only
    omega
theorem tt_err_bd (s : ByteArray) (at_ : Int) : 0 ≤ (tt s at_).2.2 ∧ (tt s at_).2.2 ≤ 6 := by
  unfold tt ttN
  split
  · simp
  · split
    · simp
    · split
      · simp
      · split
        · simp
        · split <;> simp
theorem tn_bd (s : ByteArray) (at_ : Int) (_hs : s.size ≤ 9223372036854775807) : -9223372036854775808 ≤ (tn s at_).1 ∧ (tn s at_).1 ≤ 9223372036854775807 ∧ (0 ≤ (tn s at_).2.1 ∧ (tn s at_).2.1 ≤ s.size) := by
  unfold tn
  by_cases h0 : at_ < 0 ∨ (s.size : Int) < at_
  · rw [if_pos h0]; simp
  · rw [if_neg h0]
    have ha : at_.toNat ≤ s.size := by omega
    obtain ⟨n1, n2, n3⟩ := nFirst_le s at_.toNat ha
    obtain ⟨g1, g2, g3, g4⟩ := dE1_spec s (nFirst s at_.toNat) n2
    generalize dE1 s (nFirst s at_.toNat) = e at *
    generalize nFirst s at_.toNat = f at *
    unfold tnF
    split
    · simp
    · rename_i c1
      split
      · simp
      · split
        · split
          · simp
          · simp only; omega
        · split
          · simp
          · simp only; omega

/-- A slice value that reads as a list of strings. -/
def SL (w : World) (v : Value) (l : List ByteArray) : Prop := ∃ (A : Option Addr) (c : Nat), v = .slice A l.length c ∧ l.length ≤ c ∧ (0 < l.length → ∃ a, A = some a ∧ RS w a l)
theorem SL.nil (w : World) : SL w (.slice none 0 0) [] := ⟨none, 0, rfl, Nat.le_refl _, fun h => absurd h (by simp)⟩
theorem SL.below {w w' : World} {v : Value} {l : List ByteArray} (h : SL w v l) (hb : Below w.heap.size w w') : SL w' v l := by
  obtain ⟨A, c, rfl, hc, h⟩ := h
  exact ⟨A, c, rfl, hc, fun hl => by obtain ⟨a, ha, hs⟩ := h hl; exact ⟨a, ha, hs.below hb⟩⟩
def scells (l : List ByteArray) : List Value := l.map Value.string
theorem SL.of_own {w : World} {base : Nat} {v : Value} {n : Nat} {l : List ByteArray} (h : w.ownsRow base 9 1 v n (scells l)) : SL w v l := by
  have hl : l.length = n := by have := h.1; simpa [scells] using this
  obtain ⟨_, h2⟩ := h
  have h0 := h2
  rcases h2 with ⟨rfl, h2⟩ | ⟨g, cap, cur, rfl, hg, hh, hnc, _⟩
  · have : l = [] := List.eq_nil_of_length_eq_zero (by omega)
    subst this
    exact SL.nil w
  · refine ⟨some ⟨g, 0, none⟩, cap, by rw [hl], by omega, fun hp => ⟨⟨g, 0, none⟩, rfl, ⟨?_, fun j hj => ?_⟩⟩⟩
    · rcases Nat.lt_or_ge g w.heap.size with hlt | hge
      · exact hlt
      · rw [Array.getElem?_eq_none hge] at hh; cases hh
    · have := World.ownsRow.cells (g := g) (w := w) (base := base) (e := 9) (size := 1) (n := n) (xs := scells l) ⟨by simpa [scells] using hl, h0⟩ rfl j (.string (l.getD j ⟨#[]⟩)) (by
        simp [scells, List.getD_eq_getElem?_getD, List.getElem?_eq_getElem hj])
      exact this
theorem grown_of_below {a w : World} (h : Below a.heap.size a w) (row : Option Nat) : a.grownBy w row := ⟨h.os, h.tape, h.output, h.size, fun i hi _ => h.block i hi⟩
theorem own_below {w w' : World} {base : Nat} {e : TypeId} {size : Nat} {v : Value} {n : Nat} {xs : List Value} (h : w.ownsRow base e size v n xs) (hb : Below w.heap.size w w') : w'.ownsRow base e size v n xs := by
  refine h.kept (grown_of_below hb none) ?_
  exact Classical.em _
theorem own_block {w : World} {base : Nat} {e : TypeId} {size : Nat} {v : Value} {n : Nat} {xs : List Value} (h : w.ownsRow base e size v n xs) (k : Nat) (hk : v.ownBlock = some k) : base ≤ k := by
  rcases h.2 with ⟨rfl, _⟩ | ⟨g, cap, cur, rfl, hg, _⟩
  · simp [Value.ownBlock] at hk
  · simp [Value.ownBlock] at hk; omega
theorem istr : (Tryd.prog.info? 9).map (fun i => (i.zero, i.size, i.bytes)) = some (some (.string ⟨#[]⟩), 1, 16) := by kernel_rfl
/-- The post of TakeList. -/
def TL (w : World) (r : List ByteArray × Int × Int) (e : Ending) (w' : World) : Prop := ∃ v, e = .returned (.tuple #[v, .int .i64 r.2.1, .int .i64 r.2.2]) ∧ (SL w' v r.1 ∧ Below w.heap.size w w')

set_option maxRecDepth 100000 in
set_option maxHeartbeats 4000000 in
theorem packTakeList (s : ByteArray) (at_ most : Int) (w : World) (hs : s.size ≤ maxLen) (h0 : -9223372036854775808 ≤ at_) (h1 : at_ ≤ 9223372036854775807) (m0 : -9223372036854775808 ≤ most) (m1 : most ≤ 9223372036854775807) (hcap : s.size ≤ 4398046511104 ∨ most ≤ 4398046511104) :
    Calls Tryd.prog 15 #[.string s, .int .i64 at_, .int .i64 most] w (TL w (tl s at_ most)) := by
  obtain ⟨i0, hi, hz0, hz1, hz2⟩ := info_parts istr
  have HM := Lib.hid hs
  unfold maxLen at hs
  have hn1 : ∀ w, Calls Tryd.prog 13 #[.string s, .int .i64 at_] w fun r w' => r = ret3n (tn s at_) ∧ Below w.heap.size w w' := fun w => packTakeNumber s at_ w HM.out h0 h1
  have hbd := tn_bd s at_ (by omega)
  have hspec : tl s at_ most = if at_ < 0 ∨ (s.size : Int) < at_ ∨ most < 0 then ([], 0, 1) else if (tn s at_).2.2 ≠ 0 then ([], 0, (tn s at_).2.2) else if (tn s at_).1 < 0 then ([], 0, 5) else if most < (tn s at_).1 then ([], 0, 2) else tlRun s (tn s at_).1.toNat (tn s at_).2.1 [] := rfl
  generalize tn s at_ = r at *
  obtain ⟨n, i, er⟩ := r
  simp only at hbd hspec
  obtain ⟨b1, b2, b3, b4⟩ := hbd
  have HN1 : Hid (∀ w, Calls Tryd.prog 13 #[.string s, .int .i64 at_] w fun r w' => r = .returned (.tuple #[.int .i64 n, .int .i64 i, .int .i64 er]) ∧ Below w.heap.size w w') := hn1
  have HI := Lib.hid hi
  have HZ0 := Lib.hid hz0
  have HZ1 := Lib.hid hz1
  have HZ2 := Lib.hid hz2
  clear hn1 hi hz0 hz1 hz2
  by_cases c1 : at_ < 0 ∨ (s.size : Int) < at_ ∨ most < 0
  · have hr : tl s at_ most = ([], 0, 1) := by rw [hspec, if_pos c1]
    have HR := Lib.hid hr
    clear hr hspec
    by_cases hin : 0 ≤ at_ ∧ at_ ≤ s.size
    · have HW : Hid (decide (0 ≤ at_ ∧ at_ ≤ s.size) = true) := decide_eq_true hin
      have hmm : most < 0 := by omega
      clear hin c1
      go_enter Tryd.func15, Tryd.ntmps15
      go_wp2_with fail
      refine (packWithin s _ _).mono ?_; rintro r w' ⟨rfl, rfl⟩
      rw [HW.out]
      go_wp2_with fail
      go_ret3
      exact ⟨.slice none 0 0, by rw [HR.out]; rfl, by rw [HR.out]; exact SL.nil _, Below.refl _ _⟩
    · have HW : Hid (decide (0 ≤ at_ ∧ at_ ≤ s.size) = false) := decide_eq_false hin
      clear hin c1
      go_enter Tryd.func15, Tryd.ntmps15
      go_wp2_with fail
      refine (packWithin s _ _).mono ?_; rintro r w' ⟨rfl, rfl⟩
      rw [HW.out]
      go_wp2_with fail
      go_ret3
      exact ⟨.slice none 0 0, by rw [HR.out]; rfl, by rw [HR.out]; exact SL.nil _, Below.refl _ _⟩
  have hin0 : 0 ≤ at_ := by omega
  have hin1 : at_ ≤ s.size := by omega
  have hin2 : 0 ≤ most := by omega
  have HW : Hid (decide (0 ≤ at_ ∧ at_ ≤ s.size) = true) := decide_eq_true ⟨hin0, hin1⟩
  rw [if_neg c1] at hspec
  clear c1
  by_cases c2 : er ≠ 0
  · have hr : tl s at_ most = ([], 0, er) := by rw [hspec, if_pos c2]
    have HR := Lib.hid hr
    have f2 : (er != 0) = true := by simpa using c2
    clear c2
    clear hr hspec
    go_enter Tryd.func15, Tryd.ntmps15
    go_wp2_with fail
    refine (packWithin s _ _).mono ?_; rintro r w' ⟨rfl, rfl⟩
    rw [HW.out]
    go_wp2_with fail
    refine (HN1.out _).mono ?_; rintro r w1 ⟨rfl, hb1⟩
    have HB1 := Lib.hid hb1
    clear hb1
    go_wp2_with fail
    go_ret3
    exact ⟨.slice none 0 0, by rw [HR.out]; rfl, by rw [HR.out]; exact SL.nil _, HB1.out⟩
  rw [if_neg c2] at hspec
  have f2 : (er != 0) = false := by simpa using c2
  clear c2
  by_cases c3 : n < 0
  · have hr : tl s at_ most = ([], 0, 5) := by rw [hspec, if_pos c3]
    have HR := Lib.hid hr
    clear hr hspec
    go_enter Tryd.func15, Tryd.ntmps15
    go_wp2_with fail
    refine (packWithin s _ _).mono ?_; rintro r w' ⟨rfl, rfl⟩
    rw [HW.out]
    go_wp2_with fail
    refine (HN1.out _).mono ?_; rintro r w1 ⟨rfl, hb1⟩
    have HB1 := Lib.hid hb1
    clear hb1
    go_wp2_with fail
    go_ret3
    exact ⟨.slice none 0 0, by rw [HR.out]; rfl, by rw [HR.out]; exact SL.nil _, HB1.out⟩
  rw [if_neg c3] at hspec
  by_cases c4 : most < n
  · have hr : tl s at_ most = ([], 0, 2) := by rw [hspec, if_pos c4]
    have HR := Lib.hid hr
    clear hr hspec
    go_enter Tryd.func15, Tryd.ntmps15
    go_wp2_with fail
    refine (packWithin s _ _).mono ?_; rintro r w' ⟨rfl, rfl⟩
    rw [HW.out]
    go_wp2_with fail
    refine (HN1.out _).mono ?_; rintro r w1 ⟨rfl, hb1⟩
    have HB1 := Lib.hid hb1
    clear hb1
    go_wp2_with fail
    go_ret3
    exact ⟨.slice none 0 0, by rw [HR.out]; rfl, by rw [HR.out]; exact SL.nil _, HB1.out⟩
  rw [if_neg c4] at hspec
  obtain ⟨N, rfl⟩ := Int.eq_ofNat_of_zero_le (show 0 ≤ n by omega)
  rw [Int.toNat_natCast] at hspec
  have HSP := Lib.hid hspec
  clear hspec c3
  go_enter Tryd.func15, Tryd.ntmps15
  go_wp2_with fail
  refine (packWithin s _ _).mono ?_; rintro r w' ⟨rfl, rfl⟩
  rw [HW.out]
  go_wp2_with fail
  refine (HN1.out _).mono ?_; rintro r w1 ⟨rfl, hb1⟩
  have HB1 := Lib.hid hb1
  clear hb1
  go_wp2_with fail
  go_loopw [1, 11, 42] (fun a v c wr => ∃ (k : Nat) (ai : Int) (l : List ByteArray) (v0 : Value), k ≤ N ∧ v0 = v ∧ c = .int .i64 k ∧ a = .int .i64 ai ∧ 0 ≤ ai ∧ ai ≤ s.size ∧ (k : Int) ≤ ai ∧ l.length = k ∧ tl s at_ most = tlRun s (N - k) ai l ∧ wr.ownsRow w.heap.size 9 1 v0 k (scells l) ∧ Below w.heap.size w wr) (fun _ _ c _ => N - (intOf c).toNat)
  case atStart => exact ⟨0, i, [], _, Nat.zero_le _, rfl, rfl, rfl, b3, b4, b3, rfl, HSP.out, World.ownsRow_nil _ _ _ _, HB1.out⟩
  case round =>
    obtain ⟨k, ai, l, v, hk, rfl, rfl, rfl, a0, a1, ka, hll, hrun, hown, hbl⟩ := hrel
    have HLL := Lib.hid hll
    have HRUN := Lib.hid hrun
    have HOWN := Lib.hid hown
    have HBL := Lib.hid hbl
    clear hll hrun hown hbl
    by_cases hlt : k < N
    · have htk := tt_ok (s := s) (at_ := ai)
      have hcall : ∀ w, Calls Tryd.prog 10 #[.string s, .int .i64 ai] w fun r w' => r = ret3t (tt s ai) ∧ Below w.heap.size w w' := fun w => packTakeText s ai w HM.out (by omega) (by omega)
      obtain ⟨j, hj⟩ : ∃ j, N - k = j + 1 := ⟨N - k - 1, by omega⟩
      have hgo := tlRun_go (s := s) (k := j) (at_ := ai) (acc := l)
      have herr := tlRun_err (s := s) (k := j) (at_ := ai) (acc := l)
      rw [← hj, ← HRUN.out] at hgo herr
      generalize tt s ai = r at *
      obtain ⟨t, i2, e2⟩ := r
      simp only at htk hgo herr
      have HCALL : Hid (∀ w, Calls Tryd.prog 10 #[.string s, .int .i64 ai] w fun r w' => r = .returned (.tuple #[.string t, .int .i64 i2, .int .i64 e2]) ∧ Below w.heap.size w w') := hcall
      clear hcall
      by_cases he : e2 = 0
      · obtain ⟨t0, t1, t2⟩ := htk he
        have hnew := hgo he
        have hjn : j = N - (k + 1) := by omega
        rw [hjn] at hnew
        have HNEW := Lib.hid hnew
        have f3 : (e2 != 0) = false := by rw [he]; rfl
        clear htk hgo herr hnew hjn hj
        have hbig : (k + 1) * 16 ≤ 140737488355328 := by omega
        have HBIG := Lib.hid hbig
        clear hbig
        go_wp2_with fail
        refine (HCALL.out _).mono ?_; rintro r w2 ⟨rfl, hb2⟩
        have HB2 := Lib.hid hb2
        clear hb2
        have HOWN2 : Hid (w2.ownsRow w.heap.size 9 1 v k (scells l)) := own_below HOWN.out HB2.out
        have HBL2 : Hid (Below w.heap.size w w2) := HBL.out.trans (HB2.out.mono HBL.out.size)
        go_wp2_with (at_builtin; refine wpList_append_own _ rfl _ _ 29 rfl w.heap.size 9 i0 (.string ⟨#[]⟩) 1 16 Tryd.underlying29 HI.out HZ0.out HZ1.out HZ2.out rfl (by decide) v k (scells l) rfl (HOWN2.out.alloc _) ⟨w2.heap.size, 0, none⟩ 1 1 [.string t] rfl rfl ?c1 ?c2 ?c3 ?c4 ?c5 ?_)
        case c1 => exact cell_one_new _ _ _
        case c2 => intro u hu; simp at hu; subst hu; rfl
        case c3 => unfold maxLen; omega
        case c4 => exact HBIG.out
        case c5 => exact Nat.le_trans HBL2.out.size (by simp)
        intro v' w3 hown3 hgrow _
        have HOWN3 : Hid (w3.ownsRow w.heap.size 9 1 v' (k + 1) (scells (l ++ [t]))) := by
          unfold scells at hown3 ⊢; rw [List.map_append]; exact hown3
        have HBL3 : Hid (Below w.heap.size w w3) := (HBL2.out.alloc HBL2.out.size _).grown hgrow (Nat.le_trans HBL2.out.size (by simp)) (fun q hq => own_block HOWN2.out q hq)
        clear hown3 hgrow
        go_wp2_with fail
        go_roundw
        case rel => exact ⟨k + 1, i2, l ++ [t], v', by omega, rfl, by go_num, rfl, by omega, by omega, by omega, by rw [List.length_append, HLL.out]; rfl, HNEW.out, HOWN3.out, HBL3.out⟩
        case measure => simp [intOf]; omega
      · have HR := Lib.hid (herr he)
        have f3 : (e2 != 0) = true := by simpa using he
        clear htk hgo herr he hj
        go_wp2_with fail
        refine (HCALL.out _).mono ?_; rintro r w2 ⟨rfl, hb2⟩
        have HBL2 : Hid (Below w.heap.size w w2) := HBL.out.trans (hb2.mono HBL.out.size)
        clear hb2
        go_wp2_with fail
        go_ret3
        exact ⟨.slice none 0 0, by rw [HR.out]; rfl, by rw [HR.out]; exact SL.nil _, HBL2.out⟩
    · have hkn : N - k = 0 := by omega
      have hfin : tl s at_ most = (l, ai, 0) := by rw [HRUN.out, hkn]; rfl
      have HR := Lib.hid hfin
      have HSL := Lib.hid (SL.of_own HOWN.out)
      clear hkn hfin
      go_wp2_with fail
      go_ret3
      exact ⟨v, by rw [HR.out]; rfl, by rw [HR.out]; exact HSL.out, HBL.out⟩

set_option maxRecDepth 100000 in
set_option maxHeartbeats 4000000 in
theorem refTakeList (s : ByteArray) (at_ most : Int) (w : World) (hs : s.size ≤ maxLen) (h0 : -9223372036854775808 ≤ at_) (h1 : at_ ≤ 9223372036854775807) (m0 : -9223372036854775808 ≤ most) (m1 : most ≤ 9223372036854775807) (hcap : s.size ≤ 4398046511104 ∨ most ≤ 4398046511104) :
    Calls Tryd.prog 16 #[.string s, .int .i64 at_, .int .i64 most] w (TL w (tl s at_ most)) := by
  obtain ⟨i0, hi, hz0, hz1, hz2⟩ := info_parts istr
  have HM := Lib.hid hs
  unfold maxLen at hs
  have hn1 : ∀ w, Calls Tryd.prog 14 #[.string s, .int .i64 at_] w fun r w' => r = ret3n (tn s at_) ∧ w = w' := fun w => refTakeNumber s at_ w HM.out h0 h1
  have hbd := tn_bd s at_ (by omega)
  have hspec : tl s at_ most = if at_ < 0 ∨ (s.size : Int) < at_ ∨ most < 0 then ([], 0, 1) else if (tn s at_).2.2 ≠ 0 then ([], 0, (tn s at_).2.2) else if (tn s at_).1 < 0 then ([], 0, 5) else if most < (tn s at_).1 then ([], 0, 2) else tlRun s (tn s at_).1.toNat (tn s at_).2.1 [] := rfl
  generalize tn s at_ = r at *
  obtain ⟨n, i, er⟩ := r
  simp only at hbd hspec
  obtain ⟨b1, b2, b3, b4⟩ := hbd
  have HN1 : Hid (∀ w, Calls Tryd.prog 14 #[.string s, .int .i64 at_] w fun r w' => r = .returned (.tuple #[.int .i64 n, .int .i64 i, .int .i64 er]) ∧ w = w') := hn1
  have HI := Lib.hid hi
  have HZ0 := Lib.hid hz0
  have HZ1 := Lib.hid hz1
  have HZ2 := Lib.hid hz2
  clear hn1 hi hz0 hz1 hz2
  by_cases c1 : at_ < 0 ∨ (s.size : Int) < at_ ∨ most < 0
  · have hr : tl s at_ most = ([], 0, 1) := by rw [hspec, if_pos c1]
    have HR := Lib.hid hr
    clear hr hspec
    by_cases hin : at_ < 0
    · clear c1
      go_enter Tryd.func16, Tryd.ntmps16
      go_wp2_with fail
      go_ret3
      exact ⟨.slice none 0 0, by rw [HR.out]; rfl, by rw [HR.out]; exact SL.nil _, Below.refl _ _⟩
    · by_cases hin2 : (s.size : Int) < at_
      · clear c1
        go_enter Tryd.func16, Tryd.ntmps16
        go_wp2_with fail
        go_ret3
        exact ⟨.slice none 0 0, by rw [HR.out]; rfl, by rw [HR.out]; exact SL.nil _, Below.refl _ _⟩
      · have hmm : most < 0 := by omega
        clear c1
        go_enter Tryd.func16, Tryd.ntmps16
        go_wp2_with fail
        go_ret3
        exact ⟨.slice none 0 0, by rw [HR.out]; rfl, by rw [HR.out]; exact SL.nil _, Below.refl _ _⟩
  have hin0 : 0 ≤ at_ := by omega
  have hin1 : at_ ≤ s.size := by omega
  have hin2 : 0 ≤ most := by omega
  have HW : Hid (decide (0 ≤ at_ ∧ at_ ≤ s.size) = true) := decide_eq_true ⟨hin0, hin1⟩
  rw [if_neg c1] at hspec
  clear c1
  by_cases c2 : er ≠ 0
  · have hr : tl s at_ most = ([], 0, er) := by rw [hspec, if_pos c2]
    have HR := Lib.hid hr
    have f2 : (er != 0) = true := by simpa using c2
    clear c2
    clear hr hspec
    go_enter Tryd.func16, Tryd.ntmps16
    go_wp2_with fail
    refine (HN1.out _).mono ?_; rintro r w1 ⟨rfl, rfl⟩
    go_wp2_with fail
    go_ret3
    exact ⟨.slice none 0 0, by rw [HR.out]; rfl, by rw [HR.out]; exact SL.nil _, Below.refl _ _⟩
  rw [if_neg c2] at hspec
  have f2 : (er != 0) = false := by simpa using c2
  clear c2
  by_cases c3 : n < 0
  · have hr : tl s at_ most = ([], 0, 5) := by rw [hspec, if_pos c3]
    have HR := Lib.hid hr
    clear hr hspec
    go_enter Tryd.func16, Tryd.ntmps16
    go_wp2_with fail
    refine (HN1.out _).mono ?_; rintro r w1 ⟨rfl, rfl⟩
    go_wp2_with fail
    go_ret3
    exact ⟨.slice none 0 0, by rw [HR.out]; rfl, by rw [HR.out]; exact SL.nil _, Below.refl _ _⟩
  rw [if_neg c3] at hspec
  by_cases c4 : most < n
  · have hr : tl s at_ most = ([], 0, 2) := by rw [hspec, if_pos c4]
    have HR := Lib.hid hr
    clear hr hspec
    go_enter Tryd.func16, Tryd.ntmps16
    go_wp2_with fail
    refine (HN1.out _).mono ?_; rintro r w1 ⟨rfl, rfl⟩
    go_wp2_with fail
    go_ret3
    exact ⟨.slice none 0 0, by rw [HR.out]; rfl, by rw [HR.out]; exact SL.nil _, Below.refl _ _⟩
  rw [if_neg c4] at hspec
  obtain ⟨N, rfl⟩ := Int.eq_ofNat_of_zero_le (show 0 ≤ n by omega)
  rw [Int.toNat_natCast] at hspec
  have HSP := Lib.hid hspec
  clear hspec c3
  go_enter Tryd.func16, Tryd.ntmps16
  go_wp2_with fail
  refine (HN1.out _).mono ?_; rintro r w1 ⟨rfl, rfl⟩
  go_wp2_with fail
  go_loopw [1, 11, 12] (fun a v c wr => ∃ (k : Nat) (ai : Int) (l : List ByteArray) (v0 : Value), k ≤ N ∧ v0 = v ∧ c = .int .i64 k ∧ a = .int .i64 ai ∧ 0 ≤ ai ∧ ai ≤ s.size ∧ (k : Int) ≤ ai ∧ l.length = k ∧ tl s at_ most = tlRun s (N - k) ai l ∧ wr.ownsRow w.heap.size 9 1 v0 k (scells l) ∧ Below w.heap.size w wr) (fun _ _ c _ => N - (intOf c).toNat)
  case atStart => exact ⟨0, i, [], _, Nat.zero_le _, rfl, rfl, rfl, b3, b4, b3, rfl, HSP.out, World.ownsRow_nil _ _ _ _, Below.refl _ _⟩
  case round =>
    obtain ⟨k, ai, l, v, hk, rfl, rfl, rfl, a0, a1, ka, hll, hrun, hown, hbl⟩ := hrel
    have HLL := Lib.hid hll
    have HRUN := Lib.hid hrun
    have HOWN := Lib.hid hown
    have HBL := Lib.hid hbl
    clear hll hrun hown hbl
    by_cases hlt : k < N
    · have htk := tt_ok (s := s) (at_ := ai)
      have hcall : ∀ w, Calls Tryd.prog 11 #[.string s, .int .i64 ai] w fun r w' => r = ret3t (tt s ai) ∧ w = w' := fun w => refTakeText s ai w HM.out (by omega) (by omega)
      obtain ⟨j, hj⟩ : ∃ j, N - k = j + 1 := ⟨N - k - 1, by omega⟩
      have hgo := tlRun_go (s := s) (k := j) (at_ := ai) (acc := l)
      have herr := tlRun_err (s := s) (k := j) (at_ := ai) (acc := l)
      rw [← hj, ← HRUN.out] at hgo herr
      generalize tt s ai = r at *
      obtain ⟨t, i2, e2⟩ := r
      simp only at htk hgo herr
      have HCALL : Hid (∀ w, Calls Tryd.prog 11 #[.string s, .int .i64 ai] w fun r w' => r = .returned (.tuple #[.string t, .int .i64 i2, .int .i64 e2]) ∧ w = w') := hcall
      clear hcall
      by_cases he : e2 = 0
      · obtain ⟨t0, t1, t2⟩ := htk he
        have hnew := hgo he
        have hjn : j = N - (k + 1) := by omega
        rw [hjn] at hnew
        have HNEW := Lib.hid hnew
        have f3 : (e2 != 0) = false := by rw [he]; rfl
        clear htk hgo herr hnew hjn hj
        have hbig : (k + 1) * 16 ≤ 140737488355328 := by omega
        have HBIG := Lib.hid hbig
        clear hbig
        go_wp2_with fail
        refine (HCALL.out _).mono ?_; rintro r w2 ⟨rfl, rfl⟩
        have HOWN2 := HOWN
        have HBL2 := HBL
        go_wp2_with (at_builtin; refine wpList_append_own _ rfl _ _ 29 rfl w.heap.size 9 i0 (.string ⟨#[]⟩) 1 16 Tryd.underlying29 HI.out HZ0.out HZ1.out HZ2.out rfl (by decide) v k (scells l) rfl (HOWN2.out.alloc _) ⟨wr.heap.size, 0, none⟩ 1 1 [.string t] rfl rfl ?c1 ?c2 ?c3 ?c4 ?c5 ?_)
        case c1 => exact cell_one_new _ _ _
        case c2 => intro u hu; simp at hu; subst hu; rfl
        case c3 => unfold maxLen; omega
        case c4 => exact HBIG.out
        case c5 => exact Nat.le_trans HBL2.out.size (by simp)
        intro v' w3 hown3 hgrow _
        have HOWN3 : Hid (w3.ownsRow w.heap.size 9 1 v' (k + 1) (scells (l ++ [t]))) := by
          unfold scells at hown3 ⊢; rw [List.map_append]; exact hown3
        have HBL3 : Hid (Below w.heap.size w w3) := (HBL2.out.alloc HBL2.out.size _).grown hgrow (Nat.le_trans HBL2.out.size (by simp)) (fun q hq => own_block HOWN2.out q hq)
        clear hown3 hgrow
        go_wp2_with fail
        go_roundw
        case rel => exact ⟨k + 1, i2, l ++ [t], v', by omega, rfl, by go_num, rfl, by omega, by omega, by omega, by rw [List.length_append, HLL.out]; rfl, HNEW.out, HOWN3.out, HBL3.out⟩
        case measure => simp [intOf]; omega
      · have HR := Lib.hid (herr he)
        have f3 : (e2 != 0) = true := by simpa using he
        clear htk hgo herr he hj
        go_wp2_with fail
        refine (HCALL.out _).mono ?_; rintro r w2 ⟨rfl, rfl⟩
        have HBL2 := HBL
        go_wp2_with fail
        go_ret3
        exact ⟨.slice none 0 0, by rw [HR.out]; rfl, by rw [HR.out]; exact SL.nil _, HBL2.out⟩
    · have hkn : N - k = 0 := by omega
      have hfin : tl s at_ most = (l, ai, 0) := by rw [HRUN.out, hkn]; rfl
      have HR := Lib.hid hfin
      have HSL := Lib.hid (SL.of_own HOWN.out)
      clear hkn hfin
      go_wp2_with fail
      go_ret3
      exact ⟨v, by rw [HR.out]; rfl, by rw [HR.out]; exact HSL.out, HBL.out⟩

end Go.Proofs.YtljehdkjjgjpiaaDoor

/-
  Packed forms: Text, Number, List of pack.
-/
import Derived.Test.YtljehdkjjgjpiaaDoorPackM
import Derived.Laws.IdiomStrings
namespace Go.Proofs.YtljehdkjjgjpiaaDoor
open Go.RowKit

theorem dec_ne' (u : Nat) : Lib.decDigits u ≠ [] := by
  rw [Lib.decDigits]; split <;> simp

/-- A string of these bytes. -/
def mkS (l : List UInt8) : ByteArray := ⟨l.toArray⟩
theorem mkS_data (l : List UInt8) : (mkS l).data.toList = l := by simp [mkS]
theorem mkS_size (l : List UInt8) : (mkS l).size = l.length := by rw [Lib.size_eq, mkS_data]
/-- The packed form of a text, of a number. -/
def pText (s : ByteArray) : List UInt8 := Lib.itoa s.size ++ 58 :: s.data.toList
def pNum (n : Int) : List UInt8 := Lib.itoa n ++ [59]
theorem pText_len (s : ByteArray) (h : s.size ≤ 140737488355328) : (pText s).length ≤ s.size + 22 := by
  have := Lib.itoa_length_le (s.size : Int) (by omega) (by omega)
  unfold pText
  simp only [List.length_append, List.length_cons]
  rw [← Lib.size_eq]; omega
theorem pNum_len (n : Int) (h0 : -9223372036854775808 ≤ n) (h1 : n ≤ 9223372036854775807) : (pNum n).length ≤ 22 := by
  have := Lib.itoa_length_le n h0 h1
  unfold pNum
  simp only [List.length_append, List.length_cons, List.length_nil]; omega
theorem flat3 (x s : ByteArray) (l : List UInt8) (hx : x.data.toList = l) : flat [x, ⟨#[58]⟩, s] = l ++ 58 :: s.data.toList := by simp [flat, hx]
theorem flat2 (x : ByteArray) (l : List UInt8) (hx : x.data.toList = l) : flat [x, ⟨#[59]⟩] = l ++ [59] := by simp [flat, hx]

set_option maxHeartbeats 1000000 in
theorem bufText (w : World) (a : Addr) (l : List UInt8) (c : Nat) (s : ByteArray) (hc : l.length ≤ c) (hm : c ≤ 9223372036854775807) (hb : RB w a l) (hs : s.size ≤ 140737488355328) (hsz : l.length + (pText s).length ≤ 140737488355328) (ht : Tab w) :
    Calls Tryd.prog 31 #[.slice (some a) l.length c, .string s] w fun e w' => ∃ (a' : Addr) (c' : Nat), e = .returned (.slice (some a') (l ++ pText s).length c') ∧ ((l ++ pText s).length ≤ c' ∧ c' ≤ 9223372036854775807 ∧ RB w' a' (l ++ pText s) ∧ Below w.heap.size w w') := by
  have hf : flat [fmtS s.size, ⟨#[58]⟩, s] = pText s := flat3 _ _ _ (fmtS_data _)
  rw [← hf] at hsz ⊢
  obtain ⟨x, hx⟩ : ∃ x, x = fmtS s.size := ⟨_, rfl⟩
  have cf : ∀ w, Tab w → Calls Tryd.prog 37 #[.int .i64 s.size] w fun e w' => e = .returned (.string x) ∧ Below w.heap.size w w' := fun w h => by rw [hx]; exact numFormat _ w (by omega) (by omega) h
  rw [← hx] at hsz ⊢
  have CF := Lib.hid cf
  have HB := Lib.hid hb
  have HSZ := Lib.hid hsz
  have HT := Lib.hid ht
  have HC := Lib.hid hc
  clear cf hb hsz ht hf hx hc
  go_enter Tryd.func31, Tryd.ntmps31
  go_wp2_with fail
  refine (CF.out _ HT.out).mono ?_; rintro e w1 ⟨rfl, hb1⟩
  have HB1 := Lib.hid hb1
  clear hb1
  go_wp2_with fail
  have hbl : Below w.heap.size w (w1.alloc (.cells #[.string x, .string ⟨#[58]⟩, .string s] 9)) := HB1.out.alloc HB1.out.size _
  refine (packAdd _ a l c ⟨w1.heap.size, 0, none⟩ [x, ⟨#[58]⟩, s] 3 HC.out hm (HB.out.below hbl) ⟨by simp, fun j hj => ?_⟩ (by simp) HSZ.out).mono ?_
  · simp only [List.length_cons, List.length_nil] at hj
    have hj' : j = 0 ∨ j = 1 ∨ j = 2 := by omega
    rcases hj' with rfl | rfl | rfl <;> simp [Addr.add, go_sem]
  rintro e w2 ⟨a2, c2, rfl, h1, h2, h3, h4⟩
  have HA : Hid ((l ++ flat [x, ⟨#[58]⟩, s]).length ≤ c2 ∧ c2 ≤ 9223372036854775807 ∧ RB w2 a2 (l ++ flat [x, ⟨#[58]⟩, s]) ∧ Below w.heap.size w w2) := ⟨h1, h2, h3, hbl.trans (h4.mono hbl.size)⟩
  clear h1 h2 h3 h4 hbl
  go_wp2_with fail
  go_ret
  exact ⟨a2, c2, by rw [List.length_append]; rfl, HA.out⟩

set_option maxHeartbeats 1000000 in
theorem bufNumber (w : World) (a : Addr) (l : List UInt8) (c : Nat) (n : Int) (hc : l.length ≤ c) (hm : c ≤ 9223372036854775807) (hb : RB w a l) (h0 : -9223372036854775808 ≤ n) (h1 : n ≤ 9223372036854775807) (hsz : l.length + (pNum n).length ≤ 140737488355328) (ht : Tab w) :
    Calls Tryd.prog 33 #[.slice (some a) l.length c, .int .i64 n] w fun e w' => ∃ (a' : Addr) (c' : Nat), e = .returned (.slice (some a') (l ++ pNum n).length c') ∧ ((l ++ pNum n).length ≤ c' ∧ c' ≤ 9223372036854775807 ∧ RB w' a' (l ++ pNum n) ∧ Below w.heap.size w w') := by
  have hf : flat [fmtS n, ⟨#[59]⟩] = pNum n := flat2 _ _ (fmtS_data _)
  rw [← hf] at hsz ⊢
  obtain ⟨x, hx⟩ : ∃ x, x = fmtS n := ⟨_, rfl⟩
  have cf : ∀ w, Tab w → Calls Tryd.prog 37 #[.int .i64 n] w fun e w' => e = .returned (.string x) ∧ Below w.heap.size w w' := fun w h => by rw [hx]; exact numFormat _ w h0 h1 h
  rw [← hx] at hsz ⊢
  have CF := Lib.hid cf
  have HB := Lib.hid hb
  have HSZ := Lib.hid hsz
  have HT := Lib.hid ht
  have HC := Lib.hid hc
  clear cf hb hsz ht hf hx hc
  go_enter Tryd.func33, Tryd.ntmps33
  go_wp2_with fail
  refine (CF.out _ HT.out).mono ?_; rintro e w1 ⟨rfl, hb1⟩
  have HB1 := Lib.hid hb1
  clear hb1
  go_wp2_with fail
  have hbl : Below w.heap.size w (w1.alloc (.cells #[.string x, .string ⟨#[59]⟩] 9)) := HB1.out.alloc HB1.out.size _
  refine (packAdd _ a l c ⟨w1.heap.size, 0, none⟩ [x, ⟨#[59]⟩] 2 HC.out hm (HB.out.below hbl) ⟨by simp, fun j hj => ?_⟩ (by simp) HSZ.out).mono ?_
  · simp only [List.length_cons, List.length_nil] at hj
    have hj' : j = 0 ∨ j = 1 := by omega
    rcases hj' with rfl | rfl <;> simp [Addr.add, go_sem]
  rintro e w2 ⟨a2, c2, rfl, h1, h2, h3, h4⟩
  have HA : Hid ((l ++ flat [x, ⟨#[59]⟩]).length ≤ c2 ∧ c2 ≤ 9223372036854775807 ∧ RB w2 a2 (l ++ flat [x, ⟨#[59]⟩]) ∧ Below w.heap.size w w2) := ⟨h1, h2, h3, hbl.trans (h4.mono hbl.size)⟩
  clear h1 h2 h3 h4 hbl
  go_wp2_with fail
  go_ret
  exact ⟨a2, c2, by rw [List.length_append]; rfl, HA.out⟩

/-- The buffer as a string. -/
theorem conv_buf {w : World} {a : Addr} {l : List UInt8} (h : RB w a l) (c : Nat) : (convert 50 9 (.slice (some a) l.length c)).run Tryd.prog w = .ok (.string (mkS l)) w :=
  run_convert_bytes_back w 50 9 5 a c l Tryd.underlying50 Tryd.underlying5 Tryd.underlying9 (fun j hj => h.cells j _ (by simp [bcells, hj]))

set_option maxHeartbeats 1000000 in
theorem packText (w : World) (s : ByteArray) (hs : s.size ≤ 140737488355300) (ht : Tab w) :
    Calls Tryd.prog 19 #[.string s] w fun e w' => e = .returned (.string (mkS (pText s))) ∧ Below w.heap.size w w' := by
  have hl := pText_len s (by omega)
  have HT := Lib.hid ht
  clear ht
  go_enter Tryd.func19, Tryd.ntmps19
  go_wp2_with fail
  have hbl : Below w.heap.size w (w.alloc (.cells #[] 5)) := (Below.refl _ _).alloc (Nat.le_refl _) _
  refine (bufText _ ⟨w.heap.size, 0, none⟩ [] 0 s (Nat.le_refl _) (by omega) (RB.nil (by simp)) (by omega) (by simp; omega) (HT.out.below hbl)).mono ?_
  rintro e w2 ⟨a2, c2, rfl, h1, h2, h3, h4⟩
  have hcv := conv_buf h3 c2
  simp only [List.nil_append] at hcv ⊢
  have HB : Hid (Below w.heap.size w w2) := hbl.trans (h4.mono hbl.size)
  clear h1 h2 h3 h4 hbl hl
  go_wp2_with fail
  go_ret
  exact ⟨rfl, HB.out⟩

set_option maxHeartbeats 1000000 in
theorem packNumber (w : World) (n : Int) (h0 : -9223372036854775808 ≤ n) (h1 : n ≤ 9223372036854775807) (ht : Tab w) :
    Calls Tryd.prog 21 #[.int .i64 n] w fun e w' => e = .returned (.string (mkS (pNum n))) ∧ Below w.heap.size w w' := by
  have hl := pNum_len n h0 h1
  have HT := Lib.hid ht
  clear ht
  go_enter Tryd.func21, Tryd.ntmps21
  go_wp2_with fail
  have hbl : Below w.heap.size w (w.alloc (.cells #[] 5)) := (Below.refl _ _).alloc (Nat.le_refl _) _
  refine (bufNumber _ ⟨w.heap.size, 0, none⟩ [] 0 n (Nat.le_refl _) (by omega) (RB.nil (by simp)) h0 h1 (by simp; omega) (HT.out.below hbl)).mono ?_
  rintro e w2 ⟨a2, c2, rfl, h1, h2, h3, h4⟩
  have hcv := conv_buf h3 c2
  simp only [List.nil_append] at hcv ⊢
  have HB : Hid (Below w.heap.size w w2) := hbl.trans (h4.mono hbl.size)
  clear h1 h2 h3 h4 hbl hl
  go_wp2_with fail
  go_ret
  exact ⟨rfl, HB.out⟩

/-- The packed form of a list. -/
def pList (ss : List ByteArray) : List UInt8 := pNum ss.length ++ (ss.map pText).flatten
/-- .. after k texts. -/
def pPart (ss : List ByteArray) (k : Nat) : List UInt8 := pNum ss.length ++ ((ss.take k).map pText).flatten
theorem pPart_succ (ss : List ByteArray) (k : Nat) (h : k < ss.length) : pPart ss (k + 1) = pPart ss k ++ pText (ss.getD k ⟨#[]⟩) := by
  unfold pPart
  rw [List.take_succ_eq_append_getElem h, List.map_append, List.flatten_append, List.getD_eq_getElem?_getD, List.getElem?_eq_getElem h]
  simp
theorem pPart_le (ss : List ByteArray) (k : Nat) : (pPart ss k).length ≤ (pList ss).length := by
  have h : ((ss.take k).map pText).flatten.length ≤ (ss.map pText).flatten.length := by
    have e : (ss.map pText).flatten = ((ss.take k).map pText).flatten ++ ((ss.drop k).map pText).flatten := by
      rw [← List.flatten_append, ← List.map_append, List.take_append_drop]
    rw [e, List.length_append]; omega
  unfold pPart pList
  rw [List.length_append, List.length_append]; omega

set_option maxRecDepth 100000 in
set_option maxHeartbeats 1000000 in
theorem packList (w : World) (A : Option Addr) (ss : List ByteArray) (m : Nat) (hs : 0 < ss.length → ∃ p, A = some p ∧ RS w p ss) (hn : ss.length ≤ 9223372036854775807) (hsz : (pList ss).length ≤ 140737488355328) (ht : Tab w) :
    Calls Tryd.prog 23 #[.slice A ss.length m] w fun e w' => e = .returned (.string (mkS (pList ss))) ∧ Below w.heap.size w w' := by
  obtain ⟨n, hnn⟩ : ∃ n, n = ss.length := ⟨_, rfl⟩
  rw [← hnn] at hn ⊢
  have HN := Lib.hid hnn
  have HT := Lib.hid ht
  have HS := Lib.hid hs
  have HSZ := Lib.hid hsz
  have h0 : pPart ss 0 = pNum (n : Int) := by unfold pPart; rw [hnn]; simp
  have hp := pPart_le ss
  have H0 := Lib.hid h0
  have HP := Lib.hid hp
  clear hnn ht hs hsz h0 hp
  go_enter Tryd.func23, Tryd.ntmps23
  go_wp2_with fail
  have hbl : Below w.heap.size w (w.alloc (.cells #[] 5)) := (Below.refl _ _).alloc (Nat.le_refl _) _
  refine (bufNumber _ ⟨w.heap.size, 0, none⟩ [] 0 n (Nat.le_refl _) (by omega) (RB.nil (by simp)) (by omega) (by omega) (by have := HP.out 0; have := HSZ.out; rw [H0.out] at *; simp; omega) (HT.out.below hbl)).mono ?_
  rintro e w2 ⟨a2, c2, rfl, h1, h2, h3, h4⟩
  simp only [List.nil_append] at h1 h3 ⊢
  have HB : Hid (Below w.heap.size w w2) := hbl.trans (h4.mono hbl.size)
  rw [← H0.out] at h1 h3 ⊢
  have HRB := Lib.hid h3
  have H1 := Lib.hid h1
  clear h1 h3 h4 hbl
  go_wp2_with fail
  go_loopw [3, 12] (fun b i wr => ∃ (k : Nat) (a1 : Addr) (c1 : Nat), k ≤ n ∧ i = .int .i64 k ∧ b = .slice (some a1) (pPart ss k).length c1 ∧ (pPart ss k).length ≤ c1 ∧ c1 ≤ 9223372036854775807 ∧ RB wr a1 (pPart ss k) ∧ Below w.heap.size w wr) (fun _ i _ => n - (intOf i).toNat)
  case atStart => exact ⟨0, a2, c2, Nat.zero_le _, rfl, rfl, H1.out, h2, HRB.out, HB.out⟩
  case round =>
    obtain ⟨k, a1, c1, hk, rfl, rfl, hc1, hm1, hrb, hbl⟩ := hrel
    have HC1 := Lib.hid hc1
    have HRB1 := Lib.hid hrb
    have HBL := Lib.hid hbl
    clear hrb hbl HRB HB H1 hc1 h2
    by_cases hlt : k < n
    · obtain ⟨p, rfl, hsp⟩ := HS.out (by rw [← HN.out]; omega)
      have hcell : wr.cell? (p.add k) = some (.string (ss.getD k ⟨#[]⟩)) := (HBL.out.cell (by rw [block_of_add]; exact hsp.lt)).trans (hsp.cells k (by rw [← HN.out]; exact hlt))
      clear hsp
      have hnew := pPart_succ ss k (by rw [← HN.out]; exact hlt)
      obtain ⟨s, hse⟩ : ∃ s, s = ss.getD k ⟨#[]⟩ := ⟨_, rfl⟩
      rw [← hse] at hcell hnew
      have hfit : (pPart ss k).length + (pText s).length ≤ 140737488355328 := by
        have h1 := HP.out (k + 1)
        have h2 := HSZ.out
        rw [hnew, List.length_append] at h1
        omega
      have hss : s.size ≤ 140737488355328 := by
        have h3 : s.size ≤ (pText s).length := by unfold pText; rw [Lib.size_eq]; simp; omega
        omega
      have HNEW := Lib.hid hnew
      have HFIT := Lib.hid hfit
      clear hse hnew hfit
      go_wp2_with fail
      refine (bufText _ a1 (pPart ss k) c1 s HC1.out hm1 HRB1.out hss HFIT.out (HT.out.below HBL.out)).mono ?_
      rintro e w3 ⟨a3, c3, rfl, h1, h2, h3, h4⟩
      rw [← HNEW.out] at h1 h3 ⊢
      have HRB3 := Lib.hid h3
      have H13 := Lib.hid h1
      have HBL3 : Hid (Below w.heap.size w w3) := HBL.out.trans (h4.mono HBL.out.size)
      clear h1 h3 h4
      go_wp2_with fail
      go_roundw
      case rel => exact ⟨k + 1, a3, c3, by omega, by go_num, rfl, H13.out, h2, HRB3.out, HBL3.out⟩
      case measure => simp [intOf]; omega
    · have hkn : k = n := by omega
      have hfin : pPart ss k = pList ss := by unfold pPart pList; rw [hkn, HN.out, List.take_length]
      have hcv := conv_buf HRB1.out c1
      have HF := Lib.hid hfin
      clear hkn hfin
      go_wp2_with fail
      go_ret
      exact ⟨by rw [← HF.out]; rfl, HBL.out⟩

end Go.Proofs.YtljehdkjjgjpiaaDoor

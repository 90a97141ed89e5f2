/-
  Records: what is decoded is the record of what is returned; a record of which one byte is changed, and a proper beginning of one, are refused. No program in sight.
-/
import Derived.Test.YtbgficaboolgiaaGreatDoorStoQ
namespace Go.Proofs.YtbgficaboolgiaaGreatDoor
open Go.RowKit
set_option linter.unusedVariables false
set_option linter.unusedSimpArgs false

/-- From one offset to another, without an error, a string holds these bytes. -/
def Sg (s : ByteArray) (m m' : St) (l : List UInt8) : Prop := ∃ a b : Nat, m = ((a : Int), 0) ∧ m' = ((b : Int), 0) ∧ a ≤ b ∧ b ≤ s.size ∧ ((bl s).drop a).take (b - a) = l
theorem Sg.trans {s : ByteArray} {m m' m'' : St} {l l' : List UInt8} (h : Sg s m m' l) (h' : Sg s m' m'' l') : Sg s m m'' (l ++ l') := by
  obtain ⟨a, b, rfl, rfl, h1, h2, rfl⟩ := h
  obtain ⟨b', c, e, rfl, h3, h4, rfl⟩ := h'
  simp only [Prod.mk.injEq, and_true] at e
  obtain rfl : b = b' := by omega
  refine ⟨a, c, rfl, rfl, by omega, h4, ?_⟩
  rw [show c - a = (b - a) + (c - b) by omega, List.take_add, List.drop_drop, show a + (b - a) = b by omega]
theorem Sg.left {s : ByteArray} {m m' : St} {l : List UInt8} (h : Sg s m m' l) : m.2 = 0 := by obtain ⟨a, b, rfl, _⟩ := h; rfl
theorem Sg.nil {s : ByteArray} {m : St} (h : StOk s m) (h0 : m.2 = 0) : Sg s m m [] := by
  obtain ⟨⟨h1, h2⟩, _⟩ := h
  obtain ⟨a, e⟩ := m
  simp only at h0 h1 h2
  subst h0
  exact ⟨a.toNat, a.toNat, by rw [Int.toNat_of_nonneg h1], by rw [Int.toNat_of_nonneg h1], Nat.le_refl _, by omega, by simp⟩
theorem rdT_back {s : ByteArray} {m : St} (hm : StOk s m) (h : (rdT s m).2.2 = 0) : Sg s m (rdT s m).2 (pText (rdT s m).1) := by
  obtain ⟨⟨h1, h2⟩, _⟩ := hm
  obtain ⟨a, e⟩ := m
  simp only at h1 h2
  obtain ⟨n, rfl⟩ : ∃ n : Nat, a = n := ⟨a.toNat, by omega⟩
  unfold rdT at h ⊢
  by_cases c1 : e ≠ 0
  · rw [if_pos c1] at h; exact absurd h c1
  rw [if_neg c1] at h ⊢
  by_cases c2 : (tt s n).2.2 ≠ 0
  · rw [if_pos c2] at h; exact absurd h c2
  rw [if_neg c2] at h ⊢
  by_cases c3 : 64 < (tt s n).1.size
  · rw [if_pos c3] at h; simp at h
  rw [if_neg c3]
  obtain rfl : e = 0 := by simpa using c1
  obtain ⟨i, e1, e2, e3, e4⟩ := tt_canon (s := s) (a := n) (by simpa using c2)
  rw [bl_extract] at e4
  exact ⟨n, i, rfl, by rw [e1], e2, e3, e4⟩
theorem rdN_back {s : ByteArray} {t : Int} {m : St} (hm : StOk s m) (h : (rdN s t m).2.2 = 0) : Sg s m (rdN s t m).2 (pNum (rdN s t m).1) := by
  obtain ⟨⟨h1, h2⟩, _⟩ := hm
  obtain ⟨a, e⟩ := m
  simp only at h1 h2
  obtain ⟨n, rfl⟩ : ∃ n : Nat, a = n := ⟨a.toNat, by omega⟩
  unfold rdN at h ⊢
  by_cases c1 : e ≠ 0
  · rw [if_pos c1] at h; exact absurd h c1
  rw [if_neg c1] at h ⊢
  by_cases c2 : (tn s n).2.2 ≠ 0
  · rw [if_pos c2] at h; exact absurd h c2
  rw [if_neg c2] at h ⊢
  by_cases c3 : wiB (tn s n).1 t = false
  · rw [if_pos c3] at h; simp at h
  rw [if_neg c3]
  obtain rfl : e = 0 := by simpa using c1
  obtain ⟨i, e1, e2, e3, e4⟩ := tn_canon (s := s) (a := n) (by simpa using c2)
  rw [bl_extract] at e4
  exact ⟨n, i, rfl, by rw [e1], e2, e3, e4⟩
theorem rdS_back {s : ByteArray} {m : St} (hm : StOk s m) (h : (rdS s m).2.2 = 0) : Sg s m (rdS s m).2 (pText (hexS (rdS s m).1)) := by
  obtain ⟨⟨h1, h2⟩, _⟩ := hm
  obtain ⟨a, e⟩ := m
  simp only at h1 h2
  obtain ⟨n, rfl⟩ : ∃ n : Nat, a = n := ⟨a.toNat, by omega⟩
  unfold rdS at h ⊢
  by_cases c1 : e ≠ 0
  · rw [if_pos c1] at h; exact absurd h c1
  rw [if_neg c1] at h ⊢
  by_cases c2 : (tt s n).2.2 ≠ 0
  · rw [if_pos c2] at h; exact absurd h c2
  rw [if_neg c2] at h ⊢
  by_cases c3 : (uxT (tt s n).1).2 ≠ 0
  · rw [if_pos c3] at h; exact absurd h c3
  rw [if_neg c3]
  obtain rfl : e = 0 := by simpa using c1
  obtain ⟨i, e1, e2, e3, e4⟩ := tt_canon (s := s) (a := n) (by simpa using c2)
  rw [bl_extract, uxT_back (s := (tt s n).1) (by simpa using c3)] at e4
  exact ⟨n, i, rfl, by rw [e1], e2, e3, e4⟩
theorem rdC_back {s : ByteArray} (hs : s.size ≤ 9223372036854775807) {m : St} (hm : StOk s m) : ∀ k, (rdC s m k).2.2 = 0 → Sg s m (rdC s m k).2 ((rdC s m k).1.flatMap pNum)
  | 0, h => Sg.nil hm h
  | k + 1, h => by
    have h1 := rdN_back (s := s) (t := 1099511627776) (rdC_ok hs hm k).1 h
    have h2 := (rdC_back hs hm k h1.left).trans h1
    simp only [rdC, List.flatMap_append, List.flatMap_cons, List.flatMap_nil, List.append_nil]
    exact h2
theorem rdRow_back {s : ByteArray} (hs : s.size ≤ 9223372036854775807) {m : St} (hm : StOk s m) (h : (rdRow s m).2.2 = 0) : Sg s m (rdRow s m).2 (cntL (rdRow s m).1) := by
  have h0 := rdN_ok (t := 256) (by decide) hs hm
  have h2 := rdC_back hs h0.1 (rdN s 256 m).1.toNat h
  have h1 := (rdN_back (s := s) (t := 256) hm h2.left).trans h2
  unfold cntL rdRow
  rw [(rdC_ok hs h0.1 _).2.1, Int.toNat_of_nonneg h0.2.1]
  exact h1
theorem rdRs_back {s : ByteArray} (hs : s.size ≤ 9223372036854775807) {m : St} (hm : StOk s m) : ∀ k, (rdRs s m k).2.2 = 0 → Sg s m (rdRs s m k).2 ((rdRs s m k).1.flatMap cntL)
  | 0, h => Sg.nil hm h
  | k + 1, h => by
    have h1 := rdRow_back hs (rdRs_ok hs hm k).1 h
    have h2 := (rdRs_back hs hm k h1.left).trans h1
    simp only [rdRs, List.flatMap_append, List.flatMap_cons, List.flatMap_nil, List.append_nil]
    exact h2
theorem rdL_back {s : ByteArray} (hs : s.size ≤ 9223372036854775807) {m : St} (hm : StOk s m) (h : (rdL s m).2.2 = 0) : Sg s m (rdL s m).2 (lstL (rdL s m).1) := by
  have h0 := rdN_ok (t := 16) (by decide) hs hm
  have h2 := rdRs_back hs h0.1 (rdN s 16 m).1.toNat h
  have h1 := (rdN_back (s := s) (t := 16) hm h2.left).trans h2
  unfold lstL rdL
  rw [(rdRs_ok hs h0.1 _).2.1, Int.toNat_of_nonneg h0.2.1]
  exact h1
theorem cnt_of {c : List Int} (h : c.length ≤ 256 ∧ ∀ n ∈ c, 0 ≤ n ∧ n ≤ 1099511627776) : cntB c = false := by
  unfold cntB
  rw [decide_eq_false (by omega), Bool.false_or, List.any_eq_false]
  intro n hn
  rw [wiB_iff.2 (h.2 n hn)]; decide
theorem lst_of {l : List (List Int)} (h : l.length ≤ 16 ∧ ∀ c ∈ l, c.length ≤ 256 ∧ ∀ n ∈ c, 0 ≤ n ∧ n ≤ 1099511627776) : lstB l = true := by
  unfold lstB
  rw [decide_eq_true h.1, Bool.true_and]
  have : l.any cntB = false := List.any_eq_false.2 fun c hc => by rw [cnt_of (h.2 c hc)]; decide
  rw [this]; rfl
theorem decB_back {s : ByteArray} (hs : s.size ≤ 9223372036854775807) (h : (decB s).2 = 0) : bl s = bodyL (decB s).1 ∧ stoB (decB s).1 = true ∧ (decB s).1.seed < 18446744073709551616 := by
  have hE : decE s = 0 := by
    unfold decB at h
    split at h
    · assumption
    · exact h
  have hR : (decB s).1 = decR s := by unfold decB; rw [if_pos hE]
  rw [hR]
  clear h hR
  have h0 : StOk s (0, 0) := ⟨⟨Int.le_refl _, by simp⟩, by decide⟩
  have k1 := rdT_ok h0
  have k2 := rdS_ok k1.1
  have k3 := rdT_ok k2.1
  have k4 := rdT_ok k3.1
  have k5 := rdN_ok (t := 4096) (by decide) hs k4.1
  have k6 := rdN_ok (t := 4096) (by decide) hs k5.1
  have k7 := rdN_ok (t := 4096) (by decide) hs k6.1
  have k8 := rdL_ok hs k7.1
  have k9 := rdL_ok hs k8.1
  have kA := rdN_ok (t := 1099511627776) (by decide) hs k9.1
  have kB := rdN_ok (t := 1099511627776) (by decide) hs kA.1
  have eB : (stB s).2.2 = 0 := by
    unfold decE at hE
    split at hE
    · cases hE
    · exact hE
  have eZ : (stB s).2.1 = s.size := by
    unfold decE at hE
    split at hE
    · cases hE
    · rename_i hn
      have := kB.1.1.2
      have h3 : ¬ (stB s).2.1 < s.size := fun x => hn ⟨eB, x⟩
      have h4 : (stB s).2.1 ≤ s.size := this
      omega
  have gB : Sg s (stA s).2 (stB s).2 (pNum (stB s).1) := rdN_back kA.1 eB
  have gA : Sg s (st9 s).2 (stA s).2 (pNum (stA s).1) := rdN_back k9.1 gB.left
  have g9 : Sg s (st8 s).2 (st9 s).2 (lstL (st9 s).1) := rdL_back hs k8.1 gA.left
  have g8 : Sg s (st7 s).2 (st8 s).2 (lstL (st8 s).1) := rdL_back hs k7.1 g9.left
  have g7 : Sg s (st6 s).2 (st7 s).2 (pNum (st7 s).1) := rdN_back k6.1 g8.left
  have g6 : Sg s (st5 s).2 (st6 s).2 (pNum (st6 s).1) := rdN_back k5.1 g7.left
  have g5 : Sg s (st4 s).2 (st5 s).2 (pNum (st5 s).1) := rdN_back k4.1 g6.left
  have g4 : Sg s (st3 s).2 (st4 s).2 (pText (st4 s).1) := rdT_back k3.1 g5.left
  have g3 : Sg s (st2 s).2 (st3 s).2 (pText (st3 s).1) := rdT_back k2.1 g4.left
  have g2 : Sg s (st1 s).2 (st2 s).2 (pText (hexS (st2 s).1)) := rdS_back k1.1 g3.left
  have g1 : Sg s (0, 0) (st1 s).2 (pText (st1 s).1) := rdT_back h0 g2.left
  have g := g1.trans (g2.trans (g3.trans (g4.trans (g5.trans (g6.trans (g7.trans (g8.trans (g9.trans (gA.trans gB)))))))))
  refine ⟨?_, ?_, k2.2⟩
  · obtain ⟨a, b, ea, eb, h1, h2, h3⟩ := g
    simp only [Prod.mk.injEq, and_true] at ea
    obtain rfl : a = 0 := by omega
    rw [eb] at eZ
    simp only at eZ
    obtain rfl : b = s.size := by omega
    rw [List.drop_zero, Nat.sub_zero, List.take_of_length_le (by rw [bl_len]; exact Nat.le_refl _)] at h3
    rw [h3]; rfl
  · unfold stoB decR
    simp only
    have a1 : (st1 s).1.size ≤ 64 := k1.2
    have a3 : (st3 s).1.size ≤ 64 := k3.2
    have a4 : (st4 s).1.size ≤ 64 := k4.2
    have a5 : wiB (st5 s).1 4096 = true := wiB_iff.2 k5.2
    have a6 : wiB (st6 s).1 4096 = true := wiB_iff.2 k6.2
    have a7 : wiB (st7 s).1 4096 = true := wiB_iff.2 k7.2
    have a8 : lstB (st8 s).1 = true := lst_of k8.2
    have a9 : lstB (st9 s).1 = true := lst_of k9.2
    have aA : wiB (stA s).1 1099511627776 = true := wiB_iff.2 kA.2
    have aB : wiB (stB s).1 1099511627776 = true := wiB_iff.2 kB.2
    rw [a5, a6, a7, a8, a9, aA, aB, decide_eq_true a1, decide_eq_true a3, decide_eq_true a4]
    rfl

/-! Seals. -/
theorem crcS_mk (l : List UInt8) : crcS (mkS l) = crcL l 4294967295 ^^^ 4294967295 := by unfold crcS; rw [mkS_data]
theorem sealL_len (l : List UInt8) : (sealL l).length = l.length + 9 := by unfold sealL; rw [List.length_append, List.length_cons, hexL_len]
theorem bl_mk (l : List UInt8) : bl (mkS l) = l := mkS_data l
theorem openT_seal (l : List UInt8) : openT (mkS (sealL l)) = (mkS l, 0) := by
  have hz : (mkS (sealL l)).size = l.length + 9 := by rw [mkS_size, sealL_len]
  have hb : bl (mkS (sealL l)) = l ++ 35 :: hexL (crcL l 4294967295 ^^^ 4294967295) 8 := bl_mk _
  have hsl : sealL l = l ++ 35 :: hexL (crcL l 4294967295 ^^^ 4294967295) 8 := rfl
  have hc : crcL l 4294967295 ^^^ 4294967295 < 4294967296 := by rw [← crcS_mk]; exact crcS_lt _
  have e8 : (mkS (sealL l)).extract ((mkS (sealL l)).size - 8) (mkS (sealL l)).size = mkS (hexL (crcL l 4294967295 ^^^ 4294967295) 8) := by
    apply bytes_eq
    show bl (ByteArray.extract _ _ _) = bl (mkS _)
    rw [bl_extract, bl_mk, bl_mk, hz, hsl, show l.length + 9 - 8 = l.length + 1 by omega, List.drop_append, show (35 :: hexL (crcL l 4294967295 ^^^ 4294967295) 8).drop (l.length + 1 - l.length) = hexL (crcL l 4294967295 ^^^ 4294967295) 8 by rw [show l.length + 1 - l.length = 1 by omega]; rfl, List.drop_eq_nil_of_le (by omega), List.nil_append]
    exact List.take_of_length_le (by rw [hexL_len]; omega)
  have e0 : (mkS (sealL l)).extract 0 ((mkS (sealL l)).size - 9) = mkS l := by
    apply bytes_eq
    show bl (ByteArray.extract _ _ _) = bl (mkS _)
    rw [bl_extract, bl_mk, bl_mk, hz, hsl, List.drop_zero, show l.length + 9 - 9 - 0 = l.length by omega, List.take_append, Nat.sub_self, List.take_zero, List.append_nil, List.take_length]
  have e35 : byt (mkS (sealL l)) ((mkS (sealL l)).size - 9) = 35 := by
    rw [byt_bl, hb, hz, show l.length + 9 - 9 = l.length by omega, List.getD_eq_getElem?_getD, List.getElem?_append_right (Nat.le_refl _), Nat.sub_self]; rfl
  unfold openT
  rw [if_neg (by omega), e8, e0, e35, unhT_hex (n := 8) (by omega) (by decide), crcS_mk]
  simp
set_option maxHeartbeats 1000000 in
theorem openT_back {s : ByteArray} (h : (openT s).2 = 0) : bl s = sealL (bl (openT s).1) := by
  unfold openT at h ⊢
  by_cases c1 : s.size < 9
  · rw [if_pos c1] at h; cases h
  rw [if_neg c1] at h ⊢
  by_cases c2 : byt s (s.size - 9) ≠ 35 ∨ (unhT (s.extract (s.size - 8) s.size)).2 = false
  · rw [if_pos c2] at h; cases h
  rw [if_neg c2] at h ⊢
  by_cases c3 : (unhT (s.extract (s.size - 8) s.size)).1 ≠ crcS (s.extract 0 (s.size - 9))
  · rw [if_pos c3] at h; cases h
  rw [if_neg c3]
  simp only
  have d1 : byt s (s.size - 9) = 35 := Classical.byContradiction fun x => c2 (.inl x)
  have d2 : (unhT (s.extract (s.size - 8) s.size)).2 = true := by
    cases hq : (unhT (s.extract (s.size - 8) s.size)).2
    · exact absurd (.inr hq) c2
    · rfl
  have d3 : (unhT (s.extract (s.size - 8) s.size)).1 = crcS (s.extract 0 (s.size - 9)) := Classical.byContradiction c3
  have hl8 : (bl (s.extract (s.size - 8) s.size)).length = 8 := by rw [bl_len, extract_size s _ _ (Nat.le_refl _)]; omega
  have h8 : bl (s.extract (s.size - 8) s.size) = hexL (crcS (s.extract 0 (s.size - 9))) 8 := by
    unfold unhT at d2 d3
    cases hu : unhL (s.extract (s.size - 8) s.size).data.toList 0 with
    | none => rw [hu] at d2; cases d2
    | some x =>
      rw [hu] at d3
      simp only at d3
      have := (hex_unhL _ 0 x (by show (bl _).length ≤ 16; rw [hl8]; decide) (by rw [Nat.zero_mul]; decide) hu).1
      rw [← d3]
      show (s.extract (s.size - 8) s.size).data.toList = _
      rw [this]
      rw [show (s.extract (s.size - 8) s.size).data.toList.length = 8 from hl8]
  unfold sealL
  have hcs : crcL (bl (s.extract 0 (s.size - 9))) 4294967295 ^^^ 4294967295 = crcS (s.extract 0 (s.size - 9)) := rfl
  rw [hcs, ← h8, bl_extract, bl_extract, List.drop_zero, Nat.sub_zero]
  have hlen : (bl s).length = s.size := bl_len s
  have h35 : (bl s)[s.size - 9]? = some 35 := by
    rw [byt_bl, List.getD_eq_getElem?_getD, List.getElem?_eq_getElem (by omega)] at d1
    rw [List.getElem?_eq_getElem (by omega)]
    congr 1
    apply UInt8.toNat_inj.1
    have h3 : ((bl s)[s.size - 9].toNat : Int) = 35 := by simpa using d1
    have h4 : (bl s)[s.size - 9].toNat = 35 := by omega
    rw [h4]; rfl
  have hsp : bl s = (bl s).take (s.size - 9) ++ (bl s).drop (s.size - 9) := (List.take_append_drop _ _).symm
  conv => lhs; rw [hsp]
  congr 1
  rw [List.drop_eq_getElem_cons (by omega)]
  rw [List.getElem?_eq_getElem (by omega), Option.some.injEq] at h35
  rw [h35, show s.size - 9 + 1 = s.size - 8 by omega, List.take_of_length_le (by rw [List.length_drop]; omega)]
theorem decT_enc {r : Res} (h : stoB r = true) (hse : r.seed < 18446744073709551616) : decT (mkS (sealL (bodyL r))) = (r, 0) := by
  unfold decT
  rw [openT_seal, if_neg (by simp), decB_body h hse]
theorem openT_le (s : ByteArray) : (openT s).1.size ≤ s.size := by
  have h0 : (⟨#[]⟩ : ByteArray).size ≤ s.size := Nat.zero_le _
  unfold openT
  split
  · exact h0
  · split
    · exact h0
    · split
      · exact h0
      · simp only [ByteArray.size_extract]; omega
theorem decT_back {s : ByteArray} (hs : s.size ≤ 9223372036854775807) (h : (decT s).2 = 0) : bl s = sealL (bodyL (decT s).1) ∧ stoB (decT s).1 = true ∧ (decT s).1.seed < 18446744073709551616 := by
  unfold decT at h ⊢
  by_cases c : (openT s).2 ≠ 0
  · rw [if_pos c] at h; exact absurd h c
  rw [if_neg c] at h ⊢
  have c' : (openT s).2 = 0 := by simpa using c
  obtain ⟨h1, h2, h3⟩ := decB_back (Nat.le_trans (openT_le s) hs) h
  exact ⟨by rw [← h1]; exact openT_back c', h2, h3⟩
/-- What is decoded is the record of what is returned. -/
theorem dec_enc {s : ByteArray} (hs : s.size ≤ 9223372036854775807) (h : (decT s).2 = 0) : encT (decT s).1 = (s, 0) := by
  obtain ⟨h1, h2, _⟩ := decT_back hs h
  unfold encT
  rw [if_pos h2]
  have : mkS (sealL (bodyL (decT s).1)) = s := by
    apply bytes_eq
    show bl (mkS _) = bl s
    rw [bl_mk, h1]
  rw [this]
/-- A body is no proper beginning of another one. -/
theorem body_prefix {r r' : Res} {q : List UInt8} (h : stoB r = true) (hse : r.seed < 18446744073709551616) (h' : stoB r' = true) (hse' : r'.seed < 18446744073709551616) (e : bodyL r = bodyL r' ++ q) : q = [] := by
  have h1 := (decR_body (s := mkS (bodyL r)) (q := []) h hse (by rw [List.append_nil]; exact bl_mk _)).2
  have h2 := (decR_body (s := mkS (bodyL r)) (q := q) h' hse' (by rw [bl_mk, e])).2
  rw [h1] at h2
  simp only [Prod.mk.injEq, and_true] at h2
  have h3 : (bodyL r).length = (bodyL r').length := by omega
  rw [e, List.length_append] at h3
  exact List.eq_nil_of_length_eq_zero (by omega)
theorem dec_cut {r : Res} (h : stoB r = true) (hse : r.seed < 18446744073709551616) {k : Nat} (hk : k < (sealL (bodyL r)).length) (hz : (sealL (bodyL r)).length ≤ 9223372036854775807) : (decT (mkS ((sealL (bodyL r)).take k))).2 ≠ 0 := by
  intro h0
  obtain ⟨h1, h2, h3⟩ := decT_back (by rw [mkS_size, List.length_take]; omega) h0
  rw [bl_mk] at h1
  generalize (decT (mkS ((sealL (bodyL r)).take k))).1 = r' at *
  have hl := congrArg List.length h1
  rw [List.length_take, sealL_len, sealL_len] at hl
  rw [sealL_len] at hk
  have hb : (bodyL r).take (bodyL r').length = bodyL r' := by
    have := congrArg (List.take (bodyL r').length) h1
    rw [List.take_take] at this
    unfold sealL at this
    rw [List.take_append, List.take_append, Nat.sub_self, List.take_zero, List.append_nil, List.take_length, Nat.min_eq_left (by omega), show (bodyL r').length - (bodyL r).length = 0 by omega, List.take_zero, List.append_nil] at this
    exact this
  have := body_prefix (q := (bodyL r).drop (bodyL r').length) h hse h2 h3 (by conv => lhs; rw [← List.take_append_drop (bodyL r').length (bodyL r), hb])
  have hd := congrArg List.length this
  rw [List.length_drop, List.length_nil] at hd
  omega

/-! One byte. -/
theorem xor_back {a b p : Nat} (h : a ^^^ p = b ^^^ p) : a = b := by
  have : (a ^^^ p) ^^^ p = (b ^^^ p) ^^^ p := by rw [h]
  rwa [Nat.xor_assoc, Nat.xor_assoc, Nat.xor_self, Nat.xor_zero, Nat.xor_zero] at this
theorem crcBit_inj {a b : Nat} (ha : a < 4294967296) (hb : b < 4294967296) (h : crcBit a = crcBit b) : a = b := by
  have hp : (3988292384 : Nat).testBit 31 = true := by decide
  have low : ∀ x : Nat, x < 4294967296 → (x / 2).testBit 31 = false := fun x hx => Nat.testBit_lt_two_pow (by omega)
  unfold crcBit at h
  by_cases ca : a % 2 = 1 <;> by_cases cb : b % 2 = 1
  · rw [if_pos ca, if_pos cb] at h
    have := xor_back h
    omega
  · rw [if_pos ca, if_neg cb] at h
    have := congrArg (·.testBit 31) h
    simp only [Nat.testBit_xor, low a ha, low b hb, hp] at this
    cases this
  · rw [if_neg ca, if_pos cb] at h
    have := congrArg (·.testBit 31) h
    simp only [Nat.testBit_xor, low a ha, low b hb, hp] at this
    cases this
  · rw [if_neg ca, if_neg cb] at h
    omega
theorem crcN_inj {a b : Nat} (ha : a < 4294967296) (hb : b < 4294967296) : ∀ j, crcN j a = crcN j b → a = b
  | 0, h => h
  | j + 1, h => crcN_inj ha hb j (crcBit_inj (crcN_lt ha j) (crcN_lt hb j) h)
theorem crcL_inj : ∀ (l : List UInt8) {a b : Nat}, a < 4294967296 → b < 4294967296 → crcL l a = crcL l b → a = b
  | [], a, b, _, _, h => h
  | c :: l, a, b, ha, hb, h => by
    have h1 := crcL_inj l (crcN_lt (xor_byte ha c) 8) (crcN_lt (xor_byte hb c) 8) h
    exact xor_back (crcN_inj (xor_byte ha c) (xor_byte hb c) 8 h1)
theorem crcL_byte (p q : List UInt8) {c c' : UInt8} (h : crcL (p ++ c :: q) 4294967295 = crcL (p ++ c' :: q) 4294967295) : c = c' := by
  have hp : crcL p 4294967295 < 4294967296 := crcL_lt p (by decide)
  unfold crcL at h hp
  rw [List.foldl_append, List.foldl_append, List.foldl_cons, List.foldl_cons] at h
  have h1 := crcL_inj q (crcN_lt (xor_byte hp c) 8) (crcN_lt (xor_byte hp c') 8) h
  have h2 := crcN_inj (xor_byte hp c) (xor_byte hp c') 8 h1
  rw [Nat.xor_comm, Nat.xor_comm _ c'.toNat] at h2
  exact UInt8.toNat_inj.1 (xor_back h2)
theorem hexL_inj {x y n : Nat} (hx : x < 16 ^ n) (hy : y < 16 ^ n) (hn : n ≤ 16) (h : hexL x n = hexL y n) : x = y := by
  have h1 := unhT_hex hx hn
  rw [h, unhT_hex hy hn] at h1
  simp only [Prod.mk.injEq, and_true] at h1
  exact h1.symm
/-- A sealed text of which one byte is changed is not sealed. -/
theorem seal_byte {b b' p q : List UInt8} {c c' : UInt8} (h : sealL b = p ++ c :: q) (h' : sealL b' = p ++ c' :: q) : c = c' := by
  have hl : b.length = b'.length := by
    have h1 := congrArg List.length h
    have h2 := congrArg List.length h'
    rw [sealL_len, List.length_append, List.length_cons] at h1 h2
    omega
  have hb : crcL b 4294967295 ^^^ 4294967295 < 16 ^ 8 := by have := crcS_lt (mkS b); rw [crcS_mk] at this; exact this
  have hb' : crcL b' 4294967295 ^^^ 4294967295 < 16 ^ 8 := by have := crcS_lt (mkS b'); rw [crcS_mk] at this; exact this
  by_cases hk : p.length < b.length
  · have t1 : b.take p.length = p := by
      have := congrArg (List.take p.length) h
      unfold sealL at this
      rw [List.take_append, show p.length - b.length = 0 by omega, List.take_zero, List.append_nil, List.take_append, Nat.sub_self, List.take_zero, List.append_nil, List.take_length] at this
      exact this
    have t2 : b'.take p.length = p := by
      have := congrArg (List.take p.length) h'
      unfold sealL at this
      rw [List.take_append, show p.length - b'.length = 0 by omega, List.take_zero, List.append_nil, List.take_append, Nat.sub_self, List.take_zero, List.append_nil, List.take_length] at this
      exact this
    have d1 : b.drop p.length ++ 35 :: hexL (crcL b 4294967295 ^^^ 4294967295) 8 = c :: q := by
      have := congrArg (List.drop p.length) h
      unfold sealL at this
      rw [List.drop_append, show p.length - b.length = 0 by omega, List.drop_zero, List.drop_append, Nat.sub_self, List.drop_zero, List.drop_length, List.nil_append] at this
      exact this
    have d2 : b'.drop p.length ++ 35 :: hexL (crcL b' 4294967295 ^^^ 4294967295) 8 = c' :: q := by
      have := congrArg (List.drop p.length) h'
      unfold sealL at this
      rw [List.drop_append, show p.length - b'.length = 0 by omega, List.drop_zero, List.drop_append, Nat.sub_self, List.drop_zero, List.drop_length, List.nil_append] at this
      exact this
    rw [List.drop_eq_getElem_cons hk, List.cons_append, List.cons.injEq] at d1
    rw [List.drop_eq_getElem_cons (by omega), List.cons_append, List.cons.injEq] at d2
    have d3 := d1.2.trans d2.2.symm
    have d4 := List.append_inj d3 (by rw [List.length_drop, List.length_drop]; omega)
    have d5 := hexL_inj hb hb' (by decide) (List.cons.inj d4.2).2
    have d6 := xor_back d5
    have e1 : b = p ++ c :: b.drop (p.length + 1) := by
      conv => lhs; rw [← List.take_append_drop p.length b, t1, List.drop_eq_getElem_cons hk, d1.1]
    have e2 : b' = p ++ c' :: b.drop (p.length + 1) := by
      conv => lhs; rw [← List.take_append_drop p.length b', t2, List.drop_eq_getElem_cons (by omega), d2.1, ← d4.1]
    refine crcL_byte p (b.drop (p.length + 1)) ?_
    rw [← e1, ← e2]
    exact d6
  · have e : b = b' := by
      have h1 := congrArg (List.take b.length) h
      have h2 := congrArg (List.take b.length) h'
      unfold sealL at h1 h2
      rw [List.take_append, Nat.sub_self, List.take_zero, List.append_nil, List.take_length, List.take_append_of_le_length (by omega)] at h1
      rw [List.take_append, show b.length - b'.length = 0 by omega, List.take_zero, List.append_nil, hl, List.take_length, ← hl, List.take_append_of_le_length (by omega)] at h2
      rw [h1, h2]
    rw [e, h'] at h
    have := List.append_cancel_left h
    exact (List.cons.inj this).1.symm
theorem dec_byte {r : Res} {p q : List UInt8} {c c' : UInt8} (hz : (sealL (bodyL r)).length ≤ 9223372036854775807) (h : sealL (bodyL r) = p ++ c :: q) (hc : c ≠ c') : (decT (mkS (p ++ c' :: q))).2 ≠ 0 := by
  intro h0
  rw [h, List.length_append, List.length_cons] at hz
  obtain ⟨h1, h2, h3⟩ := decT_back (by rw [mkS_size, List.length_append, List.length_cons]; exact hz) h0
  rw [bl_mk] at h1
  exact hc (seal_byte h h1.symm)

end Go.Proofs.YtbgficaboolgiaaGreatDoor

/-
  Records: what was encoded is decoded, what is decoded is the record, and a damaged or cut record is refused. No program in sight.
-/
import Derived.Test.YtbgficaboolgiaaGreatDoorStoP
import Derived.Test.YtbgficaboolgiaaGreatDoorTxA
namespace Go.Proofs.YtbgficaboolgiaaGreatDoor
open Go.RowKit
set_option linter.unusedVariables false
set_option linter.unusedSimpArgs false

/-! Hexadecimal numbers there and back. -/
theorem nib_dig {d : Nat} (h : d < 16) : nib (hexDig d) = some d := by
  have : ∀ d : Fin 16, nib (hexDig d) = some d.val := by decide
  exact this ⟨d, h⟩
theorem dig_nib {c : UInt8} {d : Nat} (h : nib c = some d) : hexDig d = c := by
  unfold nib at h
  have hc : UInt8.ofNat c.toNat = c := by simp
  split at h
  · rename_i h1
    simp only [Option.some.injEq] at h
    unfold hexDig
    rw [if_pos (by omega), show 48 + d = c.toNat by omega, hc]
  · split at h
    · rename_i h1
      simp only [Option.some.injEq] at h
      unfold hexDig
      rw [if_neg (by omega), show 87 + d = c.toNat by omega, hc]
    · cases h
theorem unhL_hex (x : Nat) : ∀ (n : Nat) (y : Nat), y * 16 ^ n + x % 16 ^ n < 18446744073709551616 → unhL (hexL x n) y = some (y * 16 ^ n + x % 16 ^ n)
  | 0, y, h => by simp [hexL, unhL, Nat.mod_one]
  | n + 1, y, h => by
    unfold hexL unhL
    rw [nib_dig (Nat.mod_lt _ (by decide))]
    simp only
    have h16 : x % 16 ^ (n + 1) = x / 16 ^ n % 16 * 16 ^ n + x % 16 ^ n := by
      rw [Nat.pow_succ, Nat.mod_mul, Nat.add_comm, Nat.mul_comm]
    have hp : 0 < 16 ^ n := Nat.pow_pos (by decide)
    have e : y * 16 ^ (n + 1) + x % 16 ^ (n + 1) = (y * 16 + x / 16 ^ n % 16) * 16 ^ n + x % 16 ^ n := by
      rw [h16, Nat.pow_succ, Nat.add_mul, Nat.mul_comm (16 ^ n) 16, ← Nat.mul_assoc, Nat.add_assoc]
    rw [e] at h ⊢
    have hlt : y * 16 + x / 16 ^ n % 16 < 18446744073709551616 := by
      have : y * 16 + x / 16 ^ n % 16 ≤ (y * 16 + x / 16 ^ n % 16) * 16 ^ n := Nat.le_mul_of_pos_right _ hp
      omega
    rw [Nat.mod_eq_of_lt hlt]
    exact unhL_hex x n _ h
theorem unhT_hex {x n : Nat} (hx : x < 16 ^ n) (hn : n ≤ 16) : unhT (mkS (hexL x n)) = (x, true) := by
  unfold unhT
  have h16 : 16 ^ n ≤ 16 ^ 16 := Nat.pow_le_pow_right (by decide) hn
  have e : (16 : Nat) ^ 16 = 18446744073709551616 := by decide
  have h := unhL_hex x n 0 (by rw [Nat.zero_mul, Nat.zero_add, Nat.mod_eq_of_lt hx]; omega)
  rw [Nat.zero_mul, Nat.zero_add, Nat.mod_eq_of_lt hx] at h
  rw [mkS_data, h]
theorem hexS_mk (x : Nat) : hexS x = mkS (hexL x 16) := rfl
theorem uxT_hex {x : Nat} (hx : x < 18446744073709551616) : uxT (hexS x) = (x, 0) := by
  unfold uxT
  rw [hexS_mk, unhT_hex (by simpa using hx) (Nat.le_refl _), if_pos ⟨rfl, by rw [mkS_size, hexL_len]⟩]
/-- What reads as a number is its form. -/
theorem hex_unhL : ∀ (l : List UInt8) (y x : Nat), l.length ≤ 16 → y * 16 ^ l.length < 18446744073709551616 → unhL l y = some x → l = hexL x l.length ∧ x / 16 ^ l.length = y
  | [], y, x, _, _, h => by simp [unhL] at h; subst h; exact ⟨rfl, by simp⟩
  | c :: l, y, x, hl, hy, h => by
    unfold unhL at h
    cases hn : nib c with
    | none => rw [hn] at h; cases h
    | some d =>
      rw [hn] at h
      simp only at h
      have hd := nib_lt hn
      rw [List.length_cons] at hl hy
      rw [Nat.pow_succ] at hy
      have hp : 0 < 16 ^ l.length := Nat.pow_pos (by decide)
      have hy2 : y * 16 * 16 ^ l.length < 18446744073709551616 := by rw [Nat.mul_assoc, Nat.mul_comm 16]; exact hy
      -- the room of a digit
      have hroom : (y * 16 + d) * 16 ^ l.length < 18446744073709551616 := by
        obtain ⟨q, hq⟩ : ∃ q, 16 ^ (15 - l.length) = q := ⟨_, rfl⟩
        have e : 16 ^ l.length * 16 * q = 18446744073709551616 := by
          rw [← hq, ← Nat.pow_succ, ← Nat.pow_add, show l.length + 1 + (15 - l.length) = 16 by omega]
        have hyq : y < q := by
          apply Nat.lt_of_mul_lt_mul_right (a := 16 ^ l.length * 16)
          rw [Nat.mul_comm q]
          omega
        have : (y * 16 + d) * 16 ^ l.length < q * 16 * 16 ^ l.length := by
          apply Nat.mul_lt_mul_of_pos_right _ hp
          omega
        have e2 : q * 16 * 16 ^ l.length = 18446744073709551616 := by rw [← e, Nat.mul_comm (16 ^ l.length * 16) q, Nat.mul_assoc, Nat.mul_comm 16]
        omega
      have hlt : y * 16 + d < 18446744073709551616 := by
        have : y * 16 + d ≤ (y * 16 + d) * 16 ^ l.length := Nat.le_mul_of_pos_right _ hp
        omega
      rw [Nat.mod_eq_of_lt hlt] at h
      obtain ⟨h1, h2⟩ := hex_unhL l (y * 16 + d) x (by omega) hroom h
      have h3 : x / 16 ^ (l.length + 1) = y := by
        rw [Nat.pow_succ, ← Nat.div_div_eq_div_mul, h2]; omega
      refine ⟨?_, by rw [List.length_cons]; exact h3⟩
      rw [List.length_cons]
      unfold hexL
      rw [h2, show (y * 16 + d) % 16 = d by omega, dig_nib hn, ← h1]
theorem uxT_back {s : ByteArray} (h : (uxT s).2 = 0) : s = hexS (uxT s).1 := by
  unfold uxT at h ⊢
  split at h
  · rename_i h1
    rw [if_pos h1]
    obtain ⟨h2, h3⟩ := h1
    unfold unhT at h2 ⊢
    cases hu : unhL s.data.toList 0 with
    | none => rw [hu] at h2; cases h2
    | some x =>
      have hl : s.data.toList.length = 16 := by rw [← Lib.size_eq]; exact h3
      have := (hex_unhL s.data.toList 0 x (by omega) (by rw [Nat.zero_mul]; decide) hu).1
      rw [hl] at this
      refine toS_eq ?_
      show s.data.toList = _
      rw [hexS_mk]; show _ = (mkS _).data.toList
      rw [mkS_data]; exact this
  · cases h

/-! One field. -/
theorem rdT_text {s : ByteArray} {p q : List UInt8} {t : ByteArray} (ht : t.size ≤ 64) (hs : bl s = p ++ (pText t ++ q)) : rdT s ((p.length : Int), 0) = (t, (((p.length + (pText t).length : Nat) : Int), 0)) := by
  unfold rdT
  rw [if_neg (by simp), tt_text (by omega) hs, if_neg (by simp), if_neg (by simp only; omega)]
theorem rdN_num {s : ByteArray} {p q : List UInt8} {n t : Int} (h0 : 0 ≤ n) (h1 : n ≤ t) (h2 : t ≤ 9223372036854775807) (hs : bl s = p ++ (pNum n ++ q)) : rdN s t ((p.length : Int), 0) = (n, (((p.length + (pNum n).length : Nat) : Int), 0)) := by
  unfold rdN
  have : wiB n t = true := wiB_iff.2 ⟨h0, h1⟩
  rw [if_neg (by simp), tn_num (by omega) (by omega) hs, if_neg (by simp), if_neg (by simp only; rw [this]; decide)]
theorem rdS_hex {s : ByteArray} {p q : List UInt8} {x : Nat} (hx : x < 18446744073709551616) (hs : bl s = p ++ (pText (hexS x) ++ q)) : rdS s ((p.length : Int), 0) = (x, (((p.length + (pText (hexS x)).length : Nat) : Int), 0)) := by
  unfold rdS
  rw [if_neg (by simp), tt_text (by rw [hexS_size]; omega) hs, if_neg (by simp), uxT_hex hx, if_neg (by simp)]
/-! Lists of fields. -/
theorem rdC_num {s : ByteArray} {p q : List UInt8} {c : List Int} (hc : ∀ n ∈ c, 0 ≤ n ∧ n ≤ 1099511627776) (hs : bl s = p ++ (c.flatMap pNum ++ q)) : ∀ k, k ≤ c.length → rdC s ((p.length : Int), 0) k = (c.take k, (((p.length + ((c.take k).flatMap pNum).length : Nat) : Int), 0))
  | 0, _ => by simp [rdC]
  | k + 1, hk => by
    have ih := rdC_num hc hs k (by omega)
    have ht : c.take (k + 1) = c.take k ++ [c.getD k 0] := by
      rw [List.take_add_one, List.getElem?_eq_getElem (by omega), List.getD_eq_getElem?_getD, List.getElem?_eq_getElem (by omega)]; rfl
    have hb := hc _ (getD_mem (l := c) (k := k) 0 (by omega))
    have hsp : bl s = (p ++ (c.take k).flatMap pNum) ++ (pNum (c.getD k 0) ++ ((c.drop (k + 1)).flatMap pNum ++ q)) := by
      have e : c.flatMap pNum = (c.take (k + 1)).flatMap pNum ++ (c.drop (k + 1)).flatMap pNum := by rw [← List.flatMap_append, List.take_append_drop]
      rw [hs, e, ht, List.flatMap_append]; simp
    have h2 := rdN_num (t := 1099511627776) hb.1 hb.2 (by decide) hsp
    rw [List.length_append] at h2
    simp only [rdC]
    rw [ih]
    simp only
    rw [h2, ht, List.flatMap_append]
    simp [Nat.add_assoc]
theorem rdRow_row {s : ByteArray} {p q : List UInt8} {c : List Int} (hc : c.length ≤ 256 ∧ ∀ n ∈ c, 0 ≤ n ∧ n ≤ 1099511627776) (hs : bl s = p ++ (cntL c ++ q)) : rdRow s ((p.length : Int), 0) = (c, (((p.length + (cntL c).length : Nat) : Int), 0)) := by
  unfold cntL at hs ⊢
  unfold rdRow
  rw [List.append_assoc] at hs
  have h1 := rdN_num (t := 256) (n := c.length) (by omega) (by omega) (by decide) hs
  rw [h1]
  simp only [Int.toNat_natCast]
  rw [← List.append_assoc] at hs
  have h2 := rdC_num hc.2 hs c.length (Nat.le_refl _)
  rw [List.length_append] at h2
  rw [h2, List.take_length, List.length_append, Nat.add_assoc]
theorem rdRs_rows {s : ByteArray} {p q : List UInt8} {l : List (List Int)} (hl : ∀ c ∈ l, c.length ≤ 256 ∧ ∀ n ∈ c, 0 ≤ n ∧ n ≤ 1099511627776) (hs : bl s = p ++ (l.flatMap cntL ++ q)) : ∀ k, k ≤ l.length → rdRs s ((p.length : Int), 0) k = (l.take k, (((p.length + ((l.take k).flatMap cntL).length : Nat) : Int), 0))
  | 0, _ => by simp [rdRs]
  | k + 1, hk => by
    have ih := rdRs_rows hl hs k (by omega)
    have ht : l.take (k + 1) = l.take k ++ [l.getD k []] := by
      rw [List.take_add_one, List.getElem?_eq_getElem (by omega), List.getD_eq_getElem?_getD, List.getElem?_eq_getElem (by omega)]; rfl
    have hb := hl _ (getD_mem (l := l) (k := k) [] (by omega))
    have hsp : bl s = (p ++ (l.take k).flatMap cntL) ++ (cntL (l.getD k []) ++ ((l.drop (k + 1)).flatMap cntL ++ q)) := by
      have e : l.flatMap cntL = (l.take (k + 1)).flatMap cntL ++ (l.drop (k + 1)).flatMap cntL := by rw [← List.flatMap_append, List.take_append_drop]
      rw [hs, e, ht, List.flatMap_append]; simp
    have h2 := rdRow_row hb hsp
    rw [List.length_append] at h2
    simp only [rdRs]
    rw [ih]
    simp only
    rw [h2, ht, List.flatMap_append]
    simp [Nat.add_assoc]
theorem rdL_list {s : ByteArray} {p q : List UInt8} {l : List (List Int)} (hl : lstB l = true) (hs : bl s = p ++ (lstL l ++ q)) : rdL s ((p.length : Int), 0) = (l, (((p.length + (lstL l).length : Nat) : Int), 0)) := by
  obtain ⟨h16, hrow⟩ := lst_parts hl
  unfold lstL at hs ⊢
  unfold rdL
  rw [List.append_assoc] at hs
  have h1 := rdN_num (t := 16) (n := l.length) (by omega) (by omega) (by decide) hs
  rw [h1]
  simp only [Int.toNat_natCast]
  rw [← List.append_assoc] at hs
  have h2 := rdRs_rows hrow hs l.length (Nat.le_refl _)
  rw [List.length_append] at h2
  rw [h2, List.take_length, List.length_append, Nat.add_assoc]
/-- A body is read back, whatever stands behind it. -/
theorem decR_body {s : ByteArray} {q : List UInt8} {r : Res} (h : stoB r = true) (hse : r.seed < 18446744073709551616) (hs : bl s = bodyL r ++ q) : decR s = r ∧ (stB s).2 = (((bodyL r).length : Int), 0) := by
  obtain ⟨⟨a, b, c⟩, ⟨⟨d, d'⟩, ⟨e, e'⟩, f, f'⟩, g, i, ⟨j, j'⟩, k, k'⟩ := sto_parts h
  unfold bodyL at hs
  simp only [List.append_assoc] at hs
  have s1 : st1 s = (r.test, ((((pText r.test).length : Nat) : Int), 0)) := by
    have := rdT_text (s := s) (p := []) (q := _) a (by rw [hs]; simp only [List.append_assoc, List.nil_append]; rfl)
    rw [List.length_nil, Nat.zero_add] at this
    exact this
  have s2 : st2 s = (r.seed, ((((pText r.test ++ pText (hexS r.seed)).length : Nat) : Int), 0)) := by
    have := rdS_hex (s := s) (p := pText r.test) (q := _) hse hs
    rw [← List.length_append] at this
    unfold st2; rw [s1]; exact this
  have s3 : st3 s = (r.design, (((((pText r.test ++ pText (hexS r.seed)) ++ pText r.design).length : Nat) : Int), 0)) := by
    have := rdT_text (s := s) (p := (pText r.test ++ pText (hexS r.seed))) (q := _) b (by rw [hs]; simp only [List.append_assoc, List.nil_append]; rfl)
    rw [← List.length_append] at this
    unfold st3; rw [s2]; exact this
  have s4 : st4 s = (r.sign, ((((((pText r.test ++ pText (hexS r.seed)) ++ pText r.design) ++ pText r.sign).length : Nat) : Int), 0)) := by
    have := rdT_text (s := s) (p := ((pText r.test ++ pText (hexS r.seed)) ++ pText r.design)) (q := _) c (by rw [hs]; simp only [List.append_assoc, List.nil_append]; rfl)
    rw [← List.length_append] at this
    unfold st4; rw [s3]; exact this
  have s5 : st5 s = (r.cycle, (((((((pText r.test ++ pText (hexS r.seed)) ++ pText r.design) ++ pText r.sign) ++ pNum r.cycle).length : Nat) : Int), 0)) := by
    have := rdN_num (s := s) (p := (((pText r.test ++ pText (hexS r.seed)) ++ pText r.design) ++ pText r.sign)) (q := _) d d' (by decide) (by rw [hs]; simp only [List.append_assoc, List.nil_append]; rfl)
    rw [← List.length_append] at this
    unfold st5; rw [s4]; exact this
  have s6 : st6 s = (r.sent, ((((((((pText r.test ++ pText (hexS r.seed)) ++ pText r.design) ++ pText r.sign) ++ pNum r.cycle) ++ pNum r.sent).length : Nat) : Int), 0)) := by
    have := rdN_num (s := s) (p := ((((pText r.test ++ pText (hexS r.seed)) ++ pText r.design) ++ pText r.sign) ++ pNum r.cycle)) (q := _) e e' (by decide) (by rw [hs]; simp only [List.append_assoc, List.nil_append]; rfl)
    rw [← List.length_append] at this
    unfold st6; rw [s5]; exact this
  have s7 : st7 s = (r.got, (((((((((pText r.test ++ pText (hexS r.seed)) ++ pText r.design) ++ pText r.sign) ++ pNum r.cycle) ++ pNum r.sent) ++ pNum r.got).length : Nat) : Int), 0)) := by
    have := rdN_num (s := s) (p := (((((pText r.test ++ pText (hexS r.seed)) ++ pText r.design) ++ pText r.sign) ++ pNum r.cycle) ++ pNum r.sent)) (q := _) f f' (by decide) (by rw [hs]; simp only [List.append_assoc, List.nil_append]; rfl)
    rw [← List.length_append] at this
    unfold st7; rw [s6]; exact this
  have s8 : st8 s = (r.pts, ((((((((((pText r.test ++ pText (hexS r.seed)) ++ pText r.design) ++ pText r.sign) ++ pNum r.cycle) ++ pNum r.sent) ++ pNum r.got) ++ lstL r.pts).length : Nat) : Int), 0)) := by
    have := rdL_list (s := s) (p := ((((((pText r.test ++ pText (hexS r.seed)) ++ pText r.design) ++ pText r.sign) ++ pNum r.cycle) ++ pNum r.sent) ++ pNum r.got)) (q := _) g (by rw [hs]; simp only [List.append_assoc, List.nil_append]; rfl)
    rw [← List.length_append] at this
    unfold st8; rw [s7]; exact this
  have s9 : st9 s = (r.crs, (((((((((((pText r.test ++ pText (hexS r.seed)) ++ pText r.design) ++ pText r.sign) ++ pNum r.cycle) ++ pNum r.sent) ++ pNum r.got) ++ lstL r.pts) ++ lstL r.crs).length : Nat) : Int), 0)) := by
    have := rdL_list (s := s) (p := (((((((pText r.test ++ pText (hexS r.seed)) ++ pText r.design) ++ pText r.sign) ++ pNum r.cycle) ++ pNum r.sent) ++ pNum r.got) ++ lstL r.pts)) (q := _) i (by rw [hs]; simp only [List.append_assoc, List.nil_append]; rfl)
    rw [← List.length_append] at this
    unfold st9; rw [s8]; exact this
  have sA : stA s = (r.smp, ((((((((((((pText r.test ++ pText (hexS r.seed)) ++ pText r.design) ++ pText r.sign) ++ pNum r.cycle) ++ pNum r.sent) ++ pNum r.got) ++ lstL r.pts) ++ lstL r.crs) ++ pNum r.smp).length : Nat) : Int), 0)) := by
    have := rdN_num (s := s) (p := ((((((((pText r.test ++ pText (hexS r.seed)) ++ pText r.design) ++ pText r.sign) ++ pNum r.cycle) ++ pNum r.sent) ++ pNum r.got) ++ lstL r.pts) ++ lstL r.crs)) (q := _) j j' (by decide) (by rw [hs]; simp only [List.append_assoc, List.nil_append]; rfl)
    rw [← List.length_append] at this
    unfold stA; rw [s9]; exact this
  have sB : stB s = (r.ill, (((((((((((((pText r.test ++ pText (hexS r.seed)) ++ pText r.design) ++ pText r.sign) ++ pNum r.cycle) ++ pNum r.sent) ++ pNum r.got) ++ lstL r.pts) ++ lstL r.crs) ++ pNum r.smp) ++ pNum r.ill).length : Nat) : Int), 0)) := by
    have := rdN_num (s := s) (p := (((((((((pText r.test ++ pText (hexS r.seed)) ++ pText r.design) ++ pText r.sign) ++ pNum r.cycle) ++ pNum r.sent) ++ pNum r.got) ++ lstL r.pts) ++ lstL r.crs) ++ pNum r.smp)) (q := _) k k' (by decide) (by rw [hs]; simp only [List.append_assoc, List.nil_append]; rfl)
    rw [← List.length_append] at this
    unfold stB; rw [sA]; exact this
  refine ⟨by unfold decR; rw [s1, s2, s3, s4, s5, s6, s7, s8, s9, sA, sB], ?_⟩
  rw [sB]
  unfold bodyL
  simp only [List.append_assoc]
theorem decB_body {r : Res} (h : stoB r = true) (hse : r.seed < 18446744073709551616) : decB (mkS (bodyL r)) = (r, 0) := by
  obtain ⟨h1, h2⟩ := decR_body (s := mkS (bodyL r)) (q := []) h hse (by rw [List.append_nil]; exact mkS_data _)
  have h3 : decE (mkS (bodyL r)) = 0 := by unfold decE; rw [h2, mkS_size]; simp
  unfold decB
  rw [if_pos h3, h1]

end Go.Proofs.YtbgficaboolgiaaGreatDoor

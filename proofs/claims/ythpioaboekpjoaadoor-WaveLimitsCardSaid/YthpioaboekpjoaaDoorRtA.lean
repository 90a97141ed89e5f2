/-
  The text of a valid transaction is read back. No walk here.
-/
import Derived.Test.YthpioaboekpjoaaDoorTxE
import Derived.Test.YthpioaboekpjoaaDoorTxD
import Derived.Test.YthpioaboekpjoaaDoorDec
namespace Go.Proofs.YthpioaboekpjoaaDoor
section
open Go.RowKit
set_option linter.unusedVariables false
set_option linter.unusedSimpArgs false

theorem partsL_join (b : UInt8) : ∀ ps : List (List UInt8), ps ≠ [] → (∀ p ∈ ps, ∀ x ∈ p, x ≠ b) → partsL b (joinL b ps) = ps
  | [], h, _ => absurd rfl h
  | [p], _, h => by rw [joinL, partsL_no b p (h p (by simp))]
  | p :: q :: r, _, h => by
    rw [joinL, partsL_cut b p _ (h p (by simp)), partsL_join b (q :: r) (by simp) (fun x hx => h x (List.mem_cons_of_mem _ hx))]
theorem byt_mem {s : ByteArray} {x : UInt8} (hx : x ∈ s.data.toList) : ∃ j, j < s.size ∧ byt s j = x.toNat := by
  obtain ⟨j, hj, rfl⟩ := List.mem_iff_getElem.1 hx
  refine ⟨j, by rw [Lib.size_eq]; exact hj, ?_⟩
  unfold byt
  rw [List.getD_eq_getElem?_getD, List.getElem?_eq_getElem hj]
  rfl
theorem var_ne {s : ByteArray} {b : UInt8} (h : varB s = true) (hb : innC b.toNat = false) (h1 : b ≠ 91) (h2 : b ≠ 93) : ∀ x ∈ s.data.toList, x ≠ b := by
  unfold varB at h
  rw [Bool.or_eq_true] at h
  rcases h with h | h
  · have he : Elt s := of_decide_eq_true h
    obtain ⟨e1, e2, e3, e4, e5, e6⟩ := he
    have hw := (nameB_iff.1 e6).1
    intro x hx e
    obtain ⟨j, hj, hjx⟩ := byt_mem hx
    have hn : ∀ c : UInt8, b ≠ c → (byt s j : Int) = (c.toNat : Int) → False := fun c hc hh => by
      rw [hjx, e] at hh
      exact hc (UInt8.toNat_inj.1 (by omega))
    by_cases c0 : j = s.size - 1
    · subst c0; rw [hjx, e] at e2
      exact h2 (UInt8.toNat_inj.1 (by show b.toNat = 93; omega))
    by_cases c1 : j = s.size - 3
    · subst c1; rw [hjx, e] at e3
      exact h1 (UInt8.toNat_inj.1 (by show b.toNat = 91; omega))
    by_cases c2 : j = s.size - 2
    · subst c2; rw [hjx, e] at e4 e5
      unfold innC at hb
      have hb2 := of_decide_eq_false hb
      exact hb2 (by omega)
    · have hsz : (s.extract 0 (s.size - 3)).size = s.size - 3 := by rw [Lib.size_eq, Lib.extract_data, List.length_take, List.length_drop, ← Lib.size_eq]; omega
      have h5 := hw.2.2 j (by rw [hsz]; omega)
      have h6 : byt (s.extract 0 (s.size - 3)) j = byt s j := by
        unfold byt
        rw [Lib.extract_data]
        simp only [List.drop_zero, Nat.sub_zero, List.getD_eq_getElem?_getD]
        rw [List.getElem?_take_of_lt (by omega)]
      rw [h6, hjx, e, hb] at h5
      cases h5
  · exact wrd_ne (nameB_iff.1 h).1 hb
theorem fmt_ne {z : Int} (hz : 0 ≤ z) {b : UInt8} (hb : b.toNat < 48) : ∀ x ∈ (fmtS z).data.toList, x ≠ b := by
  intro x hx e
  have h1 : (fmtS z).data.toList = Lib.decDigits z.toNat := by
    unfold fmtS
    obtain ⟨n, rfl⟩ := Int.eq_ofNat_of_zero_le hz
    rw [Lib.itoa_nonneg]; simp
  rw [h1] at hx
  have := (dec_ldig _ x hx).1
  rw [e] at this; omega
theorem drop_mid (b : UInt8) (r : List UInt8) : ∀ l : List UInt8, (l ++ b :: r).drop (l.length + 1) = r
  | [] => rfl
  | _ :: l => drop_mid b r l
theorem pstr_data (p : Pr) : (pstr p).data.toList = p.1.data.toList ++ 61 :: (fmtS p.2).data.toList := by
  unfold pstr; simp
theorem part_pstr {n : ByteArray} {z : Int} (h : varB n = true) (hz : wordB z = true) : partT (pstr (n, z)) = (n, z, 0) := by
  have hw : 0 ≤ z ∧ z ≤ 65535 := of_decide_eq_true hz
  have hd := pstr_data (n, z)
  have hi : ix 61 (pstr (n, z)).data.toList = n.data.toList.length := by rw [hd]; exact ix_of _ _ (var_ne h (by decide) (by decide) (by decide))
  have h1 : hasB 61 (pstr (n, z)) = true := by
    unfold hasB; rw [hi]; exact decide_eq_true (by rw [hd]; simp)
  have h2 : preB 61 (pstr (n, z)) = n := ba_eq (by unfold preB; rw [hi, hd]; simp)
  have h3 : posB 61 (pstr (n, z)) = fmtS z := ba_eq (by unfold posB; rw [hi, hd, List.toList_toArray]; exact drop_mid 61 _ _)
  have hp := par_fmt z (by omega) (by omega)
  unfold partT
  rw [h2, h3, hp.1, hp.2, if_neg (by simp [h1, h]), if_neg (by decide), if_neg (by simp [hz])]
theorem run_prs : ∀ (ns ms : List ByteArray) (zs ys : List Int), ns.length = zs.length → (ms ++ ns).Nodup → (∀ s ∈ ns, varB s = true) → (∀ z ∈ zs, wordB z = true) → prsRun ((prs ns zs).map pstr) ms ys = (ms ++ ns, ys ++ zs, 0)
  | [], ms, [], ys, _, _, _, _ => by simp [prs, prsRun]
  | [], ms, _ :: _, ys, h, _, _, _ => by simp at h
  | _ :: _, ms, [], ys, h, _, _, _ => by simp at h
  | n :: ns, ms, z :: zs, ys, h, hd, hv, hw => by
    have e : (prs (n :: ns) (z :: zs)).map pstr = pstr (n, z) :: (prs ns zs).map pstr := by simp [prs]
    have hp := part_pstr (hv n (by simp)) (hw z (by simp))
    have hnm : n ∉ ms := fun hm => by
      rw [List.nodup_append] at hd
      exact hd.2.2 n hm n (by simp) rfl
    have hc : Lib.containsS ms n = false := by
      cases hc : Lib.containsS ms n
      · rfl
      · exact absurd ((Lib.containsS_iff _ _).1 hc) hnm
    rw [e, prs_go (by rw [hp]) (by rw [hp]; exact hc), hp]
    simp only
    rw [run_prs ns (ms ++ [n]) zs (ys ++ [z]) (by simpa using h) (by simpa using hd) (fun s hs => hv s (List.mem_cons_of_mem _ hs)) (fun x hx => hw x (List.mem_cons_of_mem _ hx))]
    simp
theorem joinP_joinL (l : List ByteArray) : joinP l = joinL 32 (l.map (·.data.toList)) := by
  unfold joinP
  generalize l.map (·.data.toList) = ps
  have key : ∀ ps : List (List UInt8), Lib.join ps [32] = joinL 32 ps := by
    intro ps
    match ps with
    | [] => rfl
    | [p] => exact Lib.join_one p [32]
    | p :: q :: r =>
      have go : ∀ (ps : List (List UInt8)), Lib.join ps [32] = joinL 32 ps := by
        intro ps
        induction ps with
        | nil => rfl
        | cons p ps ih =>
          cases ps with
          | nil => exact Lib.join_one p [32]
          | cons q r =>
            rw [Lib.join_cons, joinL, ← ih, Lib.join_cons]
            simp [Lib.joinTail]
      exact go _
  exact key ps
theorem words_join {l : List ByteArray} (h : l ≠ []) (hn : ∀ s ∈ l, ∀ x ∈ s.data.toList, x ≠ 32) {s : ByteArray} (hs : s.data.toList = joinP l) : words 32 s = l := by
  unfold words
  rw [hs, joinP_joinL, partsL_join 32 _ (by simpa using h) (fun p hp => by
    obtain ⟨q, hq, rfl⟩ := List.mem_map.1 hp
    exact hn q hq), List.map_map]
  conv => rhs; rw [← List.map_id l]
  refine List.map_congr_left fun x _ => ?_
  exact ba_eq (by simp [mkB])
theorem pstr_no {p : Pr} (h : varB p.1 = true) (hz : wordB p.2 = true) : ∀ x ∈ (pstr p).data.toList, x ≠ 32 := by
  intro x hx
  rw [pstr_data] at hx
  have hw : 0 ≤ p.2 ∧ p.2 ≤ 65535 := of_decide_eq_true hz
  rcases List.mem_append.1 hx with hx | hx
  · exact var_ne h (by decide) (by decide) (by decide) x hx
  · rcases List.mem_cons.1 hx with rfl | hx
    · decide
    · exact fmt_ne hw.1 (by decide) x hx
/-- The text of a valid transaction is read back. -/
theorem parse_print {ns : List ByteArray} {zs : List Int} (h : txV ns zs = true) : parseT (printT ns zs) = (ns, zs, 0) := by
  obtain ⟨h1, h2, h3, h4, h5⟩ : TxV ns zs := of_decide_eq_true h
  have hpd : (printT ns zs).data.toList = joinP ((prs ns zs).map pstr) := by unfold printT; rw [if_pos h]
  cases ns with
  | nil =>
    obtain rfl : zs = [] := List.eq_nil_of_length_eq_zero (by simpa using h1.symm)
    have : (printT [] []).size = 0 := by rw [Lib.size_eq, hpd]; rfl
    unfold parseT; rw [if_pos this]
  | cons n ns =>
    cases zs with
    | nil => simp at h1
    | cons z zs =>
      have e : (prs (n :: ns) (z :: zs)).map pstr = pstr (n, z) :: (prs ns zs).map pstr := by simp [prs]
      have hw := words_join (l := (prs (n :: ns) (z :: zs)).map pstr) (by rw [e]; simp) (fun s hs => by
        obtain ⟨p, hp, rfl⟩ := List.mem_map.1 hs
        have hm := List.of_mem_zip (show (p.1, p.2) ∈ List.zip (n :: ns) (z :: zs) from hp)
        exact pstr_no (h4 _ hm.1) (h5 _ hm.2)) hpd
      have hr := run_prs (n :: ns) [] (z :: zs) [] h1 (by simpa using h3) h4 h5
      simp only [List.nil_append] at hr
      have hne : ¬ (printT (n :: ns) (z :: zs)).size = 0 := fun h0 => by
        have h6 : words 32 (printT (n :: ns) (z :: zs)) = [printT (n :: ns) (z :: zs)] := by
          have hnil : (printT (n :: ns) (z :: zs)).data.toList = [] := List.eq_nil_of_length_eq_zero (by rw [← Lib.size_eq]; exact h0)
          refine words_no ?_
          unfold hasB; rw [hnil]; simp
        rw [h6, e] at hw
        have h7 : (printT (n :: ns) (z :: zs)) = pstr (n, z) := (List.cons.inj hw).1
        have h8 := congrArg (fun b => b.data.toList.length) h7
        simp only [pstr_data, List.length_append, List.length_cons] at h8
        rw [Lib.size_eq] at h0
        omega
      unfold parseT
      rw [if_neg hne, hw, hr, if_neg (fun hh => by have h9 : 128 < (n :: ns).length := hh.2; omega)]
end

end Go.Proofs.YthpioaboekpjoaaDoor

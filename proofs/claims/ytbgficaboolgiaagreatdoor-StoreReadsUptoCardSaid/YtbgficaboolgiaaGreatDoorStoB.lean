/-
  Contracts of store's storable and packed.
-/
import Derived.Test.YtbgficaboolgiaaGreatDoorStoA
namespace Go.Proofs.YtbgficaboolgiaaGreatDoor
open Go.RowKit
set_option linter.unusedVariables false
set_option linter.unusedSimpArgs false

theorem lst_take {l : List (List Int)} {k : Nat} (h : k < l.length) : (l.take (k + 1)).flatMap cntL = (l.take k).flatMap cntL ++ (pNum (l.getD k []).length ++ (l.getD k []).flatMap pNum) := by
  have : l.take (k + 1) = l.take k ++ [l.getD k []] := by
    rw [List.take_add_one, List.getElem?_eq_getElem h, List.getD_eq_getElem?_getD, List.getElem?_eq_getElem h]; rfl
  rw [this, List.flatMap_append]; simp [cntL]
theorem num_take {c : List Int} {k : Nat} (h : k < c.length) : (c.take (k + 1)).flatMap pNum = (c.take k).flatMap pNum ++ pNum (c.getD k 0) := by
  have : c.take (k + 1) = c.take k ++ [c.getD k 0] := by
    rw [List.take_add_one, List.getElem?_eq_getElem h, List.getD_eq_getElem?_getD, List.getElem?_eq_getElem h]; rfl
  rw [this, List.flatMap_append]; simp
theorem mkS_app (a b : List UInt8) : mkS a ++ mkS b = mkS (a ++ b) := bytes_eq (by
  show bl _ = bl _
  unfold bl
  rw [mkS_data, ByteArray.data_append]
  simp [mkS])
theorem take_flat_le {α : Type} (f : α → List UInt8) (l : List α) (k : Nat) : ((l.take k).flatMap f).length ≤ (l.flatMap f).length := by
  conv => rhs; rw [← List.take_append_drop k l]
  rw [List.flatMap_append, List.length_append]; omega

set_option maxRecDepth 100000 in
set_option maxHeartbeats 8000000 in
theorem stoPacked (w : World) (v : Value) (l : List (List Int)) (hv : Rs ilR w v l anyB) (hl : lstB l = true) (ht : Tab w) :
    Calls Tryz.prog 24 #[v] w fun e w' => e = .returned (.string (mkS (lstL l))) ∧ Below w.heap.size w w' := by
  have HT := Lib.hid ht
  have hlen := lstL_len hl
  obtain ⟨h16, hrow⟩ := lst_parts hl
  have HROW := Lib.hid (fun k (hk : k < l.length) => hrow _ (getD_mem [] hk))
  have HTK := Lib.hid (fun k hk => lst_take (l := l) (k := k) hk)
  have HLE : Hid (∀ k, (pNum l.length ++ (l.take k).flatMap cntL).length ≤ 100000) := Lib.hid fun k => by
    have := take_flat_le cntL l k
    unfold lstL at hlen
    rw [List.length_append] at hlen ⊢; omega
  have HAL : Hid (pNum l.length ++ (l.take l.length).flatMap cntL = lstL l) := Lib.hid (by rw [List.take_length]; rfl)
  have HST : Hid (pNum l.length ++ (l.take 0).flatMap cntL = pNum l.length) := Lib.hid (by simp)
  obtain ⟨A, c, rfl, hc, hx⟩ := hv.ils
  have HX := Lib.hid hx
  obtain ⟨N, hN⟩ : ∃ N, N = l.length := ⟨_, rfl⟩
  have HN := Lib.hid hN
  rw [← hN] at h16 HLE HAL HST hc ⊢
  have CN := Lib.hid (fun (n : Int) (h0 : 0 ≤ n) (h1 : n ≤ 1099511627776) W (hW : Below w.heap.size w W) => packNumber W n (by omega) (by omega) (HT.out.below hW))
  generalize lstL l = r at *
  clear ht hl hx hN hlen hrow hc hv
  obtain ⟨pre, hpre⟩ : ∃ pre : Nat → List UInt8, pre = fun k => pNum N ++ (l.take k).flatMap cntL := ⟨_, rfl⟩
  have HLE2 : Hid (∀ k, (pre k).length ≤ 100000) := Lib.hid fun k => by rw [hpre]; exact HLE.out k
  have HAL2 : Hid (pre N = r) := Lib.hid (by rw [hpre]; exact HAL.out)
  have HST2 : Hid (pre 0 = pNum N) := Lib.hid (by rw [hpre]; exact HST.out)
  have HTK2 : Hid (∀ k, k < l.length → pre (k + 1) = (pre k ++ pNum (l.getD k []).length) ++ (l.getD k []).flatMap pNum) := Lib.hid fun k hk => by
    rw [hpre]; simp only [HTK.out k hk, List.append_assoc]
  clear hpre HLE HAL HST HTK
  have HB0 := Lib.hid (Below.refl w.heap.size w)
  go_enter Tryz.func24, Tryz.ntmps24
  go_wp2_with fail
  refine (CN.out N (by omega) (by omega) _ HB0.out).mono ?_; rintro e w2 ⟨rfl, hb⟩
  have HB := Lib.hid hb
  clear hb HB0
  rw [← HST2.out]
  go_wp2_with fail
  go_loopw [3, 13] (fun s i wr => ∃ k : Nat, k ≤ N ∧ s = .string (mkS (pre k)) ∧ i = .int .i64 k ∧ Below w.heap.size w wr) (fun _ i _ => N - (intOf i).toNat)
  case atStart => exact ⟨0, Nat.zero_le _, rfl, rfl, HB.out⟩
  case round =>
    clear HB
    obtain ⟨k, hk, rfl, rfl, hb⟩ := hrel
    have HB := Lib.hid hb
    clear hb
    by_cases hlt : k < N
    · have hlt2 : (k : Int) < N := by omega
      have hk0 : (0 : Int) ≤ (k : Int) := by omega
      have hkn : k < l.length := by rw [← HN.out]; exact hlt
      obtain ⟨b, o, u, rfl, hbl, q0, hu, -⟩ := HX.out k hkn
      have q1 : wr.cell? ⟨b, o + k, none⟩ = some u := (HB.out.cell (p := ⟨b, o + k, none⟩) hbl).trans q0
      have HU := Lib.hid hu
      obtain ⟨h256, hnum⟩ := HROW.out k hkn
      have HTKk := Lib.hid (HTK2.out k hkn)
      have hl1 := HLE2.out (k + 1)
      obtain ⟨E, e1, rfl, -⟩ := id hu
      generalize l.getD k [] = row at *
      have HNUM := Lib.hid (fun j (hj : j < row.length) => hnum _ (getD_mem 0 hj))
      have HNT := Lib.hid (fun j hj => num_take (c := row) (k := j) hj)
      have HTFL := Lib.hid (take_flat_le pNum row)
      obtain ⟨L, hL⟩ : ∃ L, L = row.length := ⟨_, rfl⟩
      have HL := Lib.hid hL
      rw [← hL] at q1 h256 HU HTKk
      have e1' : (mkS (pre k)).size ≤ 100000 := by rw [mkS_size]; exact HLE2.out k
      rw [HTKk.out, List.length_append, List.length_append] at hl1
      have e2' : (mkS (pNum L)).size ≤ 100000 := by rw [mkS_size]; omega
      have HLB : Hid (((pre k ++ pNum L).length + (row.flatMap pNum).length) ≤ 100000) := Lib.hid (by rw [List.length_append]; omega)
      clear hu q0 hbl hnum hkn hL hl1
      have HAP := Lib.hid (mkS_app (pre k) (pNum L))
      have f1 : ¬ 9223372036854775807 < (mkS (pre k)).size + (mkS (pNum L)).size := by omega
      obtain ⟨wo, rfl⟩ : ∃ x : World, x = wr := ⟨_, rfl⟩
      go_wp2_with fail
      clear q1
      refine (CN.out L (by omega) (by omega) _ HB.out).mono ?_; rintro e w3 ⟨rfl, hb⟩
      replace HB := Lib.hid (below_step HB.out hb)
      clear hb
      go_wp2_with fail
      rw [HAP.out]
      clear f1 HAP e1' e2'
      go_loopw [3, 24] (fun s i wr => ∃ j : Nat, j ≤ L ∧ s = .string (mkS ((pre k ++ pNum L) ++ (row.take j).flatMap pNum)) ∧ i = .int .i64 j ∧ Below w.heap.size w wr) (fun _ i _ => L - (intOf i).toNat)
      case atStart => exact ⟨0, Nat.zero_le _, by simp, rfl, HB.out⟩
      case round =>
        clear HB
        obtain ⟨j, hj, rfl, rfl, hb⟩ := hrel
        have HB := Lib.hid hb
        clear hb
        by_cases hjt : j < L
        · have hjt2 : (j : Int) < L := by omega
          have hj0 : (0 : Int) ≤ (j : Int) := by omega
          have hjr : j < row.length := by rw [← HL.out]; exact hjt
          obtain ⟨E', e', ee, -, hcell⟩ := HU.out
          simp only [Value.slice.injEq] at ee
          obtain ⟨rfl, -, rfl⟩ := ee
          obtain ⟨a2, rfl, ha2, hcell⟩ := hcell (by omega)
          have q1 : wr.cell? (a2.add j) = some (.int .i64 (row.getD j 0)) := by rw [HB.out.cell (by rw [block_of_add]; exact ha2)]; exact hcell j hjr
          obtain ⟨z0, z1⟩ := HNUM.out j hjr
          have HNTj := Lib.hid (HNT.out j hjr)
          have htf := HTFL.out (j + 1)
          generalize row.getD j 0 = z at *
          obtain ⟨base, hbase⟩ : ∃ x, x = (pre k ++ pNum L) ++ (row.take j).flatMap pNum := ⟨_, rfl⟩
          have HEQ : Hid ((pre k ++ pNum L) ++ (row.take (j + 1)).flatMap pNum = base ++ pNum z) := Lib.hid (by rw [HNTj.out, hbase, List.append_assoc, List.append_assoc, List.append_assoc])
          have hlb := HLB.out
          have hbl : base.length + (pNum z).length ≤ 100000 := by
            have := congrArg List.length HEQ.out
            simp only [List.length_append] at this hlb
            omega
          rw [← hbase]
          have HAP := Lib.hid (mkS_app base (pNum z))
          have f1 : ¬ 9223372036854775807 < (mkS base).size + (mkS (pNum z)).size := by rw [mkS_size, mkS_size]; omega
          clear hcell hjr htf hlb hbl hbase HNTj
          go_wp2_with fail
          clear q1
          refine (CN.out z z0 z1 _ HB.out).mono ?_; rintro e w5 ⟨rfl, hb⟩
          replace HB := Lib.hid (below_step HB.out hb)
          clear hb
          go_wp2_with fail
          go_roundw
          case rel => exact ⟨j + 1, by omega, by rw [HEQ.out, HAP.out], by go_num, HB.out⟩
          case measure => simp [intOf]; omega
        · have hjt2 : ¬ (j : Int) < L := by omega
          have hjL : j = row.length := by have := HL.out; omega
          have HEQ : Hid ((pre k ++ pNum L) ++ (row.take j).flatMap pNum = pre (k + 1)) := Lib.hid (by rw [hjL, List.take_length, HTKk.out])
          clear hjL
          go_wp2_with fail
          go_roundw
          case rel => exact ⟨k + 1, by omega, by rw [HEQ.out], by go_num, HB.out⟩
          case measure => simp [intOf]; omega
    · have hlt2 : ¬ (k : Int) < N := by omega
      obtain rfl : k = N := by omega
      go_wp2_with fail
      go_ret
      exact ⟨by rw [← HAL2.out]; rfl, HB.out⟩

end Go.Proofs.YtbgficaboolgiaaGreatDoor

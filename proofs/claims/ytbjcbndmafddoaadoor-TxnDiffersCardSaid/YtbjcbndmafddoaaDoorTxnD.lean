/-
  Contracts of txn.pairs, Env.
-/
import Derived.Test.YtbjcbndmafddoaaDoorTxnC
import Derived.Test.YtbjcbndmafddoaaDoorPairs
namespace Go.Proofs.YtbjcbndmafddoaaDoor
open Go.RowKit
set_option linter.unusedVariables false
set_option linter.unusedSimpArgs false

theorem ipair : (Tryd.prog.info? 55).map (fun i => (i.zero, i.size, i.bytes)) = some (some (.agg #[.string ⟨#[]⟩, .int .i64 0]), 2, 24) := by kernel_rfl
theorem isig : (Tryd.prog.info? 40).map (fun i => (i.zero, i.size, i.bytes)) = some (some (.agg #[.string ⟨#[]⟩, .int .i64 0]), 2, 24) := by kernel_rfl
/-- The names that have values, with these. -/
def prs (ns : List ByteArray) (zs : List Int) : List Pr := ns.zip zs
theorem prs_len (ns : List ByteArray) (zs : List Int) : (prs ns zs).length = min ns.length zs.length := by simp [prs]
theorem prs_get (ns : List ByteArray) (zs : List Int) (k : Nat) (h1 : k < ns.length) (h2 : k < zs.length) : (prs ns zs).getD k pr0 = (ns.getD k ⟨#[]⟩, zs.getD k 0) := by
  unfold prs
  simp [List.getD_eq_getElem?_getD, List.getElem?_zip_eq_some, List.getElem?_eq_getElem h1, List.getElem?_eq_getElem h2, List.getElem?_eq_getElem (show k < (ns.zip zs).length by simp; omega)]

set_option maxRecDepth 100000 in
set_option maxHeartbeats 8000000 in
theorem txnPairs (w : World) (v1 v2 : Value) (ns : List ByteArray) (zs : List Int) (h1 : SL w v1 ns) (h2 : IL w v2 zs) (hn : ns.length * 24 ≤ 140737488355328) (hz : zs.length ≤ 9223372036854775807) :
    Calls Tryd.prog 40 #[.agg #[v1, v2]] w fun e w' => ∃ v, e = .returned v ∧ (PL w' v (prs ns zs) ∧ Below w.heap.size w w') := by
  obtain ⟨i0, hi, hz0, hz1, hz2⟩ := info_parts ipair
  have HI := Lib.hid hi
  have HZ0 := Lib.hid hz0
  have HZ1 := Lib.hid hz1
  have HZ2 := Lib.hid hz2
  obtain ⟨A1, c1, rfl, hc1, hs1⟩ := h1
  obtain ⟨A2, c2, rfl, hc2, hs2⟩ := h2
  have HS1 := Lib.hid hs1
  have HS2 := Lib.hid hs2
  have hpl := prs_len ns zs
  obtain ⟨N, hN⟩ : ∃ N, N = ns.length := ⟨_, rfl⟩
  obtain ⟨M, hM⟩ : ∃ M, M = zs.length := ⟨_, rfl⟩
  rw [← hN, ← hM] at hpl
  have HPL := Lib.hid hpl
  have HN := Lib.hid hN
  have HMM := Lib.hid hM
  rw [← hN] at hn hc1 ⊢
  rw [← hM] at hz hc2 ⊢
  clear hs1 hs2 hN hM hi hz0 hz1 hz2 hpl
  go_enter Tryd.func40, Tryd.ntmps40
  go_wp2_with fail
  go_loopw [9, 3] (fun i o wr => ∃ (k : Nat) (v0 : Value), k ≤ N ∧ v0 = o ∧ i = .int .i64 k ∧ wr.ownsRow (w.heap.size + 1) 55 2 v0 (min k M) (pcells ((prs ns zs).take k)) ∧ Box wr w.heap.size #[.slice A1 N c1, .slice A2 M c2] 25 ∧ Below w.heap.size w wr) (fun i _ _ => N - (intOf i).toNat)
  case atStart =>
    refine ⟨0, _, Nat.zero_le _, rfl, rfl, ?_, Box.new _ _ _, below_alloc _ _⟩
    rw [Nat.zero_min]; exact World.ownsRow_nil _ _ _ _
  case round =>
    obtain ⟨k, v0, hk, rfl, rfl, hown, hx, hb⟩ := hrel
    have XA := Lib.hid hx
    have HB := Lib.hid hb
    clear hx hb
    by_cases hlt : k < N
    · have hlt2 : (k : Int) < N := by omega
      have hkn : k < ns.length := by rw [← HN.out]; exact hlt
      obtain ⟨a1, rfl, hr1⟩ := HS1.out (by omega)
      have q1 := (hr1.below HB.out).cells k hkn
      by_cases hm : k < M
      · have hkz : k < zs.length := by rw [← HMM.out]; exact hm
        obtain ⟨a2, rfl, hl2, hr2⟩ := HS2.out (by omega)
        have q2 : wr.cell? (a2.add k) = some (.int .i64 (zs.getD k 0)) := by rw [HB.out.cell (by rw [block_of_add]; exact hl2)]; exact hr2 k hkz
        have hmin : min k M = k := by omega
        rw [hmin] at hown
        have HOWN := Lib.hid hown
        have hsu : (prs ns zs).take (k + 1) = (prs ns zs).take k ++ [(ns.getD k ⟨#[]⟩, zs.getD k 0)] := by
          rw [take_snocD _ k pr0 (by rw [HPL.out]; omega), prs_get ns zs k hkn hkz]
        have HSU := Lib.hid hsu
        have HBIG : Hid ((k + 1) * 24 ≤ 140737488355328) := Lib.hid (by omega)
        have f1 : (k : Int) < M := by omega
        generalize ns.getD k ⟨#[]⟩ = s at *
        generalize zs.getD k 0 = z at *
        clear hown hsu hkn hkz hmin hr1 hr2 hl2
        have XA_0 := XA.out.at_ 0 _ rfl
        have XA_1 := XA.out.at_ 1 _ rfl
        go_wp2_with (at_builtin; refine wpList_append_own _ rfl _ _ 61 rfl (w.heap.size + 1) 55 i0 (.agg #[.string ⟨#[]⟩, .int .i64 0]) 2 24 Tryd.underlying61 HI.out HZ0.out HZ1.out HZ2.out rfl (by decide) v0 k (pcells ((prs ns zs).take k)) rfl (HOWN.out.alloc _) ⟨wr.heap.size, 0, none⟩ 1 1 [.string s, .int .i64 z] rfl rfl ?c1 ?c2 ?c3 ?c4 ?c5 ?_)
        case c1 => exact news2
        case c2 => intro u hu; simp at hu; rcases hu with rfl | rfl <;> rfl
        case c3 => unfold maxLen; omega
        case c4 => exact HBIG.out
        case c5 => have := HB.out.size; have := XA.out.lt; simp; omega
        intro v' w5 hown5 hgrow _
        clear XA_0 XA_1
        have HOWN5 : Hid (w5.ownsRow (w.heap.size + 1) 55 2 v' (k + 1) (pcells ((prs ns zs).take (k + 1)))) := by
          rw [HSU.out, pcells_append]; exact hown5
        have HB5 := Lib.hid (below_grownB HB.out HB.out.size (Nat.le_succ _) HOWN.out hgrow)
        have XA5 := Lib.hid (XA.out.grownO HOWN.out (Nat.lt_succ_self _) hgrow)
        clear hown5 hgrow q1 q2
        go_wp2_with fail
        go_roundw
        case rel => exact ⟨k + 1, v', by omega, rfl, by go_num, by rw [show min (k + 1) M = k + 1 by omega]; exact HOWN5.out, XA5.out, HB5.out⟩
        case measure => simp [intOf]; omega
      · have hsu : (prs ns zs).take (k + 1) = (prs ns zs).take k := by
          rw [List.take_of_length_le (by rw [HPL.out]; omega), List.take_of_length_le (by rw [HPL.out]; omega)]
        rw [← hsu, show min k M = min (k + 1) M by omega] at hown
        have HOWN := Lib.hid hown
        have f1 : ¬ (k : Int) < M := by omega
        clear hown hsu hkn hr1
        generalize ns.getD k ⟨#[]⟩ = s at *
        have XA_0 := XA.out.at_ 0 _ rfl
        have XA_1 := XA.out.at_ 1 _ rfl
        go_wp2_with fail
        clear XA_0 XA_1
        clear q1
        go_roundw
        case rel => exact ⟨k + 1, v0, by omega, rfl, by go_num, HOWN.out, XA.out, HB.out⟩
        case measure => simp [intOf]; omega
    · have hkn : k = N := by omega
      have hlt2 : ¬ (k : Int) < N := by omega
      have HPP : Hid (PL wr v0 (prs ns zs)) := by
        have hl : (prs ns zs).length ≤ k := by rw [HPL.out]; omega
        rw [List.take_of_length_le hl] at hown
        exact PL.of_own hown
      clear hown hkn
      go_wp2_with fail
      go_ret
      exact ⟨_, rfl, HPP.out, HB.out⟩

end Go.Proofs.YtbjcbndmafddoaaDoor

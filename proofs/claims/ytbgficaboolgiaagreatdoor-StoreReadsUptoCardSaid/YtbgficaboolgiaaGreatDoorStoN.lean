/-
  How a stored result reads, in a slice; contract of store's Latest.
-/
import Derived.Test.YtbgficaboolgiaaGreatDoorStoL
import Derived.Test.YtbgficaboolgiaaGreatDoorStoM
import Derived.Test.YtbgficaboolgiaaGreatDoorGenM
namespace Go.Proofs.YtbgficaboolgiaaGreatDoor
open Go.RowKit
set_option linter.unusedVariables false
set_option linter.unusedSimpArgs false

section
variable {α : Type} {φ : Rd α} {w w' : World} {v : Value} {xs : List α} {F : Nat → Prop}
theorem rs_same0 (h : Rs φ w v xs F) (hs : w.heap.size ≤ w'.heap.size) (hv : 0 < xs.length → ∀ b, b < w.heap.size → v.ownBlock = some b → w'.heap[b]? = w.heap[b]?) (hk : ∀ b, b < w.heap.size → F b → w'.heap[b]? = w.heap[b]?) : Rs φ w' v xs F := by
  by_cases hl : 0 < xs.length
  · refine h.same hs (fun b hb => hv hl b ?_ hb) hk
    obtain ⟨A, c, rfl, _, h⟩ := h
    obtain ⟨b', o, rfl, hlt, _⟩ := h hl
    simp only [Value.ownBlock, Option.some.injEq] at hb
    omega
  · obtain ⟨A, c, rfl, hc, _⟩ := h
    exact ⟨A, c, rfl, hc, fun h => absurd h hl⟩
end
/-- A result's cells. -/
def resL (p q : Value) (r : Res) : List Value := [.string r.test, .int .u64 (r.seed : Nat), .string r.design, .string r.sign, .int .i64 r.cycle, .int .i64 r.sent, .int .i64 r.got, p, q, .int .i64 r.smp, .int .i64 r.ill]
theorem resV_L (p q : Value) (r : Res) : resV p q r = .agg (resL p q r).toArray := rfl
def resR : Rd Res where
  k := 11
  ts := [95, 3]
  pos := by decide
  R := fun w us r F => ∃ p q, us = resL p q r ∧ (Rs ilR w p r.pts F ∧ In F p r.pts.length) ∧ (Rs ilR w q r.crs F ∧ In F q r.crs.length)
  len := fun ⟨_, _, h, _⟩ => by rw [h]; rfl
  one := fun ⟨p, q, h, ⟨h1, _⟩, h2, _⟩ u hu => by
    obtain ⟨A, c, e1, _⟩ := h1.slice
    obtain ⟨A', c', e2, _⟩ := h2.slice
    rw [h, e1, e2] at hu
    unfold resL at hu
    simp only [List.mem_cons, List.not_mem_nil, or_false] at hu
    rcases hu with rfl | rfl | rfl | rfl | rfl | rfl | rfl | rfl | rfl | rfl | rfl <;> rfl
  mono := fun ⟨p, q, h, ⟨h1, h2⟩, h3, h4⟩ hF => ⟨p, q, h, ⟨h1.mono hF, fun hl b hb => hF b (h2 hl b hb)⟩, h3.mono hF, fun hl b hb => hF b (h4 hl b hb)⟩
  same := fun ⟨p, q, h, ⟨h1, h2⟩, h3, h4⟩ hs hk => ⟨p, q, h, ⟨rs_same0 h1 hs (fun hl b hlt hb => hk b hlt (h2 hl b hb)) hk, h2⟩, rs_same0 h3 hs (fun hl b hlt hb => hk b hlt (h4 hl b hb)) hk, h4⟩
section
variable {w w' : World} {v : Value} {l : List Res} {F : Nat → Prop}
theorem Rs.ress (h : Rs resR w v l F) : ∃ (A : Option Addr) (c : Nat), v = .slice A l.length c ∧ l.length ≤ c ∧ ∀ k, k < l.length → ∃ b o p q, A = some ⟨b, o, none⟩ ∧ b < w.heap.size ∧ (∀ i u, (resL p q (l.getD k res0))[i]? = some u → w.cell? ⟨b, o + k * 11 + i, none⟩ = some u) ∧
    (Rs ilR w p (l.getD k res0).pts F ∧ In F p (l.getD k res0).pts.length) ∧ (Rs ilR w q (l.getD k res0).crs F ∧ In F q (l.getD k res0).crs.length) := by
  obtain ⟨A, c, rfl, hc, h⟩ := h
  refine ⟨A, c, rfl, hc, fun k hk => ?_⟩
  obtain ⟨b, o, rfl, hb, h⟩ := h (by omega)
  obtain ⟨us, h1, p, q, rfl, h2⟩ := h k _ (List.getElem?_eq_getElem hk)
  have e : l.getD k res0 = l[k] := by rw [List.getD_eq_getElem?_getD, List.getElem?_eq_getElem hk]; rfl
  rw [e]
  refine ⟨b, o, p, q, rfl, hb, fun i u hu => ?_, h2⟩
  have hi : i < resR.k := by have := (List.getElem?_eq_some_iff.1 hu).1; exact this
  exact (h1 i hi).trans hu
theorem res_slices {p q : Value} {r : Res} (h1 : Rs ilR w p r.pts F) (h2 : Rs ilR w q r.crs F) : (∃ A n c, p = .slice A n c) ∧ ∃ A n c, q = .slice A n c := by
  obtain ⟨A, c, rfl, -⟩ := h1.slice
  obtain ⟨A', c', rfl, -⟩ := h2.slice
  exact ⟨⟨_, _, _, rfl⟩, _, _, _, rfl⟩
end
theorem str_neq {a b : ByteArray} (h : a ≠ b) : (a.toList == b.toList) = false ∧ (a.toList != b.toList) = true := by
  have h2 : (a.toList == b.toList) = false := by
    have : ¬ a.toList = b.toList := fun e => h (by
      have e2 : a.data.toList = b.data.toList := by rw [← Lib.toList_data, ← Lib.toList_data]; exact e
      exact bytes_eq e2)
    simpa using this
  exact ⟨h2, by simp [bne, h2]⟩
theorem str_eq (a : ByteArray) : (a.toList == a.toList) = true ∧ (a.toList != a.toList) = false := by simp
theorem nat_eqb {a b : Nat} : ((a : Int) == (b : Int)) = decide (a = b) := by
  by_cases h : a = b
  · subst h; simp
  · have : ¬ (a : Int) = b := by omega
    rw [decide_eq_false h]; simpa using this
def ret2ib (r : Nat × Bool) : Ending := .returned (.tuple #[.int .i64 (r.1 : Nat), .bool r.2])

set_option maxRecDepth 100000 in
set_option maxHeartbeats 16000000 in
theorem stoLatest (w : World) (v : Value) (l : List Res) (hv : Rs resR w v l anyB) (hn : l.length ≤ 9223372036854775807) (d t : ByteArray) (s : Nat) :
    Calls Tryz.prog 47 #[v, .string d, .string t, .int .u64 s] w fun e w' => e = ret2ib (latT l d t s) ∧ Below w.heap.size w w' := by
  obtain ⟨A, c, rfl, hc, hx⟩ := hv.ress
  have HX := Lib.hid hx
  have HR : Hid (latT l d t s = latN l d t s l.length) := Lib.hid rfl
  have HS : Hid (∀ k, latN l d t s (k + 1) = if hitB (l.getD k res0) d t s = true then (k, true) else latN l d t s k) := Lib.hid fun k => rfl
  have H0 : Hid (latN l d t s 0 = (0, false)) := Lib.hid rfl
  obtain ⟨N, hN⟩ : ∃ N, N = l.length := ⟨_, rfl⟩
  have HN := Lib.hid hN
  rw [← hN] at hc hn HR ⊢
  generalize latT l d t s = r at *
  generalize latN l d t s = f at *
  clear hx hv hN
  go_enter Tryz.func47, Tryz.ntmps47
  go_wp2_with fail
  go_loopw [10] (fun i wr => ∃ (k : Nat) (z : Int), k ≤ N ∧ i = .int .i64 z ∧ z = (k : Int) - 1 ∧ Hid (r = f k) ∧ Below w.heap.size w wr) (fun i _ => (intOf i + 1).toNat)
  case atStart => exact ⟨N, _, Nat.le_refl _, rfl, by omega, HR, Below.refl _ _⟩
  case round =>
    obtain ⟨k, z, hk, rfl, hz, HF, hb⟩ := hrel
    have HB := Lib.hid hb
    clear hb HR
    cases k with
    | zero =>
      obtain rfl : z = -1 := by omega
      have HR : Hid (r = (0, false)) := Lib.hid (by rw [HF.out, H0.out])
      clear hz HF
      go_wp2_with fail
      go_ret2
      exact ⟨by rw [HR.out]; rfl, HB.out⟩
    | succ k =>
      obtain rfl : z = (k : Int) := by omega
      have hk0 : (0 : Int) ≤ (k : Int) := by omega
      have hk1 : (k : Int) < N := by omega
      obtain ⟨b, o, p, q, rfl, hbl, hcl, ⟨hp, -⟩, hq, -⟩ := HX.out k (by rw [← HN.out]; omega)
      have HFk : Hid (r = if hitB (l.getD k res0) d t s = true then (k, true) else f k) := Lib.hid (by rw [HF.out, HS.out])
      obtain ⟨A1, c1, rfl, -⟩ := hp.slice
      obtain ⟨A2, c2, rfl, -⟩ := hq.slice
      have hcell : ∀ i u, (resL (.slice A1 (l.getD k res0).pts.length c1) (.slice A2 (l.getD k res0).crs.length c2) (l.getD k res0))[i]? = some u → wr.cell? ⟨b, o + k * 11 + i, none⟩ = some u := fun i u h => (HB.out.cell (p := ⟨b, o + k * 11 + i, none⟩) hbl).trans (hcl i u h)
      clear hz HF hcl hp hq hbl
      generalize l.getD k res0 = x at *
      obtain ⟨te, se, de, si, cy, sn, gt, ps, cs, sm, il⟩ := x
      simp only at hcell
      generalize ps.length = M1 at *
      generalize cs.length = M2 at *
      have g0 := hcell 0 _ rfl
      have g1 := hcell 1 _ rfl
      have g2 := hcell 2 _ rfl
      have g3 := hcell 3 _ rfl
      have g4 := hcell 4 _ rfl
      have g5 := hcell 5 _ rfl
      have g6 := hcell 6 _ rfl
      have g7 := hcell 7 _ rfl
      have g8 := hcell 8 _ rfl
      have g9 := hcell 9 _ rfl
      have g10 := hcell 10 _ rfl
      simp only [Nat.add_zero] at g0
      clear hcell
      go_upto_region 5 with fail
      have XA := Lib.hid (box_new (W := wr) (g := wr.heap.size) 28 #[.string te, .int .u64 se, .string de, .string si, .int .i64 cy, .int .i64 sn, .int .i64 gt, .slice A1 M1 c1, .slice A2 M2 c2, .int .i64 sm, .int .i64 il] (by simp))
      have hba := (below_alloc wr (.cells #[.string te, .int .u64 se, .string de, .string si, .int .i64 cy, .int .i64 sn, .int .i64 gt, .slice A1 M1 c1, .slice A2 M2 c2, .int .i64 sm, .int .i64 il] 28))
      replace HB := Lib.hid (below_step HB.out hba)
      clear hba
      generalize wr.alloc (.cells #[.string te, .int .u64 se, .string de, .string si, .int .i64 cy, .int .i64 sn, .int .i64 gt, .slice A1 M1 c1, .slice A2 M2 c2, .int .i64 sm, .int .i64 il] 28) = w1 at *
      clear g0 g1 g2 g3 g4 g5 g6 g7 g8 g9 g10
      have XA_0 := XA.out.at_ 0 _ rfl
      have XA_1 := XA.out.at_ 1 _ rfl
      have XA_2 := XA.out.at_ 2 _ rfl
      by_cases hd : de = d
      case neg =>
        obtain ⟨e1, e2⟩ := str_neq hd
        have HR : Hid (r = f k) := Lib.hid (by rw [HFk.out, if_neg]; rw [hitB_iff]; exact fun h => hd h.1)
        clear HFk hd
        go_wp2_with fail
        go_roundw
        case rel => exact ⟨k, _, by omega, rfl, by omega, HR, HB.out⟩
        case measure => simp [intOf] <;> omega
      subst hd
      obtain ⟨e1, e2⟩ := str_eq de
      by_cases hte : te = t
      case neg =>
        obtain ⟨e3, e4⟩ := str_neq hte
        have HR : Hid (r = f k) := Lib.hid (by rw [HFk.out, if_neg]; rw [hitB_iff]; exact fun h => hte h.2.1)
        clear HFk hte
        go_wp2_with fail
        go_roundw
        case rel => exact ⟨k, _, by omega, rfl, by omega, HR, HB.out⟩
        case measure => simp [intOf] <;> omega
      subst hte
      obtain ⟨e3, e4⟩ := str_eq te
      by_cases hse : se = s
      case neg =>
        have e5 : ¬ (se : Int) = s := by omega
        have e6 : ((se : Int) == (s : Int)) = false := by simpa using e5
        have HR : Hid (r = f k) := Lib.hid (by rw [HFk.out, if_neg]; rw [hitB_iff]; exact fun h => hse h.2.2)
        clear HFk hse
        go_wp2_with fail
        go_roundw
        case rel => exact ⟨k, _, by omega, rfl, by omega, HR, HB.out⟩
        case measure => simp [intOf] <;> omega
      subst hse
      have e5 : ((se : Int) == (se : Int)) = true := by simp
      have HR : Hid (r = (k, true)) := Lib.hid (by rw [HFk.out, if_pos]; rw [hitB_iff]; exact ⟨rfl, rfl, rfl⟩)
      clear HFk
      go_wp2_with fail
      go_ret2
      exact ⟨by rw [HR.out]; rfl, HB.out⟩

end Go.Proofs.YtbgficaboolgiaaGreatDoor

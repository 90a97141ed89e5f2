/-
  The buffer of pack: what it appends.
-/
import Derived.Test.YtljehdkjjgjpiaaDoorPackD
import Derived.Test.YtljehdkjjgjpiaaDoorRefFormat
import Derived.Lib.AppendStr
import Derived.OwnWalk
namespace Go.Proofs.YtljehdkjjgjpiaaDoor
open Go.RowKit

/-- Bytes as cells. -/
def bcells (l : List UInt8) : List Value := l.map fun b => Value.int .u8 (b.toNat : Int)
theorem bcells_length (l : List UInt8) : (bcells l).length = l.length := by simp [bcells]
theorem bcells_append (l m : List UInt8) : bcells (l ++ m) = bcells l ++ bcells m := by simp [bcells]
/-- The cells from a on read as bytes. -/
structure RB (w : World) (a : Addr) (l : List UInt8) : Prop where
  lt : a.block < w.heap.size
  cells : ∀ j u, (bcells l)[j]? = some u → w.cell? (a.add j) = some u
theorem block_of_add (a : Addr) (n : Nat) : (a.add n).block = a.block := by unfold Addr.add; split <;> rfl
theorem RB.below {w w' : World} {a : Addr} {l : List UInt8} (h : RB w a l) (hb : Below w.heap.size w w') : RB w' a l :=
  ⟨Nat.lt_of_lt_of_le h.lt hb.size, fun j u hu => (hb.cell (by rw [block_of_add]; exact h.lt)).trans (h.cells j u hu)⟩
theorem RB.nil {w : World} {a : Addr} (h : a.block < w.heap.size) : RB w a [] := ⟨h, fun j u hu => by simp [bcells] at hu⟩

/-- The cells from a on read as strings. -/
structure RS (w : World) (a : Addr) (l : List ByteArray) : Prop where
  lt : a.block < w.heap.size
  cells : ∀ j, j < l.length → w.cell? (a.add j) = some (.string (l.getD j ⟨#[]⟩))
theorem RS.below {w w' : World} {a : Addr} {l : List ByteArray} (h : RS w a l) (hb : Below w.heap.size w w') : RS w' a l :=
  ⟨Nat.lt_of_lt_of_le h.lt hb.size, fun j hj => (hb.cell (by rw [block_of_add]; exact h.lt)).trans (h.cells j hj)⟩

section
variable {P : Program} (w : World)
theorem run_append_buf (t u ty e : TypeId) (i : TypeInfo) (ht : P.underlying t = some (.slice e)) (hu : P.underlying u = some .string) (hi : P.info? e = some i) (hz : i.zero = some (.int .u8 0))
    (hsize : i.size = 1) (hby : i.bytes = 1) (a : Addr) (l : List UInt8) (h : RB w a l) (s : ByteArray) (hb : l.length + s.size ≤ 140737488355328) :
    ∃ a' c' w', (Builtin.append_ #[t, u] ty #[.slice (some a) l.length l.length, .string s]).run P w = .ok (.slice (some a') (l ++ s.data.toList).length c') w' ∧ (l ++ s.data.toList).length ≤ c' ∧ c' ≤ 9223372036854775807 ∧
      RB w' a' (l ++ s.data.toList) ∧ Below w.heap.size w w' := by
  have hsl : s.data.toList.length = s.size := (Lib.size_eq s).symm
  by_cases hm : s.size = 0
  · have hn : s.data.toList = [] := List.eq_nil_of_length_eq_zero (by rw [hsl]; exact hm)
    refine ⟨a, l.length, w, ?_, by rw [hn]; simp, by omega, by rw [hn]; simpa using h, Below.refl _ _⟩
    have hf := Lib.run_firstCells_string (P := P) w 1 s
    have hc : Lib.strCells s = [] := by unfold Lib.strCells; rw [hn]; rfl
    rw [hm, hc] at hf
    simp [Builtin.append_, run_underlying ht, run_underlying hu, sizeOf, typeInfo, hi, hsize, Builtin.lenOf, hm, hf, hn, storeCells]
  · have hr := Lib.run_append_grow_string (P := P) w t u ty e i (.int .u8 0) ht hu hi hz a l.length l.length (bcells l) (by rw [bcells_length, hsize, Nat.mul_one]) (fun j v hj => h.cells j v hj) s
      (by omega) (by omega) (by rw [hby]; exact growslice_fits (by omega) (by omega))
    have hlen : (l ++ s.data.toList).length = l.length + s.size := by rw [List.length_append, hsl]
    rw [hlen]
    refine ⟨⟨w.heap.size, 0, none⟩, _, _, hr, grownCap_ge w _ _ _, ?_, ⟨by simp, ?_⟩, ?_⟩
    · exact grownCap_le_maxLen w _ _ _ (by unfold maxLen; omega)
    · intro j v hj
      have hlt : j < (bcells (l ++ s.data.toList)).length := (List.getElem?_eq_some_iff.1 hj).1
      have hadd : (⟨w.heap.size, 0, none⟩ : Addr).add j = ⟨w.heap.size, j, none⟩ := by simp [Addr.add_lit]
      rw [hadd, cell_of_row _ w.heap.size j _ _ (0, 0) (heap_alloc_new w.drew _)]
      have e1 : (Lib.strCells s) = bcells s.data.toList := rfl
      rw [e1]
      have e2 : ((bcells l).toArray ++ (bcells s.data.toList).toArray ++ Builtin.zeroCells (Value.int .u8 0).cells (grownCap w (l.length + s.size) l.length e - (l.length + s.size))).toList = bcells (l ++ s.data.toList) ++ (Builtin.zeroCells (Value.int .u8 0).cells (grownCap w (l.length + s.size) l.length e - (l.length + s.size))).toList := by
        simp [bcells_append]
      rw [← Array.getElem?_toList, e2, List.getElem?_append_left hlt]
      exact hj
    · exact (Below.refl _ _).drew.alloc (Nat.le_refl _) _

theorem wpList_append_buf {ops : Array Oper} {rest : List Oper} {o : Oper} {ac : Act} {Q : Exit → Act → World → Prop} (hgd : o.guard = none) (sl x : Operand) (t u : TypeId)
    (ho : o.op = .call { callee := .builtin .append, args := #[sl, x], argTypes := #[t, u] })
    (e : TypeId) (i : TypeInfo) (ht : P.underlying t = some (.slice e)) (hu : P.underlying u = some .string) (hi : P.info? e = some i) (hz : i.zero = some (.int .u8 0))
    (hsize : i.size = 1) (hby : i.bytes = 1) (a : Addr) (l : List UInt8) (hs : ac.eval sl = .slice (some a) l.length l.length) (hrb : RB w a l) (s : ByteArray) (hx : ac.eval x = .string s)
    (hb : l.length + s.size ≤ 140737488355328)
    (h : ∀ a' c' w', (l ++ s.data.toList).length ≤ c' → c' ≤ 9223372036854775807 → RB w' a' (l ++ s.data.toList) → Below w.heap.size w w' → wpList P ops Q rest (ac.put o.dst (.slice (some a') (l ++ s.data.toList).length c')) w') : wpList P ops Q (o :: rest) ac w := by
  refine wpList_plain hgd fun K hK => ?_
  obtain ⟨a', c', w', hr, h1, h2, h3, h4⟩ := run_append_buf (P := P) w t u o.type e i ht hu hi hz hsize hby a l hrb s hb
  unfold Oper.wp execOp
  simp only [ho, resolve, invoke, builtin, Sem.run_bind, Sem.run_pure, Result.andThen_ok, List.map_toArray, List.map_cons, List.map_nil, hs, hx, hr]
  exact hK _ _ (h a' c' w' h1 h2 h3 h4)
end

/-- What add appends. -/
def flat (ss : List ByteArray) : List UInt8 := (ss.map fun s => s.data.toList).flatten
theorem flat_take_succ (ss : List ByteArray) (k : Nat) (h : k < ss.length) : flat (ss.take (k + 1)) = flat (ss.take k) ++ (ss.getD k ⟨#[]⟩).data.toList := by
  unfold flat
  rw [List.take_succ_eq_append_getElem h, List.map_append, List.flatten_append, List.getD_eq_getElem?_getD, List.getElem?_eq_getElem h]
  simp
theorem flat_take_le (ss : List ByteArray) (k : Nat) : (flat (ss.take k)).length ≤ (flat ss).length := by
  unfold flat
  conv => rhs; rw [← List.take_append_drop k ss]
  rw [List.map_append, List.flatten_append, List.length_append]
  exact Nat.le_add_right _ _
theorem iu8 : (Tryd.prog.info? 5).map (fun i => (i.zero, i.size, i.bytes)) = some (some (.int .u8 0), 1, 1) := by kernel_rfl

set_option maxRecDepth 100000 in
set_option maxHeartbeats 1000000 in
theorem packAdd (w : World) (a : Addr) (l : List UInt8) (c : Nat) (p : Addr) (ss : List ByteArray) (m : Nat) (hc : l.length ≤ c) (hm : c ≤ 9223372036854775807) (hb : RB w a l) (hs : RS w p ss) (hn : ss.length ≤ 9223372036854775807)
    (hsz : l.length + (flat ss).length ≤ 140737488355328) :
    Calls Tryd.prog 36 #[.slice (some a) l.length c, .slice (some p) ss.length m] w fun e w' => ∃ (a' : Addr) (c' : Nat), e = .returned (.slice (some a') (l ++ flat ss).length c') ∧ ((l ++ flat ss).length ≤ c' ∧ c' ≤ 9223372036854775807 ∧ RB w' a' (l ++ flat ss) ∧ Below w.heap.size w w') := by
  obtain ⟨i0, hi, hz0, hz1, hz2⟩ := info_parts iu8
  obtain ⟨n, hnn⟩ : ∃ n, n = ss.length := ⟨_, rfl⟩
  rw [← hnn] at hn ⊢
  have HN := Lib.hid hnn
  have HS := Lib.hid hs
  have HB := Lib.hid hb
  have HI := Lib.hid hi
  have HZ0 := Lib.hid hz0
  have HZ1 := Lib.hid hz1
  have HZ2 := Lib.hid hz2
  have HSZ := Lib.hid hsz
  clear hnn hs hb hi hz0 hz1 hz2 hsz
  go_enter Tryd.func36, Tryd.ntmps36
  go_wp2_with fail
  go_loopw [0, 9] (fun b i wr => ∃ (k : Nat) (a1 : Addr) (c1 : Nat), k ≤ n ∧ i = .int .i64 k ∧ b = .slice (some a1) (l ++ flat (ss.take k)).length c1 ∧ (l ++ flat (ss.take k)).length ≤ c1 ∧ c1 ≤ 9223372036854775807 ∧ RB wr a1 (l ++ flat (ss.take k)) ∧ Below w.heap.size w wr) (fun _ i _ => n - (intOf i).toNat)
  case atStart => exact ⟨0, a, c, Nat.zero_le _, rfl, by simp [flat], by simpa [flat] using hc, hm, by simpa [flat] using HB.out, Below.refl _ _⟩
  case round =>
    obtain ⟨k, a1, c1, hk, rfl, rfl, hc1, hm1, hrb, hbl⟩ := hrel
    have HSZ1 : Hid (∀ x, (flat (ss.take x)).length ≤ (flat ss).length) := fun x => flat_take_le ss x
    obtain ⟨l1, hl1⟩ : ∃ l1, l1 = l ++ flat (ss.take k) := ⟨_, rfl⟩
    rw [← hl1] at hc1 hrb ⊢
    have HL1 := Lib.hid hl1
    have HRB := Lib.hid hrb
    have HBL := Lib.hid hbl
    clear hl1 hrb hbl
    by_cases hlt : k < n
    · have hcell : wr.cell? (p.add k) = some (.string (ss.getD k ⟨#[]⟩)) := (HBL.out.cell (by rw [block_of_add]; exact HS.out.lt)).trans (HS.out.cells k (by rw [← HN.out]; exact hlt))
      obtain ⟨s, hse⟩ : ∃ s, s = ss.getD k ⟨#[]⟩ := ⟨_, rfl⟩
      rw [← hse] at hcell
      have hnew : l ++ flat (ss.take (k + 1)) = l1 ++ s.data.toList := by
        rw [flat_take_succ ss k (by rw [← HN.out]; exact hlt), ← hse, ← List.append_assoc, ← HL1.out]
      have hfit : l1.length + s.size ≤ 140737488355328 := by
        have h1 := HSZ1.out (k + 1)
        have h2 := HSZ.out
        have h3 : (l ++ flat (ss.take (k + 1))).length = l1.length + s.size := by rw [hnew, List.length_append, ← Lib.size_eq]
        rw [List.length_append] at h3
        omega
      have HNEW := Lib.hid hnew
      have HFIT := Lib.hid hfit
      clear hse hnew hfit
      go_wp2_with (at_builtin; refine wpList_append_buf _ rfl _ _ 50 9 rfl 5 i0 Tryd.underlying50 Tryd.underlying9 HI.out HZ0.out HZ1.out HZ2.out a1 l1 rfl HRB.out s rfl HFIT.out ?_; intro a2 c2 w2 hc2 hm2 hrb2 hbl2)
      have HRB2 := Lib.hid hrb2
      have HBL2 : Hid (Below w.heap.size w w2) := HBL.out.trans (hbl2.mono HBL.out.size)
      have HC2 := Lib.hid hc2
      clear hrb2 hbl2 hc2
      go_wp2_with fail
      go_roundw
      case rel => exact ⟨k + 1, a2, c2, by omega, by go_num, by rw [HNEW.out, List.length_append, ← Lib.size_eq], by rw [HNEW.out]; exact HC2.out, hm2, by rw [HNEW.out]; exact HRB2.out, HBL2.out⟩
      case measure => simp [intOf]; omega
    · have hkn : k = n := by omega
      have hfin : l1 = l ++ flat ss := by rw [HL1.out, hkn, HN.out, List.take_length]
      have HF := Lib.hid hfin
      clear hkn hfin
      go_wp2_with fail
      go_ret
      exact ⟨a1, c1, by rw [← HF.out]; rfl, by rw [← HF.out]; exact hc1, hm1, by rw [← HF.out]; exact HRB.out, HBL.out⟩

end Go.Proofs.YtljehdkjjgjpiaaDoor

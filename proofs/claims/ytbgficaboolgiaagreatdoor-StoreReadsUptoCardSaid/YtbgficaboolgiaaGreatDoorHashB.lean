/-
  The program's hexadecimal forms.
-/
import Derived.Test.YtbgficaboolgiaaGreatDoorHashA
namespace Go.Proofs.YtbgficaboolgiaaGreatDoor
open Go.RowKit
set_option linter.unusedVariables false
set_option linter.unusedSimpArgs false

def bcArr (l : List UInt8) : Array Value := (l.map fun b => Value.int .u8 (b.toNat : Int)).toArray
theorem made_bytes (n : Nat) : madeCells (Value.int .u8 0).cells (n * 1) = bcArr (List.replicate n 0) := by
  apply Array.ext
  · simp [madeCells, bcArr]
  · intro i h1 h2
    simp [madeCells, bcArr, Value.cells, Nat.mod_one]
theorem bcArr_get {l : List UInt8} {j : Nat} (h : j < l.length) : (bcArr l)[j]? = some (.int .u8 ((l.getD j 0).toNat : Int)) := by
  simp [bcArr, List.getD_eq_getElem?_getD, List.getElem?_eq_getElem h]
theorem bcArr_set (l : List UInt8) (j : Nat) (b : UInt8) : (bcArr l).setIfInBounds j (.int .u8 (b.toNat : Int)) = bcArr (l.set j b) := by
  simp [bcArr]
theorem run_makeBytes (n : Nat) (hn : n ≤ 1000000) (W : World) : (Instr.makeSlice 90 (.int .i64 (n : Int)) (.int .i64 (n : Int))).run Tryz.prog W = .ok (.slice (some ⟨W.heap.size, 0, none⟩) n n) (W.alloc (.cells (bcArr (List.replicate n 0)) 5)) := by
  obtain ⟨i0, hi, hz0, hz1, hz2⟩ := info_parts iu8
  have h := run_make (P := Tryz.prog) W 90 5 i0 (.int .u8 0) Tryz.underlying90 hi hz0 .i64 .i64 n n (by omega) (by omega) (by rw [hz2]; omega) (by omega)
  rw [hz1, Int.toNat_natCast, made_bytes] at h
  exact h
theorem Box.bytes {w : World} {g : Nat} {t : TypeId} {l : List UInt8} (h : Box w g (bcArr l) t) (j : Nat) (b : UInt8) : Box (w.setCell ⟨g, j, none⟩ (.int .u8 (b.toNat : Int))) g (bcArr (l.set j b)) t := by
  have := h.set_ j (.int .u8 (b.toNat : Int))
  rwa [bcArr_set] at this
theorem conv_box {w : World} {g : Nat} {l : List UInt8} (h : Box w g (bcArr l) 5) : (convert 90 9 (.slice (some ⟨g, 0, none⟩) l.length l.length)).run Tryz.prog w = .ok (.string ⟨l.toArray⟩) w :=
  run_convert_bytes_back w 90 9 5 ⟨g, 0, none⟩ l.length l Tryz.underlying90 Tryz.underlying5 Tryz.underlying9 (fun j hj => by
    have hadd : (⟨g, 0, none⟩ : Addr).add j = ⟨g, j, none⟩ := by unfold Addr.add; split <;> simp_all
    rw [hadd, h.cell j, bcArr_get hj, List.getD_eq_getElem?_getD, List.getElem?_eq_getElem hj]; rfl)
def hxs : ByteArray := ⟨#[48, 49, 50, 51, 52, 53, 54, 55, 56, 57, 97, 98, 99, 100, 101, 102]⟩
theorem hxs_at (d : Nat) (h : d < 16) : hxs.data.toList.getD d 0 = hexDig d := by
  have : ∀ d : Fin 16, hxs.data.toList.getD d 0 = hexDig d := by decide
  exact this ⟨d, h⟩
/-- The digits that were written so far, from behind. -/
def hexB (x n i : Nat) : List UInt8 := List.replicate (n - i) 0 ++ hexL x i
theorem hexB_len {x n i : Nat} (h : i ≤ n) : (hexB x n i).length = n := by unfold hexB; rw [List.length_append, List.length_replicate, hexL_len]; omega
theorem hexB_set {x n i : Nat} (h : i < n) : (hexB x n i).set (n - 1 - i) (hexDig (x / 16 ^ i % 16)) = hexB x n (i + 1) := by
  unfold hexB
  obtain ⟨m, hm⟩ : ∃ m, n - i = m + 1 := ⟨n - i - 1, by omega⟩
  have e : n - 1 - i = m := by omega
  have e2 : n - (i + 1) = m := by omega
  rw [hm, e, e2, List.replicate_succ', List.append_assoc, List.set_append_right _ _ (by simp), List.length_replicate, Nat.sub_self]
  rfl

set_option maxRecDepth 100000 in
set_option maxHeartbeats 4000000 in
theorem hashHexn (x n : Nat) (hx : x < 18446744073709551616) (hn : n ≤ 16) (w : World) :
    Calls Tryz.prog 51 #[.int .u64 x, .int .i64 n] w fun e w' => e = .returned (.string ⟨(hexL x n).toArray⟩) ∧ Below w.heap.size w w' := by
  have MK := fun W => run_makeBytes n (by omega) W
  go_enter Tryz.func51, Tryz.ntmps51
  go_wp2_with fail
  have XB := Lib.hid (Box.new w 5 (bcArr (List.replicate n 0)))
  have HB := Lib.hid (below_alloc w (.cells (bcArr (List.replicate n 0)) 5))
  clear MK
  generalize w.alloc (.cells (bcArr (List.replicate n 0)) 5) = w1 at *
  go_loopw [0, 10] (fun xv iv wr => ∃ (i y : Nat), i ≤ n ∧ iv = .int .i64 i ∧ xv = .int .u64 y ∧ Hid (y = x / 16 ^ i) ∧ Box wr w.heap.size (bcArr (hexB x n i)) 5 ∧ Below w.heap.size w wr) (fun _ iv _ => n - (intOf iv).toNat)
  case atStart => exact ⟨0, x, Nat.zero_le _, rfl, rfl, Lib.hid (by simp), by have := XB.out; unfold hexB hexL; simpa using this, HB.out⟩
  case round =>
    clear XB HB
    obtain ⟨i, y, hi, rfl, rfl, hy, hxb, hb⟩ := hrel
    have XB := Lib.hid hxb
    have HB := Lib.hid hb
    clear hxb hb
    by_cases hlt : i < n
    · have hlt2 : (i : Int) < n := by omega
      have hi0 : (0 : Int) ≤ i := by omega
      have hyl : y < 18446744073709551616 := by rw [hy.out]; exact Nat.lt_of_le_of_lt (Nat.div_le_self _ _) hx
      have hand : bits BinOp.and IntKind.u64 (y : Int) 15 = ((y % 16 : Nat) : Int) := by
        have := bits_and_u64_nat y 15 hyl (by decide)
        rw [show (15 : Nat) = 2 ^ 4 - 1 from rfl, Nat.and_two_pow_sub_one_eq_mod] at this
        exact this
      have k1 : 0 ≤ bits BinOp.and IntKind.u64 (y : Int) 15 := by rw [hand]; omega
      have k2 : bits BinOp.and IntKind.u64 (y : Int) 15 < 16 := by rw [hand]; omega
      have k3 : (bits BinOp.and IntKind.u64 (y : Int) 15).toNat < 16 := by rw [hand]; omega
      have t1 : ((n : Int) - 1 - (i : Int)).toNat = n - 1 - i := by omega
      have t2 : (0 : Int) ≤ (n : Int) - 1 - (i : Int) := by omega
      have t3 : (n : Int) - 1 - (i : Int) < (n : Int) := by omega
      have q1 := XB.out.at_ (n - 1 - i) _ (bcArr_get (by rw [hexB_len hi]; omega))
      have q2 := XB.out.frozen (n - 1 - i)
      have HV : Hid (∀ h, ((⟨#[48, 49, 50, 51, 52, 53, 54, 55, 56, 57, 97, 98, 99, 100, 101, 102]⟩ : ByteArray)[y % 16]'h) = hexDig (y % 16)) := Lib.hid fun h => by
        have e := byte_at hxs (y % 16) h
        rw [hxs_at _ (by omega)] at e
        exact e
      have HS : Hid (Box (wr.setCell ⟨w.heap.size, n - 1 - i, none⟩ (.int .u8 ((hexDig (y % 16)).toNat : Int))) w.heap.size (bcArr (hexB x n (i + 1))) 5) := Lib.hid (by
        have := XB.out.bytes (n - 1 - i) (hexDig (y % 16))
        rw [hy.out] at this ⊢
        rwa [hexB_set hlt] at this)
      have HB2 := Lib.hid (HB.out.setCell (p := ⟨w.heap.size, n - 1 - i, none⟩) (Nat.le_refl _) (.int .u8 ((hexDig (y % 16)).toNat : Int)))
      clear XB HB
      go_wp2_with fail
      rw [HV.out]
      exact ⟨⟨i + 1, y / 16, by omega, by go_num, by go_num, Lib.hid (by rw [hy.out, Nat.div_div_eq_div_mul, ← Nat.pow_succ]), HS.out, HB2.out⟩, by simp [intOf]; omega⟩
    · have hlt2 : ¬ (i : Int) < n := by omega
      obtain rfl : i = n := by omega
      have e : hexB x i i = hexL x i := by unfold hexB; simp
      rw [e] at XB
      have CV := conv_box XB.out
      rw [hexL_len] at CV
      go_wp2_with fail
      go_ret
      exact ⟨by rfl, HB.out⟩

set_option maxRecDepth 100000 in
theorem hashHex (x : Nat) (hx : x < 18446744073709551616) (w : World) :
    Calls Tryz.prog 22 #[.int .u64 x] w fun e w' => e = .returned (.string ⟨(hexL x 16).toArray⟩) ∧ Below w.heap.size w w' := by
  have C := Lib.hid (fun W => hashHexn x 16 hx (by decide) W)
  go_enter Tryz.func22, Tryz.ntmps22
  go_wp2_with fail
  refine (C.out _).mono ?_; rintro e w2 ⟨rfl, hb⟩
  have HB := Lib.hid hb
  clear hb
  go_wp2_with fail
  go_ret
  exact ⟨rfl, HB.out⟩

set_option maxRecDepth 100000 in
set_option maxHeartbeats 4000000 in
theorem hashUnhexn (s : ByteArray) (hs : s.size ≤ maxLen) (w : World) :
    Calls Tryz.prog 59 #[.string s] w fun e w' => e = .returned (.tuple #[.int .u64 ((unhT s).1 : Nat), .bool (unhT s).2]) ∧ w = w' := by
  unfold maxLen at hs
  have HU : Hid (unhT s = match unhL s.data.toList 0 with
    | none => (0, false)
    | some x => (x, true)) := Lib.hid rfl
  have hlen : s.data.toList.length = s.size := (Lib.size_eq s).symm
  go_enter Tryz.func59, Tryz.ntmps59
  go_wp2_with fail
  go_loopw [4, 10] (fun xv iv wr => ∃ (k x : Nat), k ≤ s.size ∧ iv = .int .i64 k ∧ xv = .int .u64 x ∧ x < 18446744073709551616 ∧ Hid (unhL s.data.toList 0 = unhL (s.data.toList.drop k) x) ∧ w = wr) (fun _ iv _ => s.size - (intOf iv).toNat)
  case atStart => exact ⟨0, 0, Nat.zero_le _, rfl, rfl, by decide, Lib.hid (by rw [List.drop_zero]), rfl⟩
  case round =>
    obtain ⟨k, x, hk, rfl, rfl, hx, HX, rfl⟩ := hrel
    by_cases h : k < s.size
    · have h2 : (k : Int) < s.size := by omega
      have hk0 : (0 : Int) ≤ k := by omega
      have hb := byte_at s k h
      have HD := unhL_drop (l := s.data.toList) (k := k) (by omega) x
      rw [← hb] at HD
      have CN := Lib.hid (fun W => hashNibble s[k] W)
      have HXD := Lib.hid (HX.out.trans HD)
      clear HD hb HX
      go_wp2_with fail
      refine (CN.out _).mono ?_
      rintro e w2 (⟨d, hd, rfl, rfl⟩ | ⟨hd, rfl, rfl⟩)
      · have hd16 := nib_lt hd
        rw [hd] at HXD
        have HOR : Hid (bits BinOp.or IntKind.u64 (IntKind.u64.wrap ((x : Int) * 16)) (d : Int) = (((x * 16 + d) % 18446744073709551616 : Nat) : Int)) := Lib.hid (by
          rw [IntKind.wrap_u64, show (x : Int) * 16 % 18446744073709551616 = ((x * 16 % 18446744073709551616 : Nat) : Int) by omega, bits_or_u64_nat _ _ (Nat.mod_lt _ (by decide)) (by omega), or_low x d hd16])
        have hlt : (x * 16 + d) % 18446744073709551616 < 18446744073709551616 := Nat.mod_lt _ (by decide)
        clear hd
        go_wp2_with fail
        rw [HOR.out]
        exact ⟨⟨k + 1, _, by omega, by go_num, rfl, hlt, HXD, by first | rfl | trivial⟩, by simp [intOf]; omega⟩
      · rw [hd] at HXD
        go_wp2_with fail
        go_ret2
        exact ⟨by rw [HU.out, HXD.out]; rfl, rfl⟩
    · have h2 : ¬ (k : Int) < s.size := by omega
      have HXE : Hid (unhL s.data.toList 0 = some x) := Lib.hid (by rw [HX.out, List.drop_of_length_le (by omega)]; rfl)
      go_wp2_with fail
      go_ret2
      exact ⟨by rw [HU.out, HXE.out]; rfl, rfl⟩

def uxT (s : ByteArray) : Nat × Int := if (unhT s).2 = true ∧ s.size = 16 then ((unhT s).1, 0) else (0, 5)
theorem uxT_lt (s : ByteArray) : (uxT s).1 < 18446744073709551616 := by
  unfold uxT; split
  · exact unhT_lt s
  · decide
set_option maxRecDepth 100000 in
theorem hashUnhex (s : ByteArray) (hs : s.size ≤ maxLen) (w : World) :
    Calls Tryz.prog 63 #[.string s] w fun e w' => e = .returned (.tuple #[.int .u64 ((uxT s).1 : Nat), .int .i64 (uxT s).2]) ∧ w = w' := by
  have C := Lib.hid (fun W => hashUnhexn s hs W)
  have HR : Hid (uxT s = if (unhT s).2 = true ∧ s.size = 16 then ((unhT s).1, 0) else (0, 5)) := Lib.hid rfl
  generalize uxT s = r at *
  generalize unhT s = q at *
  obtain ⟨x, ok⟩ := q
  cases ok
  · have HR2 : Hid (r = (0, 5)) := Lib.hid (by rw [HR.out, if_neg (by simp)])
    clear HR
    simp only at C
    go_enter Tryz.func63, Tryz.ntmps63
    go_wp2_with fail
    refine (C.out _).mono ?_; rintro e w2 ⟨rfl, rfl⟩
    go_wp2_with fail
    go_ret2
    exact ⟨by rw [HR2.out]; rfl, rfl⟩
  · by_cases h : s.size = 16
    · have f1 : ((s.size : Int) != 16) = false := by
        have : (s.size : Int) = 16 := by omega
        simpa using this
      have HR2 : Hid (r = (x, 0)) := Lib.hid (by rw [HR.out, if_pos ⟨rfl, h⟩])
      clear h HR
      simp only at C
      go_enter Tryz.func63, Tryz.ntmps63
      go_wp2_with fail
      refine (C.out _).mono ?_; rintro e w2 ⟨rfl, rfl⟩
      go_wp2_with fail
      go_ret2
      exact ⟨by rw [HR2.out]; rfl, rfl⟩
    · have f1 : ((s.size : Int) != 16) = true := by
        have : ¬ (s.size : Int) = 16 := by omega
        simpa using this
      have HR2 : Hid (r = (0, 5)) := Lib.hid (by rw [HR.out, if_neg (fun hh => h hh.2)])
      clear h HR
      simp only at C
      go_enter Tryz.func63, Tryz.ntmps63
      go_wp2_with fail
      refine (C.out _).mono ?_; rintro e w2 ⟨rfl, rfl⟩
      go_wp2_with fail
      go_ret2
      exact ⟨by rw [HR2.out]; rfl, rfl⟩

/-! Seals. -/
def sealL (l : List UInt8) : List UInt8 := l ++ 35 :: hexL (crcL l 4294967295 ^^^ 4294967295) 8
/-- What a sealed text holds. -/
def openT (s : ByteArray) : ByteArray × Int :=
  if s.size < 9 then (⟨#[]⟩, 6)
  else if byt s (s.size - 9) ≠ 35 ∨ (unhT (s.extract (s.size - 8) s.size)).2 = false then (⟨#[]⟩, 5)
  else if (unhT (s.extract (s.size - 8) s.size)).1 ≠ crcS (s.extract 0 (s.size - 9)) then (⟨#[]⟩, 14)
  else (s.extract 0 (s.size - 9), 0)

set_option maxRecDepth 100000 in
theorem hashSeal (s : ByteArray) (hs : s.size ≤ 140737488355328) (w : World) :
    Calls Tryz.prog 25 #[.string s] w fun e w' => e = .returned (.string (mkS (sealL s.data.toList))) ∧ Below w.heap.size w w' := by
  have CC := Lib.hid (fun W => hashCRC s W (by unfold maxLen; omega))
  have hc := crcS_lt s
  have CX := Lib.hid (fun W => hashHexn (crcS s) 8 (by omega) (by decide) W)
  have HR : Hid (mkS (sealL s.data.toList) = (s ++ ⟨#[35]⟩) ++ ⟨(hexL (crcS s) 8).toArray⟩) := Lib.hid (bytes_eq (by
    show bl (mkS _) = _
    unfold bl
    rw [mkS_data]
    unfold sealL
    show _ = ((s ++ ⟨#[35]⟩) ++ ⟨(hexL (crcS s) 8).toArray⟩ : ByteArray).data.toList
    simp [crcS]))
  have hz : (⟨(hexL (crcS s) 8).toArray⟩ : ByteArray).size = 8 := by rw [Lib.size_eq, List.toList_toArray, hexL_len]
  have hmod : ((crcS s : Nat) : Int) % 18446744073709551616 = ((crcS s : Nat) : Int) := by omega
  generalize mkS (sealL s.data.toList) = r at *
  generalize (⟨(hexL (crcS s) 8).toArray⟩ : ByteArray) = hx at *
  generalize crcS s = c at *
  have f1 : ¬ 9223372036854775807 < s.size + 1 := by omega
  have f2 : ¬ 9223372036854775807 < s.size + 1 + hx.size := by omega
  have f3 : ¬ 9223372036854775807 < (s ++ (⟨#[35]⟩ : ByteArray)).size + hx.size := by rw [ByteArray.size_append]; exact f2
  go_enter Tryz.func25, Tryz.ntmps25
  go_wp2_with fail
  refine (CC.out _).mono ?_; rintro e w2 ⟨rfl, rfl⟩
  go_wp2_with fail
  refine (CX.out _).mono ?_; rintro e w2 ⟨rfl, hb⟩
  have HB := Lib.hid hb
  clear hb
  go_wp2_with fail
  go_ret
  exact ⟨by rw [HR.out]; rfl, HB.out⟩

end Go.Proofs.YtbgficaboolgiaaGreatDoor

/-
  Checksums and hexadecimal numbers: what they are, and the program's.
-/
import Derived.Test.YtbgficaboolgiaaGreatDoorPkB
import Derived.Laws.Bits64b
import Derived.Shelf.Spec.TrailingZeros
namespace Go.Proofs.YtbgficaboolgiaaGreatDoor
open Go.RowKit
set_option linter.unusedVariables false
set_option linter.unusedSimpArgs false

/-! Plain. -/
def crcBit (c : Nat) : Nat := if c % 2 = 1 then (c / 2) ^^^ 3988292384 else c / 2
def crcN : Nat → Nat → Nat
  | 0, c => c
  | j + 1, c => crcBit (crcN j c)
def crcL (l : List UInt8) (c : Nat) : Nat := l.foldl (fun c b => crcN 8 (c ^^^ b.toNat)) c
def crcS (s : ByteArray) : Nat := crcL s.data.toList 4294967295 ^^^ 4294967295
theorem crcBit_lt {c : Nat} (h : c < 4294967296) : crcBit c < 4294967296 := by
  unfold crcBit
  split
  · have : (c / 2) ^^^ 3988292384 < 2 ^ 32 := Nat.xor_lt_two_pow (by omega) (by omega)
    omega
  · omega
theorem crcN_lt {c : Nat} (h : c < 4294967296) : ∀ j, crcN j c < 4294967296
  | 0 => h
  | j + 1 => crcBit_lt (crcN_lt h j)
theorem xor_byte {c : Nat} (h : c < 4294967296) (b : UInt8) : c ^^^ b.toNat < 4294967296 := by
  have hb := b.toNat_lt
  have : c ^^^ b.toNat < 2 ^ 32 := Nat.xor_lt_two_pow (by omega) (by omega)
  omega
theorem crcL_lt : ∀ (l : List UInt8) {c : Nat}, c < 4294967296 → crcL l c < 4294967296
  | [], c, h => h
  | b :: l, c, h => crcL_lt l (crcN_lt (xor_byte h b) 8)
theorem crcS_lt (s : ByteArray) : crcS s < 4294967296 := by
  have h := crcL_lt s.data.toList (c := 4294967295) (by decide)
  have : crcL s.data.toList 4294967295 ^^^ 4294967295 < 2 ^ 32 := Nat.xor_lt_two_pow (by omega) (by omega)
  unfold crcS; omega
theorem crcL_take {l : List UInt8} {k : Nat} (h : k < l.length) (c : Nat) : crcL (l.take (k + 1)) c = crcN 8 (crcL (l.take k) c ^^^ (l.getD k 0).toNat) := by
  unfold crcL
  have : l.take (k + 1) = l.take k ++ [l.getD k 0] := by
    rw [List.take_add_one, List.getElem?_eq_getElem h, List.getD_eq_getElem?_getD, List.getElem?_eq_getElem h]; rfl
  rw [this, List.foldl_append]; rfl
/-- A hexadecimal digit. -/
def hexDig (d : Nat) : UInt8 := if d < 10 then UInt8.ofNat (48 + d) else UInt8.ofNat (87 + d)
/-- The last n digits. -/
def hexL (x : Nat) : Nat → List UInt8
  | 0 => []
  | n + 1 => hexDig (x / 16 ^ n % 16) :: hexL x n
theorem hexL_len (x : Nat) : ∀ n, (hexL x n).length = n
  | 0 => rfl
  | n + 1 => by unfold hexL; rw [List.length_cons, hexL_len x n]
/-- The value of a digit. -/
def nib (c : UInt8) : Option Nat := if 48 ≤ c.toNat ∧ c.toNat ≤ 57 then some (c.toNat - 48) else if 97 ≤ c.toNat ∧ c.toNat ≤ 102 then some (c.toNat - 87) else none
theorem nib_lt {c : UInt8} {d : Nat} (h : nib c = some d) : d < 16 := by
  unfold nib at h
  split at h
  · simp at h; omega
  · split at h
    · simp at h; omega
    · cases h
def unhL : List UInt8 → Nat → Option Nat
  | [], x => some x
  | c :: l, x => match nib c with
    | none => none
    | some d => unhL l ((x * 16 + d) % 18446744073709551616)
def unhT (s : ByteArray) : Nat × Bool := match unhL s.data.toList 0 with
  | none => (0, false)
  | some x => (x, true)
theorem unhL_lt : ∀ (l : List UInt8) {x y : Nat}, x < 18446744073709551616 → unhL l x = some y → y < 18446744073709551616
  | [], x, y, h, e => by simp [unhL] at e; omega
  | c :: l, x, y, h, e => by
    unfold unhL at e
    split at e
    · cases e
    · exact unhL_lt l (Nat.mod_lt _ (by decide)) e
theorem unhT_lt (s : ByteArray) : (unhT s).1 < 18446744073709551616 := by
  unfold unhT
  split
  · decide
  · rename_i x h; exact unhL_lt _ (by decide) h
theorem unhL_drop {l : List UInt8} {k : Nat} (h : k < l.length) (x : Nat) : unhL (l.drop k) x = match nib (l.getD k 0) with
    | none => none
    | some d => unhL (l.drop (k + 1)) ((x * 16 + d) % 18446744073709551616) := by
  rw [List.drop_eq_getElem_cons h, List.getD_eq_getElem?_getD, List.getElem?_eq_getElem h]; rfl
/-! Bits. -/
theorem bits_xor_u32_nat (a b : Nat) (ha : a < 4294967296) (hb : b < 4294967296) : bits .xor .u32 (a : Int) (b : Int) = ((a ^^^ b : Nat) : Int) := by
  have hx : a ^^^ b < 2 ^ 32 := Nat.xor_lt_two_pow (by omega) (by omega)
  have h1 : (BitVec.ofInt 32 (a : Int)).toNat = a := by
    rw [BitVec.ofInt_natCast, BitVec.toNat_ofNat]; exact Nat.mod_eq_of_lt (by omega)
  have h2 : (BitVec.ofInt 32 (b : Int)).toNat = b := by
    rw [BitVec.ofInt_natCast, BitVec.toNat_ofNat]; exact Nat.mod_eq_of_lt (by omega)
  show IntKind.u32.wrap ((BitVec.ofInt 32 (a : Int) ^^^ BitVec.ofInt 32 (b : Int)).toNat : Int) = _
  rw [BitVec.toNat_xor, h1, h2]
  have : IntKind.u32.wrap ((a ^^^ b : Nat) : Int) = ((a ^^^ b : Nat) : Int) % 4294967296 := by simp [IntKind.wrap, IntKind.bits, IntKind.signed]
  rw [this]
  omega
theorem or_low (x d : Nat) (hd : d < 16) : (x * 16 % 18446744073709551616) ||| d = (x * 16 + d) % 18446744073709551616 := by
  have e : x * 16 % 18446744073709551616 = 2 ^ 4 * (x % 1152921504606846976) := by omega
  rw [e, ← Nat.two_pow_add_eq_or_of_lt (by omega)]
  omega
theorem byte_at (s : ByteArray) (k : Nat) (h : k < s.size) : s[k] = s.data.toList.getD k 0 := by
  rw [List.getD_eq_getElem?_getD, List.getElem?_eq_getElem (by rw [← Lib.size_eq]; exact h)]; rfl

set_option maxRecDepth 100000 in
set_option maxHeartbeats 4000000 in
theorem hashCRC (s : ByteArray) (w : World) (hs : s.size ≤ maxLen) :
    Calls Tryz.prog 53 #[.string s] w fun e w' => e = .returned (.int .u32 (crcS s : Nat)) ∧ w = w' := by
  unfold maxLen at hs
  have HR : Hid (bits BinOp.xor IntKind.u32 IntKind.u32.max ((crcL s.data.toList 4294967295 : Nat) : Int) = ((crcS s : Nat) : Int)) := Lib.hid (by
    have h := crcL_lt s.data.toList (c := 4294967295) (by decide)
    rw [show IntKind.u32.max = ((4294967295 : Nat) : Int) from by decide, bits_xor_u32_nat _ _ (by decide) h, Nat.xor_comm]; rfl)
  go_enter Tryz.func53, Tryz.ntmps53
  go_wp2_with fail
  go_loopw [3, 8] (fun cv i wr => ∃ (k : Nat) (c : Nat), k ≤ s.size ∧ i = .int .i64 k ∧ cv = .int .u32 c ∧ Hid (c = crcL (s.data.toList.take k) 4294967295) ∧ w = wr) (fun _ i _ => s.size - (intOf i).toNat)
  case atStart => exact ⟨0, 4294967295, Nat.zero_le _, rfl, rfl, Lib.hid rfl, rfl⟩
  case round =>
    obtain ⟨k, c, hk, rfl, rfl, HC, rfl⟩ := hrel
    have hclt : c < 4294967296 := by rw [HC.out]; exact crcL_lt _ (by decide)
    by_cases h : k < s.size
    · have h2 : (k : Int) < s.size := by omega
      have hk0 : (0 : Int) ≤ k := by omega
      have hb := byte_at s k h
      have hbl := s[k].toNat_lt
      have HC2 : Hid (crcN 8 (c ^^^ s[k].toNat) = crcL (s.data.toList.take (k + 1)) 4294967295) := Lib.hid (by
        rw [crcL_take (by rw [← Lib.size_eq]; exact h), ← HC.out, hb])
      have hx : bits BinOp.xor IntKind.u32 (c : Int) ((s[k].toNat : Int) % 4294967296) = ((c ^^^ s[k].toNat : Nat) : Int) := by
        rw [show (s[k].toNat : Int) % 4294967296 = ((s[k].toNat : Nat) : Int) by omega]
        exact bits_xor_u32_nat _ _ hclt (by omega)
      have HX := Lib.hid hx
      have hc2 := xor_byte hclt s[k]
      clear hb hx hbl hclt
      obtain ⟨wo, rfl⟩ : ∃ x : World, x = w := ⟨_, rfl⟩
      go_wp2_with fail
      rw [HX.out]
      generalize c ^^^ s[k].toNat = c0 at *
      go_loopw [3, 17] (fun cv i wx => ∃ (j : Nat) (d : Nat), j ≤ 8 ∧ i = .int .i64 j ∧ cv = .int .u32 d ∧ Hid (d = crcN j c0) ∧ wo = wx) (fun _ i _ => 8 - (intOf i).toNat)
      case atStart => exact ⟨0, c0, Nat.zero_le _, rfl, rfl, Lib.hid rfl, rfl⟩
      case round =>
        obtain ⟨j, d, hj, rfl, rfl, HD, rfl⟩ := hrel
        by_cases h8 : j < 8
        · have h9 : (j : Int) < 8 := by omega
          have hd : d < 4294967296 := by rw [HD.out]; exact crcN_lt hc2 j
          have hand : bits BinOp.and IntKind.u32 (d : Int) 1 = ((d % 2 : Nat) : Int) := by
            have := bits_and_u32_nat d 1 hd (by decide)
            rw [Nat.and_one_is_mod] at this
            exact this
          by_cases hodd : d % 2 = 1
          · have f1 : (bits BinOp.and IntKind.u32 (d : Int) 1 == 1) = true := by rw [hand, hodd]; rfl
            have HX2 : Hid (bits BinOp.xor IntKind.u32 ((d : Int) / 2) 3988292384 = ((crcBit d : Nat) : Int)) := Lib.hid (by
              rw [show (d : Int) / 2 = ((d / 2 : Nat) : Int) by omega, show (3988292384 : Int) = ((3988292384 : Nat) : Int) from rfl, bits_xor_u32_nat _ _ (by omega) (by decide)]
              unfold crcBit; rw [if_pos hodd])
            clear hand hodd
            go_wp2_with fail
            go_roundw
            case rel => exact ⟨j + 1, crcBit d, by omega, by go_num, by rw [HX2.out], Lib.hid (by rw [HD.out]; rfl), by first | rfl | trivial⟩
            case measure => simp [intOf]; omega
          · have f1 : (bits BinOp.and IntKind.u32 (d : Int) 1 == 1) = false := by
              have e : d % 2 = 0 := by omega
              rw [hand, e]; rfl
            have HX2 : Hid ((d : Int) / 2 = ((crcBit d : Nat) : Int)) := Lib.hid (by unfold crcBit; rw [if_neg hodd]; omega)
            clear hand hodd
            go_wp2_with fail
            go_roundw
            case rel => exact ⟨j + 1, crcBit d, by omega, by go_num, by rw [HX2.out], Lib.hid (by rw [HD.out]; rfl), by first | rfl | trivial⟩
            case measure => simp [intOf]; omega
        · have h9 : ¬ (j : Int) < 8 := by omega
          obtain rfl : j = 8 := by omega
          go_wp2_with fail
          go_roundw
          case rel => exact ⟨k + 1, d, by omega, by go_num, rfl, Lib.hid (by rw [HD.out, HC2.out]), by first | rfl | trivial⟩
          case measure => simp [intOf]; omega
    · have h2 : ¬ (k : Int) < s.size := by omega
      have HC3 : Hid (c = crcL s.data.toList 4294967295) := Lib.hid (by
        have : k = s.data.toList.length := by rw [← Lib.size_eq]; omega
        rw [HC.out, this, List.take_length])
      go_wp2_with fail
      go_ret
      exact ⟨by rw [HC3.out, HR.out]; rfl, rfl⟩

set_option maxRecDepth 100000 in
theorem hashNibble (c : UInt8) (w : World) :
    Calls Tryz.prog 79 #[.int .u8 (c.toNat : Int)] w fun e w' => (∃ d, nib c = some d ∧ e = .returned (.tuple #[.int .u64 (d : Nat), .bool true]) ∧ w = w') ∨ (nib c = none ∧ e = .returned (.tuple #[.int .u64 0, .bool false]) ∧ w = w') := by
  have hb := c.toNat_lt
  have HN : Hid (nib c = if 48 ≤ c.toNat ∧ c.toNat ≤ 57 then some (c.toNat - 48) else if 97 ≤ c.toNat ∧ c.toNat ≤ 102 then some (c.toNat - 87) else none) := Lib.hid rfl
  generalize nib c = r at *
  obtain ⟨n, hn⟩ : ∃ n, n = c.toNat := ⟨_, rfl⟩
  rw [← hn] at HN hb ⊢
  clear hn
  by_cases h1 : 48 ≤ n ∧ n ≤ 57
  · have a1 : 48 ≤ (n : Int) := by omega
    have a2 : (n : Int) ≤ 57 := by omega
    have HR : Hid (r = some (n - 48)) := Lib.hid (by rw [HN.out, if_pos h1])
    have HV : Hid (((n - 48 : Nat) : Int) = (n : Int) - 48) := Lib.hid (by omega)
    clear h1
    go_enter Tryz.func79, Tryz.ntmps79
    go_wp2_with fail
    go_ret2
    exact .inl ⟨n - 48, HR.out, by rw [HV.out]; rfl, rfl⟩
  · by_cases h2 : 97 ≤ n ∧ n ≤ 102
    · have a1 : 97 ≤ (n : Int) := by omega
      have a2 : (n : Int) ≤ 102 := by omega
      have a3 : ¬ (n : Int) ≤ 57 := by omega
      have a4 : 48 ≤ (n : Int) := by omega
      have HR : Hid (r = some (n - 87)) := Lib.hid (by rw [HN.out, if_neg h1, if_pos h2])
      have HV : Hid (((n - 87 : Nat) : Int) = (n : Int) - 97 + 10) := Lib.hid (by omega)
      clear h1 h2
      go_enter Tryz.func79, Tryz.ntmps79
      go_wp2_with fail
      go_ret2
      exact .inl ⟨n - 87, HR.out, by rw [HV.out]; rfl, rfl⟩
    · have HR : Hid (r = none) := Lib.hid (by rw [HN.out, if_neg h1, if_neg h2])
      by_cases b1 : 48 ≤ n
      · have a1 : 48 ≤ (n : Int) := by omega
        have a2 : ¬ (n : Int) ≤ 57 := by omega
        by_cases b2 : 97 ≤ n
        · have a3 : 97 ≤ (n : Int) := by omega
          have a4 : ¬ (n : Int) ≤ 102 := by omega
          clear h1 h2
          go_enter Tryz.func79, Tryz.ntmps79
          go_wp2_with fail
          go_ret2
          exact .inr ⟨HR.out, rfl, rfl⟩
        · have a3 : ¬ 97 ≤ (n : Int) := by omega
          clear h1 h2
          go_enter Tryz.func79, Tryz.ntmps79
          go_wp2_with fail
          go_ret2
          exact .inr ⟨HR.out, rfl, rfl⟩
      · have a1 : ¬ 48 ≤ (n : Int) := by omega
        have a3 : ¬ 97 ≤ (n : Int) := by omega
        clear h1 h2
        go_enter Tryz.func79, Tryz.ntmps79
        go_wp2_with fail
        go_ret2
        exact .inr ⟨HR.out, rfl, rfl⟩

end Go.Proofs.YtbgficaboolgiaaGreatDoor

/-
  Walk of StoreDamage.
-/
import Derived.Test.YtbgficaboolgiaaGreatDoorStoV
namespace Go.Proofs.YtbgficaboolgiaaGreatDoor
open Go.RowKit Go.WideShapes Go.ChangeShapes Go.Deep
set_option linter.unusedVariables false
set_option linter.unusedSimpArgs false

theorem bits_xor_u8_nat (a b : Nat) (ha : a < 256) (hb : b < 256) : bits .xor .u8 (a : Int) (b : Int) = ((a ^^^ b : Nat) : Int) := by
  have hx : a ^^^ b < 2 ^ 8 := Nat.xor_lt_two_pow (by omega) (by omega)
  have h1 : (BitVec.ofInt 8 (a : Int)).toNat = a := by
    rw [BitVec.ofInt_natCast, BitVec.toNat_ofNat]; exact Nat.mod_eq_of_lt (by omega)
  have h2 : (BitVec.ofInt 8 (b : Int)).toNat = b := by
    rw [BitVec.ofInt_natCast, BitVec.toNat_ofNat]; exact Nat.mod_eq_of_lt (by omega)
  show IntKind.u8.wrap ((BitVec.ofInt 8 (a : Int) ^^^ BitVec.ofInt 8 (b : Int)).toNat : Int) = _
  rw [BitVec.toNat_xor, h1, h2]
  have : IntKind.u8.wrap ((a ^^^ b : Nat) : Int) = ((a ^^^ b : Nat) : Int) % 256 := by simp [IntKind.wrap, IntKind.bits, IntKind.signed]
  rw [this]
  omega
/-- Decode, where only the error matters. -/
def DE (w : World) (er : Int) (e : Ending) (w' : World) : Prop := ∃ te se de si cy sn gt A M c B N d sm il, e = .returned (.tuple #[.agg #[.string te, .int .u64 (se : Nat), .string de, .string si, .int .i64 cy, .int .i64 sn, .int .i64 gt, .slice A M c, .slice B N d, .int .i64 sm, .int .i64 il], .int .i64 er]) ∧ Below w.heap.size w w'
theorem stoDecE (s : ByteArray) (hs : s.size ≤ maxLen) (w : World) : Calls Tryz.prog 14 #[.string s] w fun e w' => DE w (decT s).2 e w' := by
  refine (stoDecode s hs w).mono ?_
  rintro e w' ⟨p, q, rfl, h1, h2, hb⟩
  obtain ⟨A, c, rfl⟩ := h1.slice
  obtain ⟨B, d, rfl⟩ := h2.slice
  exact ⟨_, _, _, _, _, _, _, A, _, c, B, _, d, _, _, rfl, hb⟩
/-- A byte of a text is changed. -/
theorem cut_change {L : List UInt8} {k : Nat} (hk : k < L.length) (x : UInt8) : ((mkS L).extract 0 k ++ ⟨#[x]⟩) ++ (mkS L).extract (k + 1) (mkS L).size = mkS (L.take k ++ x :: L.drop (k + 1)) := by
  apply bytes_eq
  have e1 : ((mkS L).extract 0 k).data.toList = L.take k := by
    have := bl_extract (mkS L) 0 k
    rw [bl_mk, List.drop_zero, Nat.sub_zero] at this
    exact this
  have e2 : ((mkS L).extract (k + 1) (mkS L).size).data.toList = L.drop (k + 1) := by
    have := bl_extract (mkS L) (k + 1) (mkS L).size
    rw [bl_mk, mkS_size, List.take_of_length_le (by rw [List.length_drop]; omega)] at this
    rw [mkS_size]
    exact this
  rw [ByteArray.data_append, ByteArray.data_append, Array.toList_append, Array.toList_append, e1, e2, mkS_data]
  simp

end Go.Proofs.YtbgficaboolgiaaGreatDoor

/-
  Contract of txn.Diff.
-/
import Derived.Test.YtbjcbndmafddoaaDoorTxnG
import Derived.RangeFuncBox
namespace Go.Proofs.YtbjcbndmafddoaaDoor
open Go.RowKit
set_option linter.unusedVariables false
set_option linter.unusedSimpArgs false

/-- A name is added, if it is not there. -/
def addU (out : List ByteArray) (s : ByteArray) : List ByteArray := if Lib.containsS out s = true then out else out ++ [s]
def dif1 (ns : List ByteArray) (zs : List Int) (ms : List ByteArray) (ys : List Int) (out : List ByteArray) (s : ByteArray) : List ByteArray := if getT ns zs s ≠ getT ms ys s then addU out s else out
def dif2 (ns : List ByteArray) (out : List ByteArray) (s : ByteArray) : List ByteArray := if Lib.containsS ns s = true then out else addU out s
def difT (ns : List ByteArray) (zs : List Int) (ms : List ByteArray) (ys : List Int) : List ByteArray := ms.foldl (dif2 ns) (ns.foldl (dif1 ns zs ms ys) [])
theorem addU_len (out : List ByteArray) (s : ByteArray) : (addU out s).length ≤ out.length + 1 := by unfold addU; split <;> simp
theorem fold_snoc {α β : Type} (f : β → α → β) (b : β) (l : List α) (k : Nat) (d : α) (h : k < l.length) : (l.take (k + 1)).foldl f b = f ((l.take k).foldl f b) (l.getD k d) := by
  rw [take_snocD l k d h, List.foldl_append]; rfl
theorem dif1_len (ns : List ByteArray) (zs : List Int) (ms : List ByteArray) (ys : List Int) (out : List ByteArray) (s : ByteArray) : (dif1 ns zs ms ys out s).length ≤ out.length + 1 := by
  unfold dif1; split
  · exact addU_len _ _
  · omega
theorem dif2_len (ns : List ByteArray) (out : List ByteArray) (s : ByteArray) : (dif2 ns out s).length ≤ out.length + 1 := by
  unfold dif2; split
  · omega
  · exact addU_len _ _
theorem fold_len {f : List ByteArray → ByteArray → List ByteArray} (hf : ∀ o s, (f o s).length ≤ o.length + 1) : ∀ (l : List ByteArray) (o : List ByteArray), (l.foldl f o).length ≤ o.length + l.length
  | [], o => by simp
  | s :: l, o => by
    rw [List.foldl_cons]
    have h1 := fold_len hf l (f o s)
    have h2 := hf o s
    simp only [List.length_cons]; omega

theorem setCell_kept {w : World} {g base : Nat} {e : TypeId} {size : Nat} {v u : Value} {n : Nat} {xs : List Value} (h : w.ownsRow base e size v n xs) (hg : g < base) : (w.setCell ⟨g, 0, none⟩ u).ownsRow base e size v n xs :=
  h.kept (grownBy_setCell' w g u) (.inr fun e => by have := own_block h g e; omega)

/-- What the closure leaves behind. -/
def ADD (w : World) (g base : Nat) (out : List ByteArray) (e : Ending) (w' : World) : Prop :=
  e = .returned (.tuple #[]) ∧ ∃ v, Box w' g #[v] 22 ∧ w'.ownsRow base 9 1 v out.length (scells out) ∧ Below g w w'

set_option maxRecDepth 100000 in
set_option maxHeartbeats 8000000 in
theorem txnDiffAdd (w : World) (g base : Nat) (v0 : Value) (out : List ByteArray) (s : ByteArray) (hx : Box w g #[v0] 22) (hown : w.ownsRow base 9 1 v0 out.length (scells out)) (hg : g < base) (hb : base ≤ w.heap.size) (hl : out.length ≤ 1000000) :
    Calls Tryd.prog 33 #[.string s, .pointer (some ⟨g, 0, none⟩)] w (ADD w g base (addU out s)) := by
  obtain ⟨i0, hi, hz0, hz1, hz2⟩ := info_parts istr
  have HI := Lib.hid hi
  have HZ0 := Lib.hid hz0
  have HZ1 := Lib.hid hz1
  have HZ2 := Lib.hid hz2
  have HSL := Lib.hid (SL.of_own hown)
  have CC := Lib.hid (fun W h => slContains W v0 out s h (by omega))
  have HA : Hid (addU out s = if Lib.containsS out s = true then out else out ++ [s]) := Lib.hid rfl
  have HOWN := Lib.hid hown
  have XA := Lib.hid hx
  generalize addU out s = r at *
  generalize Lib.containsS out s = c at *
  clear hi hz0 hz1 hz2 hown hx
  cases c
  · have HR : Hid (r = out ++ [s]) := Lib.hid (by rw [HA.out]; rfl)
    obtain ⟨n, hn⟩ : ∃ n, n = out.length := ⟨_, rfl⟩
    have HN := Lib.hid hn
    rw [← hn] at HOWN hl
    clear HA hn
    go_enter Tryd.func33, Tryd.ntmps33
    have XA_0 := XA.out.at_ 0 _ rfl
    have XA_l := XA.out.lt
    have XA_z0 := XA.out.frozen 0
    go_wp2_with fail
    refine (CC.out _ HSL.out).mono ?_; rintro e w' ⟨rfl, rfl⟩
    go_wp2_with (at_builtin; refine wpList_append_own _ rfl _ _ 22 rfl base 9 i0 (.string ⟨#[]⟩) 1 16 Tryd.underlying22 HI.out HZ0.out HZ1.out HZ2.out rfl (by decide) v0 n (scells out) rfl (HOWN.out.alloc _) ⟨w.heap.size, 0, none⟩ 1 1 [.string s] rfl rfl ?c1 ?c2 ?c3 ?c4 ?c5 ?_)
    case c1 =>
      intro j u hj
      rw [add_none, Nat.zero_add]
      have := heap_alloc_new w (.cells #[.string s] 9)
      rw [cell_of_row _ _ _ #[.string s] 9 (0, 0) this]
      simpa using hj
    case c2 => intro u hu; simp at hu; subst hu; rfl
    case c3 => unfold maxLen; omega
    case c4 => omega
    case c5 => simp; omega
    intro v' w5 hown5 hgrow _
    have HOWN5 : Hid (w5.ownsRow base 9 1 v' r.length (scells r)) := Lib.hid (by
      have e1 : r.length = n + 1 := by rw [HR.out, HN.out]; simp
      have e2 : scells r = scells out ++ [.string s] := by rw [HR.out]; simp [scells]
      rw [e1, e2]; exact hown5)
    have X5 := Lib.hid (XA.out.grownO HOWN.out hg hgrow)
    have HB5 : Hid (Below g w w5) := Lib.hid (((Below.refl g w).alloc (Nat.le_of_lt XA.out.lt) _).grown hgrow (Nat.le_trans (Nat.le_of_lt XA.out.lt) (by simp)) (fun q hq => by have := own_block HOWN.out q hq; omega))
    clear XA_0 XA_l XA_z0
    have y0 := X5.out.at_ 0 _ rfl
    have y1 := X5.out.frozen 0
    obtain ⟨A5, c5, rfl, _, _⟩ := SL.of_own HOWN5.out
    clear hown5 hgrow
    go_wp2_with fail
    go_end0
    refine ⟨rfl, _, X5.out.set_ 0 _, setCell_kept HOWN5.out hg, HB5.out.setCell (p := ⟨g, 0, none⟩) (Nat.le_refl _) _⟩
  · have HR : Hid (r = out) := Lib.hid (by rw [HA.out]; rfl)
    clear HA
    go_enter Tryd.func33, Tryd.ntmps33
    have XA_0 := XA.out.at_ 0 _ rfl
    go_wp2_with fail
    refine (CC.out _ HSL.out).mono ?_; rintro e w' ⟨rfl, rfl⟩
    go_wp2_with fail
    go_end0
    refine ⟨rfl, v0, XA.out, by rw [HR.out]; exact HOWN.out, Below.refl _ _⟩

end Go.Proofs.YtbjcbndmafddoaaDoor

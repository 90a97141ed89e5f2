/-
  What txn.Parse denotes; rows and boxes side by side; strings.Split as a box.
-/
import Derived.Test.YtbjcbndmafddoaaDoorTxnL
import Derived.Test.YtbjcbndmafddoaaDoorTxnJ
namespace Go.Proofs.YtbjcbndmafddoaaDoor
open Go.RowKit
set_option linter.unusedVariables false
set_option linter.unusedSimpArgs false

theorem iint : (Tryd.prog.info? 3).map (fun i => (i.zero, i.size, i.bytes)) = some (some (.int .i64 0), 1, 8) := by kernel_rfl
noncomputable def prsRun : List ByteArray → List ByteArray → List Int → List ByteArray × List Int × Int
  | [], ns, zs => (ns, zs, 0)
  | x :: l, ns, zs => if (partT x).2.2 ≠ 0 then ([], [], (partT x).2.2) else if Lib.containsS ns (partT x).1 = true then ([], [], 8) else prsRun l (ns ++ [(partT x).1]) (zs ++ [(partT x).2.1])
theorem prs_nil (ns : List ByteArray) (zs : List Int) : prsRun [] ns zs = (ns, zs, 0) := rfl
theorem prs_bad {x : ByteArray} {l ns : List ByteArray} {zs : List Int} (h : (partT x).2.2 ≠ 0) : prsRun (x :: l) ns zs = ([], [], (partT x).2.2) := by simp only [prsRun]; rw [if_pos h]
theorem prs_dup {x : ByteArray} {l ns : List ByteArray} {zs : List Int} (h : (partT x).2.2 = 0) (h2 : Lib.containsS ns (partT x).1 = true) : prsRun (x :: l) ns zs = ([], [], 8) := by simp only [prsRun]; rw [if_neg (by simp [h]), if_pos h2]
theorem prs_go {x : ByteArray} {l ns : List ByteArray} {zs : List Int} (h : (partT x).2.2 = 0) (h2 : Lib.containsS ns (partT x).1 = false) : prsRun (x :: l) ns zs = prsRun l (ns ++ [(partT x).1]) (zs ++ [(partT x).2.1]) := by
  conv => lhs; rw [prsRun]
  rw [if_neg (by simp [h]), if_neg (by simp [h2])]
/-- What Parse denotes: names, values, error. -/
noncomputable def parseT (s : ByteArray) : List ByteArray × List Int × Int :=
  if s.size = 0 then ([], [], 0) else if (prsRun (words 32 s) [] []).2.2 = 0 ∧ 128 < (prsRun (words 32 s) [] []).1.length then ([], [], 2) else prsRun (words 32 s) [] []

/-! Rows and boxes of other types stay as they are when a row grows. -/
theorem rows_apart {w : World} {b1 b2 s1 s2 n1 n2 : Nat} {e1 e2 : TypeId} {v1 v2 : Value} {x1 x2 : List Value} (h1 : w.ownsRow b1 e1 s1 v1 n1 x1) (h2 : w.ownsRow b2 e2 s2 v2 n2 x2) (he : e1 ≠ e2) : v1.ownBlock = none ∨ v1.ownBlock ≠ v2.ownBlock := by
  rcases h1.2 with ⟨rfl, _⟩ | ⟨g, cap, cur, rfl, hg, hh, _⟩
  · left; simp [Value.ownBlock]
  · right
    rcases h2.2 with ⟨rfl, _⟩ | ⟨g2, cap2, cur2, rfl, _, hh2, _⟩
    · simp [Value.ownBlock]
    · intro h
      simp [Value.ownBlock] at h
      subst h
      rw [hh] at hh2
      simp only [Option.some.injEq, Obj.cells.injEq] at hh2
      exact he hh2.2.1
theorem box_apart {w : World} {g b s n : Nat} {t e : TypeId} {cs : Array Value} {v : Value} {xs : List Value} (hb : Box w g cs t) (h : w.ownsRow b e s v n xs) (he : t ≠ e) : some g ≠ v.ownBlock := by
  rcases h.2 with ⟨rfl, _⟩ | ⟨g2, cap, cur, rfl, hg, hh, _⟩
  · simp [Value.ownBlock]
  · intro h
    simp [Value.ownBlock] at h
    subst h
    unfold Box at hb
    rw [hb] at hh
    simp only [Option.some.injEq, Obj.cells.injEq] at hh
    exact he hh.2.1
theorem Box.keptT {w w3 : World} {g b s n : Nat} {t e : TypeId} {cs : Array Value} {v : Value} {xs : List Value} {o : Obj} (hb : Box w g cs t) (h : w.ownsRow b e s v n xs) (he : t ≠ e) (hg : (w.alloc o).grownBy w3 v.ownBlock) : Box w3 g cs t :=
  (hb.below (below_alloc _ _)).grownR hg (fun hq => box_apart hb h he hq.symm)
theorem Box.keptB {w w3 : World} {g b s n : Nat} {t e : TypeId} {cs : Array Value} {v : Value} {xs : List Value} {o : Obj} (hb : Box w g cs t) (h : w.ownsRow b e s v n xs) (hlt : g < b) (hg : (w.alloc o).grownBy w3 v.ownBlock) : Box w3 g cs t := hb.grownO h hlt hg
theorem own_keptT {w w3 : World} {b1 b2 s1 s2 n1 n2 : Nat} {e1 e2 : TypeId} {v1 v2 : Value} {x1 x2 : List Value} {o : Obj} (h1 : w.ownsRow b1 e1 s1 v1 n1 x1) (h2 : w.ownsRow b2 e2 s2 v2 n2 x2) (he : e1 ≠ e2) (hg : (w.alloc o).grownBy w3 v2.ownBlock) : w3.ownsRow b1 e1 s1 v1 n1 x1 :=
  (h1.alloc o).kept hg (rows_apart h1 h2 he)
theorem own_keptM {w w3 : World} {m b s n : Nat} {e : TypeId} {v : Value} {xs : List Value} (h : w.ownsRow b e s v n xs) (hm : m < b) (hg : w.grownBy w3 (some m)) : w3.ownsRow b e s v n xs :=
  h.kept hg (.inr fun he => by have := own_block h m he; omega)
theorem Seen.keptB {w w3 : World} {m b s n : Nat} {e : TypeId} {v : Value} {xs : List Value} {l : List ByteArray} {o : Obj} (hs : Seen w m l) (h : w.ownsRow b e s v n xs) (hm : m < b) (hg : (w.alloc o).grownBy w3 v.ownBlock) : Seen w3 m l := by
  obtain ⟨k, hk, hs⟩ := hs
  exact ⟨k, hk, (hs.alloc o).kept hg (fun he => by have := own_block h m he.symm; omega)⟩
theorem grown_set {a : Addr} {g : Nat} (ha : a.block = g) (w : World) (u : Value) : w.grownBy (w.setCell a u) (some g) := by
  subst ha
  exact ⟨rfl, rfl, rfl, by simp [World.setCell], fun k _ hne => by
    simp only [World.setCell, Array.getElem?_modify]
    rw [if_neg (fun h => hne (by rw [h]))]⟩
theorem Seen.setNe {w : World} {m : Nat} {l : List ByteArray} (hs : Seen w m l) {g : Nat} {a : Addr} (ha : a.block = g) (hne : m ≠ g) (u : Value) : Seen (w.setCell a u) m l := by
  obtain ⟨k, hk, hs⟩ := hs
  exact ⟨k, hk, hs.kept (grown_set ha w u) (by simpa using hne)⟩
theorem own_setNe {w : World} {g base : Nat} {a : Addr} {e : TypeId} {size : Nat} {v u : Value} {n : Nat} {xs : List Value} (h : w.ownsRow base e size v n xs) (ha : a.block = g) (hg : g < base) : (w.setCell a u).ownsRow base e size v n xs :=
  h.kept (grown_set ha w u) (.inr fun e => by have := own_block h g e; omega)
theorem RS.of_box {w : World} {g : Nat} {l : List ByteArray} {t : TypeId} (h : Box w g (scells l).toArray t) : RS w ⟨g, 0, none⟩ l := by
  refine ⟨h.lt, fun j hj => ?_⟩
  rw [show (⟨g, 0, none⟩ : Addr).add j = ⟨g, j, none⟩ by unfold Addr.add; split <;> simp_all]
  exact h.at_ j _ (by simp [scells, List.getD_eq_getElem?_getD, List.getElem?_eq_getElem hj])
theorem strSplitB (b : UInt8) (s : ByteArray) (w : World) (hs : s.size ≤ 2000000) (h : MLen w) :
    Calls Tryd.prog 35 #[.string s, .string ⟨#[b]⟩] w fun e w' => ∃ c, e = .returned (.slice (some ⟨w.heap.size, 0, none⟩) (words b s).length c) ∧ (Box w' w.heap.size (scells (words b s)).toArray 9 ∧ Below w.heap.size w w') := by
  obtain ⟨m, hm⟩ := h
  refine (Tryd.strings_Split s ⟨#[b]⟩ m w (by omega) hm (Nat.le_refl 1)).mono fun e w' ⟨he, hw⟩ => ?_
  rw [split_words b s.size s (Nat.le_refl _)] at hw
  refine ⟨(words b s).length, by rw [words_len]; exact he, ?_, ?_⟩
  · rw [hw]; exact Box.new _ _ _
  · rw [hw]; exact below_alloc _ _

end Go.Proofs.YtbjcbndmafddoaaDoor

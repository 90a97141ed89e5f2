/-
  Transactions in plain Lean: which are valid; places in lists. No program in sight.
  A map of strings that the call makes: a set of names.
  Contracts of txn: Valid.
  Contracts of the reference's transactions: Place, Different, Valid, Get; txn.Get.
  Contracts of the reference's Valid; of Get, of txn and of its reference.
  Slices of pairs (a name and a value), read and made.
  Contracts of txn.pairs, Env.
-/
import Derived.Test.YtbgficaboolgiaaGreatDoorBase
import Derived.Test.YtbgficaboolgiaaGreatDoorName
import Derived.Maps.OwnOps
import Derived.Maps.Views
import Derived.LoopTactic
namespace Go.Proofs.YtbgficaboolgiaaGreatDoor
section
open Go.RowKit
set_option linter.unusedVariables false

def wordB (z : Int) : Bool := decide (0 ≤ z ∧ z ≤ 65535)
/-- A valid transaction. -/
def TxV (ns : List ByteArray) (zs : List Int) : Prop := ns.length = zs.length ∧ ns.length ≤ 128 ∧ ns.Nodup ∧ (∀ s ∈ ns, varB s = true) ∧ ∀ z ∈ zs, wordB z = true
instance (ns : List ByteArray) (zs : List Int) : Decidable (TxV ns zs) := by unfold TxV; infer_instance
def txV (ns : List ByteArray) (zs : List Int) : Bool := decide (TxV ns zs)
/-- Different variable names. -/
def Dif (ns : List ByteArray) : Prop := ns.Nodup ∧ ∀ s ∈ ns, varB s = true
instance (ns : List ByteArray) : Decidable (Dif ns) := by unfold Dif; infer_instance

theorem getD_mem {α : Type} {l : List α} {k : Nat} (d : α) (h : k < l.length) : l.getD k d ∈ l := by
  rw [List.getD_eq_getElem?_getD, List.getElem?_eq_getElem h]; exact List.getElem_mem h
theorem take_snocD {α : Type} (l : List α) (k : Nat) (d : α) (h : k < l.length) : l.take (k + 1) = l.take k ++ [l.getD k d] := by
  rw [List.take_succ_eq_append_getElem h, List.getD_eq_getElem?_getD, List.getElem?_eq_getElem h]; rfl
theorem nodup_take {α : Type} {l : List α} (h : l.Nodup) (k : Nat) : (l.take k).Nodup := h.sublist (List.take_sublist _ _)
/-- What holds of the first k names and values. -/
def Fst (ns : List ByteArray) (k : Nat) : Prop := (ns.take k).Nodup ∧ ∀ j, j < k → varB (ns.getD j ⟨#[]⟩) = true
theorem fst_zero (ns : List ByteArray) : Fst ns 0 := ⟨by simp, fun j h => by omega⟩
theorem fst_step {ns : List ByteArray} {k : Nat} (h : Fst ns k) (hk : k < ns.length) (h1 : ns.getD k ⟨#[]⟩ ∉ ns.take k) (h2 : varB (ns.getD k ⟨#[]⟩) = true) : Fst ns (k + 1) := by
  refine ⟨?_, fun j hj => ?_⟩
  · rw [take_snocD ns k ⟨#[]⟩ hk, List.nodup_append]
    refine ⟨h.1, by simp, fun a ha b hb e => ?_⟩
    rw [List.mem_singleton.1 hb] at e
    exact h1 (e ▸ ha)
  · by_cases e : j = k
    · rw [e]; exact h2
    · exact h.2 j (by omega)
theorem fst_all {ns : List ByteArray} (h : Fst ns ns.length) : Dif ns := by
  refine ⟨by have := h.1; rwa [List.take_length] at this, fun s hs => ?_⟩
  obtain ⟨j, hj, rfl⟩ := List.mem_iff_getElem.1 hs
  have := h.2 j hj
  rwa [List.getD_eq_getElem?_getD, List.getElem?_eq_getElem hj] at this
theorem dif_dup {ns : List ByteArray} {k : Nat} (hk : k < ns.length) (h : ns.getD k ⟨#[]⟩ ∈ ns.take k) : ¬ Dif ns := fun hd => by
  have := nodup_take hd.1 (k + 1)
  rw [take_snocD ns k ⟨#[]⟩ hk, List.nodup_append] at this
  exact this.2.2 _ h _ (by simp) rfl
theorem dif_bad {ns : List ByteArray} {k : Nat} (hk : k < ns.length) (h : varB (ns.getD k ⟨#[]⟩) = false) : ¬ Dif ns := fun hd => by
  rw [hd.2 _ (getD_mem _ hk)] at h; cases h
theorem txv_iff {ns : List ByteArray} {zs : List Int} : TxV ns zs ↔ ns.length = zs.length ∧ ns.length ≤ 128 ∧ Dif ns ∧ ∀ z ∈ zs, wordB z = true := by
  unfold TxV Dif; constructor
  · rintro ⟨a, b, c, d, e⟩; exact ⟨a, b, ⟨c, d⟩, e⟩
  · rintro ⟨a, b, ⟨c, d⟩, e⟩; exact ⟨a, b, c, d, e⟩
theorem all_getD {zs : List Int} (h : ∀ j, j < zs.length → wordB (zs.getD j 0) = true) : ∀ z ∈ zs, wordB z = true := fun z hz => by
  obtain ⟨j, hj, rfl⟩ := List.mem_iff_getElem.1 hz
  have := h j hj
  rwa [List.getD_eq_getElem?_getD, List.getElem?_eq_getElem hj] at this
theorem word_bad {zs : List Int} {k : Nat} (hk : k < zs.length) (h : wordB (zs.getD k 0) = false) : ¬ ∀ z ∈ zs, wordB z = true := fun ha => by
  rw [ha _ (getD_mem _ hk)] at h; cases h

/-! Places. -/
theorem idx_bd (l : List ByteArray) (s : ByteArray) : -1 ≤ Lib.idxOfS l s ∧ Lib.idxOfS l s < l.length := by
  have key : ∀ (l : List ByteArray) (i : Nat), Lib.idxFromS l s i = -1 ∨ ((i : Int) ≤ Lib.idxFromS l s i ∧ Lib.idxFromS l s i < (i + l.length : Nat)) := by
    intro l
    induction l with
    | nil => intro i; left; rfl
    | cons z l ih =>
      intro i
      unfold Lib.idxFromS
      split
      · right; constructor <;> simp <;> omega
      · rcases ih (i + 1) with h | h
        · left; exact h
        · right; simp only [List.length_cons]; omega
  rcases key l 0 with h | h
  · unfold Lib.idxOfS; rw [h]; omega
  · unfold Lib.idxOfS; omega
theorem idx_hit {l : List ByteArray} {s : ByteArray} {k : Nat} (hk : k < l.length) (h : l.getD k ⟨#[]⟩ = s) (hne : ∀ j, j < k → l.getD j ⟨#[]⟩ ≠ s) : Lib.idxOfS l s = k := by
  have := Lib.idxOfS_hit l l.length k s hk (Nat.le_refl _) h hne
  rwa [List.take_length] at this
theorem idx_miss {l : List ByteArray} {s : ByteArray} (h : ∀ j, j < l.length → l.getD j ⟨#[]⟩ ≠ s) : Lib.idxOfS l s = -1 := by
  have := Lib.idxOfS_miss l l.length s h
  rwa [List.take_length] at this
theorem idx_mem {l : List ByteArray} {s : ByteArray} : 0 ≤ Lib.idxOfS l s ↔ s ∈ l := Lib.idxOfS_nonneg_iff l s
theorem idx_at {l : List ByteArray} {s : ByteArray} {k : Nat} (h : Lib.idxOfS l s = k) : k < l.length ∧ l.getD k ⟨#[]⟩ = s ∧ ∀ j, j < k → l.getD j ⟨#[]⟩ ≠ s := by
  have hm : s ∈ l := idx_mem.1 (by omega)
  have hb := idx_bd l s
  -- the first place
  have : ∃ i, i < l.length ∧ l.getD i ⟨#[]⟩ = s ∧ ∀ j, j < i → l.getD j ⟨#[]⟩ ≠ s := by
    obtain ⟨i, hi, he⟩ := List.mem_iff_getElem.1 hm
    have he' : l.getD i ⟨#[]⟩ = s := by rw [List.getD_eq_getElem?_getD, List.getElem?_eq_getElem hi]; exact he
    induction i using Nat.strongRecOn with
    | ind i ih =>
      by_cases hj : ∃ j, j < i ∧ l.getD j ⟨#[]⟩ = s
      · obtain ⟨j, hji, hje⟩ := hj
        have hjl : j < l.length := by omega
        exact ih j hji hjl (by rw [List.getD_eq_getElem?_getD, List.getElem?_eq_getElem hjl] at hje; exact hje) hje
      · exact ⟨i, hi, he', fun j hji e => hj ⟨j, hji, e⟩⟩
  obtain ⟨i, h1, h2, h3⟩ := this
  have := idx_hit h1 h2 h3
  obtain rfl : i = k := by omega
  exact ⟨h1, h2, h3⟩
/-- The first place of the k-th name is k just if it is not ahead of it. -/
theorem idx_self {l : List ByteArray} {k : Nat} (hk : k < l.length) : Lib.idxOfS l (l.getD k ⟨#[]⟩) = k ↔ l.getD k ⟨#[]⟩ ∉ l.take k := by
  constructor
  · intro h hm
    obtain ⟨j, hj, he⟩ := List.mem_iff_getElem.1 hm
    rw [List.length_take] at hj
    refine (idx_at h).2.2 j (by omega) ?_
    rw [List.getElem_take] at he
    rw [List.getD_eq_getElem?_getD, List.getElem?_eq_getElem (by omega)]; exact he
  · intro h
    refine idx_hit hk rfl fun j hj he => h ?_
    rw [← he]
    have hjl : j < l.length := by omega
    rw [List.getD_eq_getElem?_getD, List.getElem?_eq_getElem hjl]
    show l[j] ∈ _
    rw [List.mem_take_iff_getElem]
    exact ⟨j, by omega, rfl⟩
/-- The value of a name. -/
def getT (ns : List ByteArray) (zs : List Int) (s : ByteArray) : Int × Bool :=
  if Lib.idxOfS ns s < 0 ∨ (zs.length : Int) ≤ Lib.idxOfS ns s then (0, false) else (zs.getD (Lib.idxOfS ns s).toNat 0, true)
end

section
open Go.RowKit Go.Maps
set_option linter.unusedVariables false

def klit (s : ByteArray) : Lit := .string s.data.toList
theorem klit_inj {a b : ByteArray} (h : klit a = klit b) : a = b := ba_eq (by unfold klit at h; simpa using h)
theorem keyStr : Keyed Tryz.prog 9 := string_keyed Tryz.underlying9
theorem klit_key (s : ByteArray) : WideAt.IsKeyLit (klit s) := by unfold klit WideAt.IsKeyLit; trivial
theorem key_str (s : ByteArray) (hs : s.size ≤ maxLen) : keyOf Tryz.prog 9 (.string s) = some (klit s) := by
  unfold keyOf klit
  simp [Tryz.underlying9, mapKey, hs]
/-- Block b is the set of these names. -/
def Seen (w : World) (b : Nat) (l : List ByteArray) : Prop := ∃ n, n ≤ l.length ∧ w.ownsMap (H := Unit) Tryz.prog 9 (plainElem Tryz.prog 4) b n (setOf (.lit (.bool true)) (l.map klit))
theorem Seen.lt {w : World} {b : Nat} {l : List ByteArray} (h : Seen w b l) : b < w.heap.size := by obtain ⟨n, _, h⟩ := h; exact h.lt
theorem Seen.below {w w' : World} {b : Nat} {l : List ByteArray} (h : Seen w b l) (hb : Below w.heap.size w w') : Seen w' b l := by
  obtain ⟨n, hn, h⟩ := h
  exact ⟨n, hn, h.kept (grown_of_below hb none) (by simp)⟩
theorem Seen.new (w : World) : Seen (w.alloc (.map #[] 0)) w.heap.size [] := ⟨0, Nat.le_refl _, World.ownsMap_made _ _ _ _⟩
theorem keysLit (l : List ByteArray) : ∀ x ∈ l.map klit, WideAt.IsKeyLit x := fun x hx => by
  obtain ⟨s, _, rfl⟩ := List.mem_map.1 hx; exact klit_key s
theorem setOf_at (l : List ByteArray) (s : ByteArray) (b : Bool) (hb : b = Lib.containsS l s) : (setOf (H := Unit) (.lit (.bool true)) (l.map klit)).atKey (klit s) (.lit (.bool false)) = .lit (.bool b) := by
  subst hb
  have key : ∀ (m : List ByteArray) (D : DataW Unit), IsMap D → ∀ c : Bool, D.atKey (klit s) (.lit (.bool false)) = .lit (.bool c) →
      ((m.map klit).foldl (fun d x => d.put x (.lit (.bool true))) D).atKey (klit s) (.lit (.bool false)) = .lit (.bool (c || Lib.containsS m s)) := by
    intro m
    induction m with
    | nil =>
      intro D _ c h
      have : Lib.containsS [] s = false := rfl
      rw [this, Bool.or_false]; exact h
    | cons x m ih =>
      intro D hD c h
      rw [List.map_cons, List.foldl_cons]
      by_cases e : s = x
      · subst e
        rw [ih _ (hD.put _ _) true (atKey_put_same hD (klit_key s) _ _)]
        have : Lib.containsS (s :: m) s = true := (Lib.containsS_iff _ _).2 (by simp)
        rw [this]; simp
      · rw [ih _ (hD.put _ _) c ((atKey_put_other (fun h => e (klit_inj h)) _ _).trans h)]
        have : Lib.containsS (x :: m) s = Lib.containsS m s := by
          rw [Bool.eq_iff_iff, Lib.containsS_iff, Lib.containsS_iff]; simp [e]
        rw [this]
  exact key l (.map []) isMap_empty false rfl
theorem plain_bool_inv {P : Program} {e : TypeId} (he : P.underlying e = some .bool) {v : Value} {z : DataW Unit × List MemPlace} (h : plainElem P e v = some z) : ∃ x, v = .bool x ∧ z.1 = .lit (.bool x) := by
  unfold plainElem at h
  rw [he] at h
  cases v <;> simp at h
  subst h
  exact ⟨_, rfl, rfl⟩
theorem Seen.lookup {w : World} {b : Nat} {l : List ByteArray} (h : Seen w b l) (s : ByteArray) (hs : s.size ≤ maxLen) {r : Bool} (hr : r = Lib.containsS l s) :
    (Instr.lookup 84 (.map (some b)) (.string s) false).run Tryz.prog w = .ok (.bool r) w := by
  obtain ⟨n, hn, h⟩ := h
  obtain ⟨v, ps, hrun, hv⟩ := h.lookup keyStr Tryz.underlying84 (z := .bool false) (by kernel_rfl) (plainElem_bool Tryz.underlying4 false) (key_str s hs)
  rw [setOf_at l s r hr] at hv
  obtain ⟨x, rfl, hx⟩ := plain_bool_inv Tryz.underlying4 hv
  simp only [DataW.lit.injEq, Lit.bool.injEq] at hx
  rw [hrun, hx]
theorem Seen.update {w : World} {b : Nat} {l : List ByteArray} (h : Seen w b l) (s : ByteArray) (hs : s.size ≤ maxLen) (hl : l.length < maxLen) :
    ∃ w', (Instr.mapUpdate 84 (.map (some b)) (.string s) (.bool true)).run Tryz.prog w = .ok () w' ∧ Seen w' b (l ++ [s]) ∧ w.grownBy w' (some b) := by
  obtain ⟨n, hn, h⟩ := h
  obtain ⟨w', hrun, ho, hg⟩ := h.update keyStr Tryz.underlying84 (by omega) (key_str s hs) (plainElem_bool Tryz.underlying4 true)
  refine ⟨w', hrun, ⟨n + 1, by simp; omega, ?_⟩, hg⟩
  rw [List.map_append, List.map_cons, List.map_nil, setOf_snoc]
  exact ho
theorem Box.grown {w w' : World} {g b : Nat} {cs : Array Value} {t : TypeId} (h : Box w g cs t) (hg : w.grownBy w' (some b)) (hne : g ≠ b) : Box w' g cs t := (hg.block g h.lt (by simpa using hne)).trans h
end

section
open Go.RowKit
set_option linter.unusedVariables false
set_option linter.unusedSimpArgs false
end

section
open Go.RowKit
set_option linter.unusedVariables false
set_option linter.unusedSimpArgs false
end

section
open Go.RowKit
set_option linter.unusedVariables false
set_option linter.unusedSimpArgs false
end

section
open Go.RowKit
set_option linter.unusedVariables false
set_option linter.unusedSimpArgs false

abbrev Pr := ByteArray × Int
def pr0 : Pr := (⟨#[]⟩, 0)
def pc1 (r : Pr) : List Value := [.string r.1, .int .i64 r.2]
def pcells (l : List Pr) : List Value := (l.map pc1).flatten
theorem pcells_append (l m : List Pr) : pcells (l ++ m) = pcells l ++ pcells m := by simp [pcells]
theorem pcells_len : ∀ (l : List Pr), (pcells l).length = l.length * 2
  | [] => rfl
  | r :: l => by
    have := pcells_len l
    simp only [pcells, List.map_cons, List.flatten_cons, List.length_append, List.length_cons] at this ⊢
    rw [this]; simp [pc1]; omega
theorem pcells_get : ∀ (l : List Pr) (k j : Nat) (u : Value), k < l.length → (pc1 (l.getD k pr0))[j]? = some u → (pcells l)[k * 2 + j]? = some u
  | [], k, j, u, h, _ => absurd h (by simp)
  | r :: l, 0, j, u, _, hj => by
    have hl : j < (pc1 r).length := (List.getElem?_eq_some_iff.1 hj).1
    simp only [pcells, List.map_cons, List.flatten_cons]
    rw [show 0 * 2 + j = j by omega, List.getElem?_append_left hl]
    exact hj
  | r :: l, k + 1, j, u, h, hj => by
    have ih := pcells_get l k j u (by simpa using h) (by simpa using hj)
    simp only [pcells, List.map_cons, List.flatten_cons] at ih ⊢
    rw [List.getElem?_append_right (by simp [pc1]; omega), show (k + 1) * 2 + j - (pc1 r).length = k * 2 + j by simp [pc1]; omega]
    exact ih
/-- A slice value that reads as a list of pairs. -/
def PL (w : World) (v : Value) (l : List Pr) : Prop := ∃ (A : Option Addr) (c : Nat), v = .slice A l.length c ∧ l.length ≤ c ∧ (0 < l.length → ∃ b o, A = some ⟨b, o, none⟩ ∧ b < w.heap.size ∧ ∀ k, k < l.length → w.cell? ⟨b, o + k * 2, none⟩ = some (.string (l.getD k pr0).1) ∧ w.cell? ⟨b, o + k * 2 + 1, none⟩ = some (.int .i64 (l.getD k pr0).2))
theorem PL.nil (w : World) : PL w (.slice none 0 0) [] := ⟨none, 0, rfl, Nat.le_refl _, fun h => absurd h (by simp)⟩
theorem PL.below {w w' : World} {v : Value} {l : List Pr} (h : PL w v l) (hb : Below w.heap.size w w') : PL w' v l := by
  obtain ⟨A, c, rfl, hc, h⟩ := h
  exact ⟨A, c, rfl, hc, fun hl => by
    obtain ⟨b, o, ha, hlt, hs⟩ := h hl
    exact ⟨b, o, ha, Nat.lt_of_lt_of_le hlt hb.size, fun k hk => by
      rw [hb.cell (p := ⟨b, o + k * 2, none⟩) hlt, hb.cell (p := ⟨b, o + k * 2 + 1, none⟩) hlt]; exact hs k hk⟩⟩
theorem PL.of_own {w : World} {base : Nat} {t : TypeId} {v : Value} {n : Nat} {l : List Pr} (h : w.ownsRow base t 2 v n (pcells l)) : PL w v l := by
  have hl : l.length = n := by have := h.1; rw [pcells_len] at this; omega
  have h0 := h
  obtain ⟨_, h2⟩ := h
  rcases h2 with ⟨rfl, h2⟩ | ⟨g, cap, cur, rfl, hg, hh, hnc, hcm, _⟩
  · have : l = [] := List.eq_nil_of_length_eq_zero (by omega)
    subst this
    exact PL.nil w
  · refine ⟨some ⟨g, 0, none⟩, cap, by rw [hl], by omega, fun hp => ⟨g, 0, rfl, ?_, fun k hk => ?_⟩⟩
    · rcases Nat.lt_or_ge g w.heap.size with hlt | hge
      · exact hlt
      · rw [Array.getElem?_eq_none hge] at hh; cases hh
    · have hc := World.ownsRow.cells h0 (g := g) rfl
      have e0 := hc _ _ (pcells_get l k 0 _ hk rfl)
      have e1 := hc _ _ (pcells_get l k 1 _ hk rfl)
      have hadd : ∀ n, (⟨g, 0, none⟩ : Addr).add n = ⟨g, n, none⟩ := fun n => by unfold Addr.add; split <;> simp_all
      rw [hadd] at e0 e1
      rw [Nat.zero_add]
      exact ⟨e0, e1⟩
theorem news2 {w : World} {cs : Array Value} {t : TypeId} : ∀ j u, cs.toList[j]? = some u → (w.alloc (.cells cs t)).cell? ((⟨w.heap.size, 0, none⟩ : Addr).add j) = some u := by
  intro j u hj
  have hadd : (⟨w.heap.size, 0, none⟩ : Addr).add j = ⟨w.heap.size, j, none⟩ := by unfold Addr.add; split <;> simp_all
  rw [hadd]
  have := heap_alloc_new w (.cells cs t)
  rw [cell_of_row _ _ _ cs t (0, 0) this]
  simpa using hj
theorem Box.grownR {w w' : World} {g : Nat} {row : Option Nat} {cs : Array Value} {t : TypeId} (h : Box w g cs t) (hg : w.grownBy w' row) (hne : row ≠ some g) : Box w' g cs t := (hg.block g h.lt (Ne.symm hne)).trans h
theorem news2b {w : World} {o : Obj} {cs : Array Value} {t : TypeId} : ∀ j u, cs.toList[j]? = some u → ((w.alloc o).alloc (.cells cs t)).cell? ((⟨w.heap.size + 1, 0, none⟩ : Addr).add j) = some u := by
  have := news2 (w := w.alloc o) (cs := cs) (t := t)
  rwa [show (w.alloc o).heap.size = w.heap.size + 1 by simp] at this
theorem below_grownB2 {w w2 w3 : World} {b0 base : Nat} {e : TypeId} {size : Nat} {v : Value} {n : Nat} {xs : List Value} {o o2 : Obj} (h : Below b0 w w2) (hs : b0 ≤ w2.heap.size) (hbb : b0 ≤ base) (hown : w2.ownsRow base e size v n xs) (hg : ((w2.alloc o).alloc o2).grownBy w3 v.ownBlock) : Below b0 w w3 :=
  ((h.alloc hs _).alloc (Nat.le_trans hs (by simp)) _).grown hg (Nat.le_trans hs (by simp; omega)) (fun q hq => Nat.le_trans hbb (own_block hown q hq))
theorem Box.grownO2 {w w2 : World} {g base : Nat} {e : TypeId} {size : Nat} {v : Value} {n : Nat} {xs : List Value} {o o2 : Obj} {cs : Array Value} {t : TypeId} (h : Box w g cs t) (hown : w.ownsRow base e size v n xs) (hlt : g < base) (hg : ((w.alloc o).alloc o2).grownBy w2 v.ownBlock) : Box w2 g cs t :=
  ((h.below (below_alloc _ _)).below (below_alloc _ _)).grownR hg (fun hq => by have := own_block hown g hq; omega)
/-- A row of the call's own that lies behind a bound has grown: the worlds below another bound. -/
theorem below_grownB {w w2 w3 : World} {b0 base : Nat} {e : TypeId} {size : Nat} {v : Value} {n : Nat} {xs : List Value} {o : Obj} (h : Below b0 w w2) (hs : b0 ≤ w2.heap.size) (hbb : b0 ≤ base) (hown : w2.ownsRow base e size v n xs) (hg : (w2.alloc o).grownBy w3 v.ownBlock) : Below b0 w w3 :=
  (h.alloc hs _).grown hg (Nat.le_trans hs (by simp)) (fun q hq => Nat.le_trans hbb (own_block hown q hq))
/-- A block below the row's bound stays as it was when the row grows. -/
theorem Box.grownO {w w2 : World} {g base : Nat} {e : TypeId} {size : Nat} {v : Value} {n : Nat} {xs : List Value} {o : Obj} {cs : Array Value} {t : TypeId} (h : Box w g cs t) (hown : w.ownsRow base e size v n xs) (hlt : g < base) (hg : (w.alloc o).grownBy w2 v.ownBlock) : Box w2 g cs t :=
  (h.below (below_alloc _ _)).grownR hg (fun hq => by have := own_block hown g hq; omega)
end

section
open Go.RowKit
set_option linter.unusedVariables false
set_option linter.unusedSimpArgs false

/-- The names that have values, with these. -/
def prs (ns : List ByteArray) (zs : List Int) : List Pr := ns.zip zs
theorem prs_len (ns : List ByteArray) (zs : List Int) : (prs ns zs).length = min ns.length zs.length := by simp [prs]
theorem prs_get (ns : List ByteArray) (zs : List Int) (k : Nat) (h1 : k < ns.length) (h2 : k < zs.length) : (prs ns zs).getD k pr0 = (ns.getD k ⟨#[]⟩, zs.getD k 0) := by
  unfold prs
  simp [List.getD_eq_getElem?_getD, List.getElem?_zip_eq_some, List.getElem?_eq_getElem h1, List.getElem?_eq_getElem h2, List.getElem?_eq_getElem (show k < (ns.zip zs).length by simp; omega)]
end
end Go.Proofs.YtbgficaboolgiaaGreatDoor

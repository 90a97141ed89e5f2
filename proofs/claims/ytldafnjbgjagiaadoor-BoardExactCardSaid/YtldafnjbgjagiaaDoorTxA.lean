/-
  Transactions in plain Lean: which are valid; places in lists. No program in sight.
  A map of strings that the call makes: a set of names.
  Contracts of txn: Valid.
  Contracts of the reference's transactions: Place, Different, Valid, Get; txn.Get.
  Contracts of the reference's Valid; of Get, of txn and of its reference.
  Slices of pairs (a name and a value), read and made.
  Contracts of txn.pairs, Env.
-/
import Derived.Test.YtldafnjbgjagiaaDoorBase
import Derived.Test.YtldafnjbgjagiaaDoorName
import Derived.Maps.OwnOps
import Derived.Maps.Views
import Derived.LoopTactic
namespace Go.Proofs.YtldafnjbgjagiaaDoor
section
open Go.RowKit
set_option linter.unusedVariables false

def wordB (z : Int) : Bool := decide (0 ≤ z ∧ z ≤ 65535)
/-- A valid transaction. -/
def TxV (ns : List ByteArray) (zs : List Int) : Prop := ns.length = zs.length ∧ ns.length ≤ 128 ∧ ns.Nodup ∧ (∀ s ∈ ns, varB s = true) ∧ ∀ z ∈ zs, wordB z = true
instance (ns : List ByteArray) (zs : List Int) : Decidable (TxV ns zs) := by unfold TxV; infer_instance
def txV (ns : List ByteArray) (zs : List Int) : Bool := decide (TxV ns zs)
/-- Different variable names. -/
def Dif (ns : List ByteArray) : Prop := ns.Nodup ∧ ∀ s ∈ ns, varB s = true
instance (ns : List ByteArray) : Decidable (Dif ns) := by unfold Dif; infer_instance

theorem getD_mem {α : Type} {l : List α} {k : Nat} (d : α) (h : k < l.length) : l.getD k d ∈ l := by
  rw [List.getD_eq_getElem?_getD, List.getElem?_eq_getElem h]; exact List.getElem_mem h
theorem take_snocD {α : Type} (l : List α) (k : Nat) (d : α) (h : k < l.length) : l.take (k + 1) = l.take k ++ [l.getD k d] := by
  rw [List.take_succ_eq_append_getElem h, List.getD_eq_getElem?_getD, List.getElem?_eq_getElem h]; rfl
theorem nodup_take {α : Type} {l : List α} (h : l.Nodup) (k : Nat) : (l.take k).Nodup := h.sublist (List.take_sublist _ _)
/-- What holds of the first k names and values. -/
def Fst (ns : List ByteArray) (k : Nat) : Prop := (ns.take k).Nodup ∧ ∀ j, j < k → varB (ns.getD j ⟨#[]⟩) = true
theorem fst_zero (ns : List ByteArray) : Fst ns 0 := ⟨by simp, fun j h => by omega⟩
theorem fst_step {ns : List ByteArray} {k : Nat} (h : Fst ns k) (hk : k < ns.length) (h1 : ns.getD k ⟨#[]⟩ ∉ ns.take k) (h2 : varB (ns.getD k ⟨#[]⟩) = true) : Fst ns (k + 1) := by
  refine ⟨?_, fun j hj => ?_⟩
  · rw [take_snocD ns k ⟨#[]⟩ hk, List.nodup_append]
    refine ⟨h.1, by simp, fun a ha b hb e => ?_⟩
    rw [List.mem_singleton.1 hb] at e
    exact h1 (e ▸ ha)
  · by_cases e : j = k
    · rw [e]; exact h2
    · exact h.2 j (by omega)
theorem fst_all {ns : List ByteArray} (h : Fst ns ns.length) : Dif ns := by
  refine ⟨by have := h.1; rwa [List.take_length] at this, fun s hs => ?_⟩
  obtain ⟨j, hj, rfl⟩ := List.mem_iff_getElem.1 hs
  have := h.2 j hj
  rwa [List.getD_eq_getElem?_getD, List.getElem?_eq_getElem hj] at this
theorem dif_dup {ns : List ByteArray} {k : Nat} (hk : k < ns.length) (h : ns.getD k ⟨#[]⟩ ∈ ns.take k) : ¬ Dif ns := fun hd => by
  have := nodup_take hd.1 (k + 1)
  rw [take_snocD ns k ⟨#[]⟩ hk, List.nodup_append] at this
  exact this.2.2 _ h _ (by simp) rfl
theorem dif_bad {ns : List ByteArray} {k : Nat} (hk : k < ns.length) (h : varB (ns.getD k ⟨#[]⟩) = false) : ¬ Dif ns := fun hd => by
  rw [hd.2 _ (getD_mem _ hk)] at h; cases h
theorem txv_iff {ns : List ByteArray} {zs : List Int} : TxV ns zs ↔ ns.length = zs.length ∧ ns.length ≤ 128 ∧ Dif ns ∧ ∀ z ∈ zs, wordB z = true := by
  unfold TxV Dif; constructor
  · rintro ⟨a, b, c, d, e⟩; exact ⟨a, b, ⟨c, d⟩, e⟩
  · rintro ⟨a, b, ⟨c, d⟩, e⟩; exact ⟨a, b, c, d, e⟩
theorem all_getD {zs : List Int} (h : ∀ j, j < zs.length → wordB (zs.getD j 0) = true) : ∀ z ∈ zs, wordB z = true := fun z hz => by
  obtain ⟨j, hj, rfl⟩ := List.mem_iff_getElem.1 hz
  have := h j hj
  rwa [List.getD_eq_getElem?_getD, List.getElem?_eq_getElem hj] at this
theorem word_bad {zs : List Int} {k : Nat} (hk : k < zs.length) (h : wordB (zs.getD k 0) = false) : ¬ ∀ z ∈ zs, wordB z = true := fun ha => by
  rw [ha _ (getD_mem _ hk)] at h; cases h

/-! Places. -/
theorem idx_bd (l : List ByteArray) (s : ByteArray) : -1 ≤ Lib.idxOfS l s ∧ Lib.idxOfS l s < l.length := by
  have key : ∀ (l : List ByteArray) (i : Nat), Lib.idxFromS l s i = -1 ∨ ((i : Int) ≤ Lib.idxFromS l s i ∧ Lib.idxFromS l s i < (i + l.length : Nat)) := by
    intro l
    induction l with
    | nil => intro i; left; rfl
    | cons z l ih =>
      intro i
      unfold Lib.idxFromS
      split
      · right; constructor <;> simp <;> omega
      · rcases ih (i + 1) with h | h
        · left; exact h
        · right; simp only [List.length_cons]; omega
  rcases key l 0 with h | h
  · unfold Lib.idxOfS; rw [h]; omega
  · unfold Lib.idxOfS; omega
theorem idx_hit {l : List ByteArray} {s : ByteArray} {k : Nat} (hk : k < l.length) (h : l.getD k ⟨#[]⟩ = s) (hne : ∀ j, j < k → l.getD j ⟨#[]⟩ ≠ s) : Lib.idxOfS l s = k := by
  have := Lib.idxOfS_hit l l.length k s hk (Nat.le_refl _) h hne
  rwa [List.take_length] at this
theorem idx_miss {l : List ByteArray} {s : ByteArray} (h : ∀ j, j < l.length → l.getD j ⟨#[]⟩ ≠ s) : Lib.idxOfS l s = -1 := by
  have := Lib.idxOfS_miss l l.length s h
  rwa [List.take_length] at this
theorem idx_mem {l : List ByteArray} {s : ByteArray} : 0 ≤ Lib.idxOfS l s ↔ s ∈ l := Lib.idxOfS_nonneg_iff l s
theorem idx_at {l : List ByteArray} {s : ByteArray} {k : Nat} (h : Lib.idxOfS l s = k) : k < l.length ∧ l.getD k ⟨#[]⟩ = s ∧ ∀ j, j < k → l.getD j ⟨#[]⟩ ≠ s := by
  have hm : s ∈ l := idx_mem.1 (by omega)
  have hb := idx_bd l s
  -- the first place
  have : ∃ i, i < l.length ∧ l.getD i ⟨#[]⟩ = s ∧ ∀ j, j < i → l.getD j ⟨#[]⟩ ≠ s := by
    obtain ⟨i, hi, he⟩ := List.mem_iff_getElem.1 hm
    have he' : l.getD i ⟨#[]⟩ = s := by rw [List.getD_eq_getElem?_getD, List.getElem?_eq_getElem hi]; exact he
    induction i using Nat.strongRecOn with
    | ind i ih =>
      by_cases hj : ∃ j, j < i ∧ l.getD j ⟨#[]⟩ = s
      · obtain ⟨j, hji, hje⟩ := hj
        have hjl : j < l.length := by omega
        exact ih j hji hjl (by rw [List.getD_eq_getElem?_getD, List.getElem?_eq_getElem hjl] at hje; exact hje) hje
      · exact ⟨i, hi, he', fun j hji e => hj ⟨j, hji, e⟩⟩
  obtain ⟨i, h1, h2, h3⟩ := this
  have := idx_hit h1 h2 h3
  obtain rfl : i = k := by omega
  exact ⟨h1, h2, h3⟩
/-- The first place of the k-th name is k just if it is not ahead of it. -/
theorem idx_self {l : List ByteArray} {k : Nat} (hk : k < l.length) : Lib.idxOfS l (l.getD k ⟨#[]⟩) = k ↔ l.getD k ⟨#[]⟩ ∉ l.take k := by
  constructor
  · intro h hm
    obtain ⟨j, hj, he⟩ := List.mem_iff_getElem.1 hm
    rw [List.length_take] at hj
    refine (idx_at h).2.2 j (by omega) ?_
    rw [List.getElem_take] at he
    rw [List.getD_eq_getElem?_getD, List.getElem?_eq_getElem (by omega)]; exact he
  · intro h
    refine idx_hit hk rfl fun j hj he => h ?_
    rw [← he]
    have hjl : j < l.length := by omega
    rw [List.getD_eq_getElem?_getD, List.getElem?_eq_getElem hjl]
    show l[j] ∈ _
    rw [List.mem_take_iff_getElem]
    exact ⟨j, by omega, rfl⟩
/-- The value of a name. -/
def getT (ns : List ByteArray) (zs : List Int) (s : ByteArray) : Int × Bool :=
  if Lib.idxOfS ns s < 0 ∨ (zs.length : Int) ≤ Lib.idxOfS ns s then (0, false) else (zs.getD (Lib.idxOfS ns s).toNat 0, true)
end

section
open Go.RowKit Go.Maps
set_option linter.unusedVariables false

def klit (s : ByteArray) : Lit := .string s.data.toList
theorem klit_inj {a b : ByteArray} (h : klit a = klit b) : a = b := ba_eq (by unfold klit at h; simpa using h)
theorem keyStr : Keyed Tryd.prog 9 := string_keyed Tryd.underlying9
theorem klit_key (s : ByteArray) : WideAt.IsKeyLit (klit s) := by unfold klit WideAt.IsKeyLit; trivial
theorem key_str (s : ByteArray) (hs : s.size ≤ maxLen) : keyOf Tryd.prog 9 (.string s) = some (klit s) := by
  unfold keyOf klit
  simp [Tryd.underlying9, mapKey, hs]
/-- Block b is the set of these names. -/
def Seen (w : World) (b : Nat) (l : List ByteArray) : Prop := ∃ n, n ≤ l.length ∧ w.ownsMap (H := Unit) Tryd.prog 9 (plainElem Tryd.prog 4) b n (setOf (.lit (.bool true)) (l.map klit))
theorem Seen.lt {w : World} {b : Nat} {l : List ByteArray} (h : Seen w b l) : b < w.heap.size := by obtain ⟨n, _, h⟩ := h; exact h.lt
theorem Seen.below {w w' : World} {b : Nat} {l : List ByteArray} (h : Seen w b l) (hb : Below w.heap.size w w') : Seen w' b l := by
  obtain ⟨n, hn, h⟩ := h
  exact ⟨n, hn, h.kept (grown_of_below hb none) (by simp)⟩
theorem Seen.new (w : World) : Seen (w.alloc (.map #[] 0)) w.heap.size [] := ⟨0, Nat.le_refl _, World.ownsMap_made _ _ _ _⟩
theorem keysLit (l : List ByteArray) : ∀ x ∈ l.map klit, WideAt.IsKeyLit x := fun x hx => by
  obtain ⟨s, _, rfl⟩ := List.mem_map.1 hx; exact klit_key s
theorem setOf_at (l : List ByteArray) (s : ByteArray) (b : Bool) (hb : b = Lib.containsS l s) : (setOf (H := Unit) (.lit (.bool true)) (l.map klit)).atKey (klit s) (.lit (.bool false)) = .lit (.bool b) := by
  subst hb
  have key : ∀ (m : List ByteArray) (D : DataW Unit), IsMap D → ∀ c : Bool, D.atKey (klit s) (.lit (.bool false)) = .lit (.bool c) →
      ((m.map klit).foldl (fun d x => d.put x (.lit (.bool true))) D).atKey (klit s) (.lit (.bool false)) = .lit (.bool (c || Lib.containsS m s)) := by
    intro m
    induction m with
    | nil =>
      intro D _ c h
      have : Lib.containsS [] s = false := rfl
      rw [this, Bool.or_false]; exact h
    | cons x m ih =>
      intro D hD c h
      rw [List.map_cons, List.foldl_cons]
      by_cases e : s = x
      · subst e
        rw [ih _ (hD.put _ _) true (atKey_put_same hD (klit_key s) _ _)]
        have : Lib.containsS (s :: m) s = true := (Lib.containsS_iff _ _).2 (by simp)
        rw [this]; simp
      · rw [ih _ (hD.put _ _) c ((atKey_put_other (fun h => e (klit_inj h)) _ _).trans h)]
        have : Lib.containsS (x :: m) s = Lib.containsS m s := by
          rw [Bool.eq_iff_iff, Lib.containsS_iff, Lib.containsS_iff]; simp [e]
        rw [this]
  exact key l (.map []) isMap_empty false rfl
theorem plain_bool_inv {P : Program} {e : TypeId} (he : P.underlying e = some .bool) {v : Value} {z : DataW Unit × List MemPlace} (h : plainElem P e v = some z) : ∃ x, v = .bool x ∧ z.1 = .lit (.bool x) := by
  unfold plainElem at h
  rw [he] at h
  cases v <;> simp at h
  subst h
  exact ⟨_, rfl, rfl⟩
theorem Seen.lookup {w : World} {b : Nat} {l : List ByteArray} (h : Seen w b l) (s : ByteArray) (hs : s.size ≤ maxLen) {r : Bool} (hr : r = Lib.containsS l s) :
    (Instr.lookup 73 (.map (some b)) (.string s) false).run Tryd.prog w = .ok (.bool r) w := by
  obtain ⟨n, hn, h⟩ := h
  obtain ⟨v, ps, hrun, hv⟩ := h.lookup keyStr Tryd.underlying73 (z := .bool false) (by kernel_rfl) (plainElem_bool Tryd.underlying4 false) (key_str s hs)
  rw [setOf_at l s r hr] at hv
  obtain ⟨x, rfl, hx⟩ := plain_bool_inv Tryd.underlying4 hv
  simp only [DataW.lit.injEq, Lit.bool.injEq] at hx
  rw [hrun, hx]
theorem Seen.update {w : World} {b : Nat} {l : List ByteArray} (h : Seen w b l) (s : ByteArray) (hs : s.size ≤ maxLen) (hl : l.length < maxLen) :
    ∃ w', (Instr.mapUpdate 73 (.map (some b)) (.string s) (.bool true)).run Tryd.prog w = .ok () w' ∧ Seen w' b (l ++ [s]) ∧ w.grownBy w' (some b) := by
  obtain ⟨n, hn, h⟩ := h
  obtain ⟨w', hrun, ho, hg⟩ := h.update keyStr Tryd.underlying73 (by omega) (key_str s hs) (plainElem_bool Tryd.underlying4 true)
  refine ⟨w', hrun, ⟨n + 1, by simp; omega, ?_⟩, hg⟩
  rw [List.map_append, List.map_cons, List.map_nil, setOf_snoc]
  exact ho
theorem Box.grown {w w' : World} {g b : Nat} {cs : Array Value} {t : TypeId} (h : Box w g cs t) (hg : w.grownBy w' (some b)) (hne : g ≠ b) : Box w' g cs t := (hg.block g h.lt (by simpa using hne)).trans h
end

section
open Go.RowKit
set_option linter.unusedVariables false
set_option linter.unusedSimpArgs false

theorem txnIsWord (z : Int) (w : World) :
    Calls Tryd.prog 61 #[.int .i64 z] w fun e w' => e = .returned (.bool (wordB z)) ∧ w = w' := by
  go_enter Tryd.func61, Tryd.ntmps61
  go_wp2
  all_goals
    go_ret
    refine ⟨retb ?_, rfl⟩
    unfold wordB
    first | (rw [eq_comm]; exact decide_eq_true (by omega)) | (rw [eq_comm]; exact decide_eq_false (by omega)) | (simp; omega)
theorem txv_no {ns : List ByteArray} {zs : List Int} (h : ¬ TxV ns zs) : txV ns zs = false := decide_eq_false h
theorem below_up {w w2 w3 : World} {b : Nat} (h : Below w.heap.size w w2) (hg : w2.grownBy w3 (some b)) (hb : w.heap.size ≤ b) : Below w.heap.size w w3 :=
  h.grown hg h.size (fun k hk => by simp at hk; omega)

set_option maxRecDepth 100000 in
set_option maxHeartbeats 8000000 in
theorem txnValid (w : World) (v1 v2 : Value) (ns : List ByteArray) (zs : List Int) (h1 : SL w v1 ns) (h2 : IL w v2 zs) (hsz : ∀ s ∈ ns, s.size ≤ 9223372036854775807) (hn : ns.length ≤ 9223372036854775807) (hz : zs.length ≤ 9223372036854775807) (hk : KW w) (hm : MLen w) :
    Calls Tryd.prog 47 #[.agg #[v1, v2]] w fun e w' => e = .returned (.bool (txV ns zs)) ∧ Below w.heap.size w w' := by
  have HK := Lib.hid hk
  have HM := Lib.hid hm
  obtain ⟨A1, c1, rfl, hc1, hs1⟩ := h1
  obtain ⟨A2, c2, rfl, hc2, hs2⟩ := h2
  have HS1 := Lib.hid hs1
  have HS2 := Lib.hid hs2
  have HSZ := Lib.hid hsz
  have HI := Lib.hid (txv_iff (ns := ns) (zs := zs))
  obtain ⟨N, hN⟩ : ∃ N, N = ns.length := ⟨_, rfl⟩
  obtain ⟨M, hM⟩ : ∃ M, M = zs.length := ⟨_, rfl⟩
  rw [← hN, ← hM] at HI
  have HN := Lib.hid hN
  have HMM := Lib.hid hM
  rw [← hN] at hn hc1 ⊢
  rw [← hM] at hz hc2 ⊢
  have HNo : Hid (¬ TxV ns zs → txV ns zs = false) := Lib.hid txv_no
  have HYes : Hid (TxV ns zs → txV ns zs = true) := Lib.hid fun h => decide_eq_true h
  generalize txV ns zs = r at *
  clear hk hm hs1 hs2 hsz hN hM
  by_cases hlen : N = M
  case neg =>
    have HR := Lib.hid (HNo.out fun h => hlen (HI.out.1 h).1)
    have f1 : ((N : Int) != (M : Int)) = true := by
      have : ¬ (N : Int) = M := by omega
      simpa using this
    have f2 : (N == M) = false := by simpa using hlen
    clear hlen
    go_enter Tryd.func47, Tryd.ntmps47
    go_wp2_with fail
    go_ret
    exact ⟨retb HR.out.symm, below_alloc _ _⟩
  subst hlen
  by_cases h128 : 128 < N
  · have HR := Lib.hid (HNo.out fun h => by have := (HI.out.1 h).2.1; omega)
    have f1 : (128 : Int) < N := by omega
    clear h128
    go_enter Tryd.func47, Tryd.ntmps47
    go_wp2_with fail
    go_ret
    exact ⟨retb HR.out.symm, below_alloc _ _⟩
  have f1 : ¬ (128 : Int) < N := by omega
  have hmm := @run_makeMap Tryd.prog
  go_enter Tryd.func47, Tryd.ntmps47
  go_wp2_with fail
  clear hmm
  go_loopw [23] (fun i wr => ∃ k : Nat, k ≤ N ∧ i = .int .i64 k ∧ Hid (Fst ns k ∧ ∀ j, j < k → wordB (zs.getD j 0) = true) ∧ Seen wr (w.heap.size + 1) (ns.take k) ∧ Box wr w.heap.size #[.slice A1 N c1, .slice A2 N c2] 28 ∧ Below w.heap.size w wr) (fun i _ => N - (intOf i).toNat)
  case atStart =>
    refine ⟨0, Nat.zero_le _, rfl, Lib.hid ⟨fst_zero _, fun j h => by omega⟩, ?_, ?_, ?_⟩
    · have := Seen.new (w.alloc (.cells #[.slice A1 N c1, .slice A2 N c2] 28))
      rwa [show (w.alloc (.cells #[.slice A1 N c1, .slice A2 N c2] 28)).heap.size = w.heap.size + 1 by simp] at this
    · exact (Box.new _ _ _).below (below_alloc _ _)
    · exact below_step (below_alloc _ _) (below_alloc _ _)
  case round =>
    obtain ⟨k, hk, rfl, hf, hse, hx, hb⟩ := hrel
    have HSE := Lib.hid hse
    have XA := Lib.hid hx
    have HB := Lib.hid hb
    clear hse hx hb
    by_cases hlt : k < N
    · have hlt2 : (k : Int) < N := by omega
      have hkn : k < ns.length := by rw [← HN.out]; exact hlt
      have hkz : k < zs.length := by rw [← HMM.out]; exact hlt
      obtain ⟨a1, rfl, hr1⟩ := HS1.out (by omega)
      obtain ⟨a2, rfl, hl2, hr2⟩ := HS2.out (by omega)
      have q1 := (hr1.below HB.out).cells k hkn
      have q2 : wr.cell? (a2.add k) = some (.int .i64 (zs.getD k 0)) := by rw [HB.out.cell (by rw [block_of_add]; exact hl2)]; exact hr2 k hkz
      have Q2 := Lib.hid (fun (W : World) (hW : Below w.heap.size w W) => (show W.cell? (a2.add k) = some (.int .i64 (zs.getD k 0)) by rw [hW.cell (by rw [block_of_add]; exact hl2)]; exact hr2 k hkz))
      have hsz := HSZ.out _ (getD_mem ⟨#[]⟩ hkn)
      have HST := Lib.hid (fun h h' => fst_step hf.out.1 hkn h h')
      have HW : Hid (wordB (zs.getD k 0) = true → ∀ j, j < k + 1 → wordB (zs.getD j 0) = true) := Lib.hid fun h j hj => by
        by_cases e : j = k
        · rw [e]; exact h
        · exact hf.out.2 j (by omega)
      have HTK := Lib.hid (take_snocD ns k ⟨#[]⟩ hkn)
      have D1 := Lib.hid (dif_dup hkn)
      have D2 := Lib.hid (dif_bad hkn)
      have D3 := Lib.hid (word_bad hkz)
      have hlk := HSE.out.lookup (ns.getD k ⟨#[]⟩) (by unfold maxLen; omega) rfl
      have C1 := Lib.hid (fun w h h' => txnIsVar (ns.getD k ⟨#[]⟩) w hsz h h')
      have C2 := Lib.hid (fun w => txnIsWord (zs.getD k 0) w)
      have hmem := Lib.containsS_iff (ns.take k) (ns.getD k ⟨#[]⟩)
      have hup : Hid (∀ W, Seen W (w.heap.size + 1) (ns.take k) → ∃ w', (Instr.mapUpdate 73 (.map (some (w.heap.size + 1))) (.string (ns.getD k ⟨#[]⟩)) (.bool true)).run Tryd.prog W = .ok () w' ∧ Seen w' (w.heap.size + 1) (ns.take k ++ [ns.getD k ⟨#[]⟩]) ∧ W.grownBy w' (some (w.heap.size + 1))) :=
        Lib.hid fun W h => h.update (ns.getD k ⟨#[]⟩) (by unfold maxLen; omega) (by rw [List.length_take]; unfold maxLen; omega)
      generalize ns.getD k ⟨#[]⟩ = s at *
      generalize zs.getD k 0 = z at *
      clear hr1 hr2 hl2 hf hkn hkz hsz
      cases hcs : Lib.containsS (ns.take k) s
      case true =>
        have HR := Lib.hid (HNo.out fun h => D1.out (hmem.1 hcs) (HI.out.1 h).2.2.1)
        rw [hcs] at hlk
        clear hcs hmem q2
        have XA_0 := XA.out.at_ 0 _ rfl
        have XA_1 := XA.out.at_ 1 _ rfl
        go_wp2_with fail
        go_ret
        exact ⟨retb HR.out.symm, HB.out⟩
      have hno : s ∉ ns.take k := fun h => by rw [hmem.2 h] at hcs; cases hcs
      rw [hcs] at hlk
      cases hv : varB s
      · have HR := Lib.hid (HNo.out fun h => D2.out hv (HI.out.1 h).2.2.1)
        rw [hv] at C1
        clear hcs hmem q2 hv hno
        have XA_0 := XA.out.at_ 0 _ rfl
        have XA_1 := XA.out.at_ 1 _ rfl
        go_wp2_with fail
        refine (C1.out _ (HK.out.below HB.out) (HM.out.below HB.out)).mono ?_; rintro e w2 ⟨rfl, hb⟩
        clear XA_0 XA_1
        replace XA := Lib.hid (XA.out.below hb)
        replace HB := Lib.hid (below_step HB.out hb)
        clear hb
        go_wp2_with fail
        go_ret
        exact ⟨retb HR.out.symm, HB.out⟩
      rw [hv] at C1
      cases hw : wordB z
      · have HR := Lib.hid (HNo.out fun h => D3.out hw (HI.out.1 h).2.2.2)
        rw [hw] at C2
        clear hcs hmem hv hno hw q2
        have XA_0 := XA.out.at_ 0 _ rfl
        have XA_1 := XA.out.at_ 1 _ rfl
        go_wp2_with fail
        refine (C1.out _ (HK.out.below HB.out) (HM.out.below HB.out)).mono ?_; rintro e w2 ⟨rfl, hb⟩
        clear XA_0 XA_1
        replace XA := Lib.hid (XA.out.below hb)
        replace HB := Lib.hid (below_step HB.out hb)
        clear hb
        have q2 := Q2.out _ HB.out
        have XA_0 := XA.out.at_ 0 _ rfl
        have XA_1 := XA.out.at_ 1 _ rfl
        go_wp2_with fail
        refine (C2.out _).mono ?_; rintro e w' ⟨rfl, rfl⟩
        go_wp2_with fail
        go_ret
        exact ⟨retb HR.out.symm, HB.out⟩
      · have HF := Lib.hid (HST.out hno hv)
        have HW2 := Lib.hid (HW.out hw)
        rw [hw] at C2
        clear hcs hmem hv hno hw q2 HST HW
        have XA_0 := XA.out.at_ 0 _ rfl
        have XA_1 := XA.out.at_ 1 _ rfl
        go_wp2_with fail
        refine (C1.out _ (HK.out.below HB.out) (HM.out.below HB.out)).mono ?_; rintro e w2 ⟨rfl, hb⟩
        clear XA_0 XA_1
        replace XA := Lib.hid (XA.out.below hb)
        replace HSE := Lib.hid (HSE.out.below hb)
        replace HB := Lib.hid (below_step HB.out hb)
        clear hb
        have q2 := Q2.out _ HB.out
        obtain ⟨w3, hu, hs3, hg3⟩ := hup.out _ HSE.out
        have HS3 := Lib.hid hs3
        have HG3 := Lib.hid hg3
        clear hs3 hg3
        have XA_0 := XA.out.at_ 0 _ rfl
        have XA_1 := XA.out.at_ 1 _ rfl
        go_wp2_with fail
        refine (C2.out _).mono ?_; rintro e w' ⟨rfl, rfl⟩
        go_wp2_with fail
        clear XA_0 XA_1
        clear q2 hu
        go_roundw
        case rel => exact ⟨k + 1, by omega, by go_num, Lib.hid ⟨HF.out, HW2.out⟩, by rw [HTK.out]; exact HS3.out, XA.out.grown HG3.out (by omega), below_up HB.out HG3.out (by omega)⟩
        case measure => simp [intOf]; omega
    · have hkn : k = N := by omega
      have hlt2 : ¬ (k : Int) < N := by omega
      have HR := Lib.hid (HYes.out (HI.out.2 ⟨by first | trivial | rfl, by omega, fst_all (by have := hf.out.1; rwa [hkn, HN.out] at this), all_getD fun j hj => hf.out.2 j (by rw [hkn, HMM.out]; exact hj)⟩))
      clear hf hkn
      have XA_0 := XA.out.at_ 0 _ rfl
      have XA_1 := XA.out.at_ 1 _ rfl
      go_wp2_with fail
      go_ret
      exact ⟨retb HR.out.symm, HB.out⟩
end

section
open Go.RowKit
set_option linter.unusedVariables false
set_option linter.unusedSimpArgs false

set_option maxRecDepth 100000 in
set_option maxHeartbeats 4000000 in
theorem refPlace (w : World) (v : Value) (l : List ByteArray) (s : ByteArray) (h : SL w v l) (hn : l.length ≤ 9223372036854775807) :
    Calls Tryd.prog 43 #[v, .string s] w fun e w' => e = .returned (.int .i64 (Lib.idxOfS l s)) ∧ w = w' := by
  obtain ⟨A, c, rfl, hc, hs⟩ := h
  have HC1 := Lib.hid (fun k hk h h' => idx_hit (l := l) (s := s) (k := k) hk h h')
  have HC2 := Lib.hid (idx_miss (l := l) (s := s))
  obtain ⟨N, hN⟩ : ∃ N, N = l.length := ⟨_, rfl⟩
  rw [← hN] at hs hc hn HC1 HC2 ⊢
  have HS := Lib.hid hs
  have HN := Lib.hid hN
  generalize Lib.idxOfS l s = r at *
  clear hs hN
  go_enter Tryd.func43, Tryd.ntmps43
  go_wp2_with fail
  go_loop [5] (fun i => ∃ k : Nat, k ≤ N ∧ i = .int .i64 k ∧ Hid (∀ j, j < k → l.getD j ⟨#[]⟩ ≠ s)) (fun i => N - (intOf i).toNat)
  case atStart => exact ⟨0, Nat.zero_le _, rfl, (fun j hj => by omega)⟩
  case round =>
    obtain ⟨k, hk, rfl, hd⟩ := hrel
    by_cases hlt : k < N
    · have hlt2 : (k : Int) < N := by omega
      obtain ⟨a, rfl, hr⟩ := HS.out (by omega)
      by_cases he : l.getD k ⟨#[]⟩ = s
      · have HR := Lib.hid (HC1.out k hlt he hd.out)
        have hcell : w.cell? (a.add k) = some (.string s) := by rw [hr.cells k (by rw [← HN.out]; exact hlt), he]
        clear he hd hr
        go_wp2_with fail
        go_ret
        exact ⟨ret1 HR.out.symm, rfl⟩
      · have HD : Hid (∀ j, j < k + 1 → l.getD j ⟨#[]⟩ ≠ s) := fun j hj => by
          by_cases e : j = k
          · rw [e]; exact he
          · exact hd.out j (by omega)
        have hcell := hr.cells k (by rw [← HN.out]; exact hlt)
        obtain ⟨e1, e2⟩ := str_ne he
        generalize l.getD k ⟨#[]⟩ = x at *
        clear he hd hr
        go_wp2_with fail
        go_round
        case rel => exact ⟨k + 1, by omega, by go_num, HD⟩
        case measure => simp [intOf]; omega
    · have hlt2 : ¬ (k : Int) < N := by omega
      have HR := Lib.hid (HC2.out fun j hj => hd.out j (by omega))
      clear hd
      go_wp2_with fail
      go_ret
      exact ⟨ret1 HR.out.symm, rfl⟩

set_option maxRecDepth 100000 in
set_option maxHeartbeats 8000000 in
theorem refDifferent (w : World) (v : Value) (l : List ByteArray) (h : SL w v l) (hsz : ∀ s ∈ l, s.size ≤ 9223372036854775807) (hn : l.length ≤ 9223372036854775807) :
    Calls Tryd.prog 45 #[v] w fun e w' => e = .returned (.bool (decide (Dif l))) ∧ Below w.heap.size w w' := by
  have HQ := Lib.hid h
  obtain ⟨A, c, rfl, hc, hs⟩ := h
  have HSZ := Lib.hid hsz
  have HNo : Hid (¬ Dif l → decide (Dif l) = false) := Lib.hid fun h => decide_eq_false h
  have HYes : Hid (Dif l → decide (Dif l) = true) := Lib.hid fun h => decide_eq_true h
  have HP : Hid (∀ (W : World) (s : ByteArray), SL W (.slice A l.length c) l → Calls Tryd.prog 43 #[.slice A l.length c, .string s] W fun e w' => e = .returned (.int .i64 (Lib.idxOfS l s)) ∧ W = w') := Lib.hid fun W s h => refPlace W _ l s h hn
  obtain ⟨N, hN⟩ : ∃ N, N = l.length := ⟨_, rfl⟩
  rw [← hN] at hs hc hn HP HQ ⊢
  have HS := Lib.hid hs
  have HN := Lib.hid hN
  generalize decide (Dif l) = r at *
  clear hs hN hsz
  go_enter Tryd.func45, Tryd.ntmps45
  go_wp2_with fail
  go_loopw [3] (fun i wr => ∃ k : Nat, k ≤ N ∧ i = .int .i64 k ∧ Hid (Fst l k) ∧ Below w.heap.size w wr) (fun i _ => N - (intOf i).toNat)
  case atStart => exact ⟨0, Nat.zero_le _, rfl, Lib.hid (fst_zero _), Below.refl _ _⟩
  case round =>
    obtain ⟨k, hk, rfl, hf, hb⟩ := hrel
    have HB := Lib.hid hb
    clear hb
    by_cases hlt : k < N
    · have hlt2 : (k : Int) < N := by omega
      have hkn : k < l.length := by rw [← HN.out]; exact hlt
      obtain ⟨a, rfl, hr⟩ := HS.out (by omega)
      have Q := Lib.hid (fun (W : World) (hW : Below w.heap.size w W) => (hr.below hW).cells k hkn)
      have hsz := HSZ.out _ (getD_mem ⟨#[]⟩ hkn)
      have HST := Lib.hid (fun h h' => fst_step hf.out hkn h h')
      have D1 := Lib.hid (dif_dup hkn)
      have D2 := Lib.hid (dif_bad hkn)
      have C1 := Lib.hid (fun w => refIsVar (l.getD k ⟨#[]⟩) w hsz)
      have hself := idx_self hkn
      have hbd := idx_bd l (l.getD k ⟨#[]⟩)
      have C2 := Lib.hid (fun W h => HP.out W (l.getD k ⟨#[]⟩) h)
      generalize Lib.idxOfS l (l.getD k ⟨#[]⟩) = ix at *
      generalize l.getD k ⟨#[]⟩ = s at *
      clear hr hf hkn hsz HP
      have q := Q.out _ HB.out
      cases hv : varB s
      · have HR := Lib.hid (HNo.out (D2.out hv))
        rw [hv] at C1
        clear hv hself hbd
        go_wp2_with fail
        clear q
        refine (C1.out _).mono ?_; rintro e w2 ⟨rfl, hb⟩
        replace HB := Lib.hid (below_step HB.out hb)
        clear hb
        go_wp2_with fail
        go_ret
        exact ⟨retb HR.out.symm, HB.out⟩
      rw [hv] at C1
      by_cases hi : ix = k
      · have HF := Lib.hid (HST.out (hself.1 hi) hv)
        have f1 : (ix != (k : Int)) = false := by simpa using hi
        have f2 : (ix == (k : Int)) = true := by simpa using hi
        clear hv hself hbd hi HST
        go_wp2_with fail
        clear q
        refine (C1.out _).mono ?_; rintro e w2 ⟨rfl, hb⟩
        replace HB := Lib.hid (below_step HB.out hb)
        clear hb
        have q := Q.out _ HB.out
        go_wp2_with fail
        refine (C2.out _ (HQ.out.below HB.out)).mono ?_; rintro e w' ⟨rfl, rfl⟩
        go_wp2_with fail
        clear q
        go_roundw
        case rel => exact ⟨k + 1, by omega, by go_num, HF, HB.out⟩
        case measure => simp [intOf]; omega
      · have HR := Lib.hid (HNo.out (D1.out (Classical.byContradiction fun h => hi (hself.2 h))))
        have f1 : (ix != (k : Int)) = true := by simpa using hi
        have f2 : (ix == (k : Int)) = false := by simpa using hi
        clear hv hself hbd hi HST
        go_wp2_with fail
        clear q
        refine (C1.out _).mono ?_; rintro e w2 ⟨rfl, hb⟩
        replace HB := Lib.hid (below_step HB.out hb)
        clear hb
        have q := Q.out _ HB.out
        go_wp2_with fail
        refine (C2.out _ (HQ.out.below HB.out)).mono ?_; rintro e w' ⟨rfl, rfl⟩
        go_wp2_with fail
        go_ret
        exact ⟨retb HR.out.symm, HB.out⟩
    · have hkn : k = N := by omega
      have hlt2 : ¬ (k : Int) < N := by omega
      have HR := Lib.hid (HYes.out (fst_all (by have := hf.out; rwa [hkn, HN.out] at this)))
      clear hf hkn
      go_wp2_with fail
      go_ret
      exact ⟨retb HR.out.symm, HB.out⟩

theorem refMost (w : World) : Calls Tryd.prog 44 #[] w fun e w' => e = .returned (.int .i64 128) ∧ w = w' := by
  go_enter Tryd.func44, Tryd.ntmps44
  go_wp2
  go_ret
  exact ⟨rfl, rfl⟩
end

section
open Go.RowKit
set_option linter.unusedVariables false
set_option linter.unusedSimpArgs false

set_option maxRecDepth 100000 in
set_option maxHeartbeats 8000000 in
theorem refValidT (w : World) (v1 v2 : Value) (ns : List ByteArray) (zs : List Int) (h1 : SL w v1 ns) (h2 : IL w v2 zs) (hsz : ∀ s ∈ ns, s.size ≤ 9223372036854775807) (hn : ns.length ≤ 9223372036854775807) (hz : zs.length ≤ 9223372036854775807) :
    Calls Tryd.prog 25 #[.agg #[v1, v2]] w fun e w' => e = .returned (.bool (txV ns zs)) ∧ Below w.heap.size w w' := by
  have HQ := Lib.hid h1
  obtain ⟨A1, c1, rfl, hc1, hs1⟩ := h1
  obtain ⟨A2, c2, rfl, hc2, hs2⟩ := h2
  have HS2 := Lib.hid hs2
  have HI := Lib.hid (txv_iff (ns := ns) (zs := zs))
  have CD : Hid (∀ W, SL W (.slice A1 ns.length c1) ns → Calls Tryd.prog 45 #[.slice A1 ns.length c1] W fun e w' => e = .returned (.bool (decide (Dif ns))) ∧ Below W.heap.size W w') := Lib.hid fun W h => refDifferent W _ ns h hsz hn
  have HDD : Hid (Dif ns ↔ decide (Dif ns) = true) := Lib.hid (by simp)
  obtain ⟨N, hN⟩ : ∃ N, N = ns.length := ⟨_, rfl⟩
  obtain ⟨M, hM⟩ : ∃ M, M = zs.length := ⟨_, rfl⟩
  rw [← hN, ← hM] at HI
  have HMM := Lib.hid hM
  rw [← hN] at hn hc1 HQ CD ⊢
  rw [← hM] at hz hc2 ⊢
  have HNo : Hid (¬ TxV ns zs → txV ns zs = false) := Lib.hid txv_no
  have HYes : Hid (TxV ns zs → txV ns zs = true) := Lib.hid fun h => decide_eq_true h
  generalize txV ns zs = r at *
  generalize decide (Dif ns) = df at *
  clear hs1 hs2 hsz hN hM
  by_cases hlen : N = M
  case neg =>
    have HR := Lib.hid (HNo.out fun h => hlen (HI.out.1 h).1)
    have f1 : ((N : Int) != (M : Int)) = true := by
      have : ¬ (N : Int) = M := by omega
      simpa using this
    have f2 : (N == M) = false := by simpa using hlen
    have f3 : (N != M) = true := by simpa using hlen
    clear hlen
    go_enter Tryd.func25, Tryd.ntmps25
    go_wp2_with fail
    have XA := Lib.hid (box_new (W := w) (g := w.heap.size) 28 #[.slice A1 N c1, .slice A2 M c2] (by simp))
    have HB := Lib.hid (below_alloc w (.cells #[.slice A1 N c1, .slice A2 M c2] 28))
    generalize w.alloc (.cells #[.slice A1 N c1, .slice A2 M c2] 28) = w1 at *
    have l0 := XA.out.lat 0 _ rfl
    have l1 := XA.out.lat 1 _ rfl
    refine wp_region_lat (by kernel_rfl) (by kernel_rfl) ?_
    repeat (go_big_quiet_step (fail))
    refine wpQuiet_nil ?_; intro w2 hb
    clear l0 l1
    replace XA := Lib.hid (XA.out.below hb)
    replace HB := Lib.hid (below_step HB.out hb)
    clear hb
    go_wp2_with fail
    go_ret
    exact ⟨retb HR.out.symm, HB.out⟩
  subst hlen
  have f1 : ((N : Int) != (N : Int)) = false := by simp
  have f1' : (N != N) = false := by simp
  by_cases h128 : 128 < N
  · have HR := Lib.hid (HNo.out fun h => by have := (HI.out.1 h).2.1; omega)
    have f2 : (128 : Int) < N := by omega
    have f3 : decide ((128 : Int) < N) = true := by simpa using f2
    clear h128
    go_enter Tryd.func25, Tryd.ntmps25
    go_wp2_with fail
    have XA := Lib.hid (box_new (W := w) (g := w.heap.size) 28 #[.slice A1 N c1, .slice A2 N c2] (by simp))
    have HB := Lib.hid (below_alloc w (.cells #[.slice A1 N c1, .slice A2 N c2] 28))
    generalize w.alloc (.cells #[.slice A1 N c1, .slice A2 N c2] 28) = w1 at *
    have l0 := XA.out.lat 0 _ rfl
    have l1 := XA.out.lat 1 _ rfl
    refine wp_region_lat (by kernel_rfl) (by kernel_rfl) ?_
    repeat (go_big_quiet_step (first | (with_reducible exact lat_same (refMost _))))
    refine wpQuiet_nil ?_; intro w2 hb
    clear l0 l1
    replace XA := Lib.hid (XA.out.below hb)
    replace HB := Lib.hid (below_step HB.out hb)
    clear hb
    go_wp2_with fail
    go_ret
    exact ⟨retb HR.out.symm, HB.out⟩
  have f2 : ¬ (128 : Int) < N := by omega
  have f3 : decide ((128 : Int) < N) = false := by simpa using f2
  cases df
  · have HR := Lib.hid (HNo.out fun h => by have := HDD.out.1 (HI.out.1 h).2.2.1; cases this)
    clear h128
    go_enter Tryd.func25, Tryd.ntmps25
    go_wp2_with fail
    have XA := Lib.hid (box_new (W := w) (g := w.heap.size) 28 #[.slice A1 N c1, .slice A2 N c2] (by simp))
    have HB := Lib.hid (below_alloc w (.cells #[.slice A1 N c1, .slice A2 N c2] 28))
    generalize w.alloc (.cells #[.slice A1 N c1, .slice A2 N c2] 28) = w1 at *
    have l0 := XA.out.lat 0 _ rfl
    have l1 := XA.out.lat 1 _ rfl
    have HQ1 := Lib.hid (HQ.out.below HB.out)
    have G := Lib.hid (fun p : Lat w1 => CD.out p.w (HQ1.out.below p.h))
    refine wp_region_lat (by kernel_rfl) (by kernel_rfl) ?_
    repeat (go_big_quiet_step (first | (with_reducible exact lat_same (refMost _)) | (with_reducible exact lat_call (G.out _))))
    refine wpQuiet_nil ?_; intro w2 hb
    clear l0 l1
    replace XA := Lib.hid (XA.out.below hb)
    replace HB := Lib.hid (below_step HB.out hb)
    clear hb
    go_wp2_with fail
    go_ret
    exact ⟨retb HR.out.symm, HB.out⟩
  go_enter Tryd.func25, Tryd.ntmps25
  go_wp2_with fail
  have XA := Lib.hid (box_new (W := w) (g := w.heap.size) 28 #[.slice A1 N c1, .slice A2 N c2] (by simp))
  have HB := Lib.hid (below_alloc w (.cells #[.slice A1 N c1, .slice A2 N c2] 28))
  generalize w.alloc (.cells #[.slice A1 N c1, .slice A2 N c2] 28) = w1 at *
  have l0 := XA.out.lat 0 _ rfl
  have l1 := XA.out.lat 1 _ rfl
  have HQ1 := Lib.hid (HQ.out.below HB.out)
  have G := Lib.hid (fun p : Lat w1 => CD.out p.w (HQ1.out.below p.h))
  refine wp_region_lat (by kernel_rfl) (by kernel_rfl) ?_
  repeat (go_big_quiet_step (first | (with_reducible exact lat_same (refMost _)) | (with_reducible exact lat_call (G.out _))))
  refine wpQuiet_nil ?_; intro w2 hb
  clear l0 l1
  replace XA := Lib.hid (XA.out.below hb)
  replace HB := Lib.hid (below_step HB.out hb)
  clear hb
  go_wp2_with fail
  go_loop [3] (fun i => ∃ k : Nat, k ≤ N ∧ i = .int .i64 k ∧ Hid (∀ j, j < k → wordB (zs.getD j 0) = true)) (fun i => N - (intOf i).toNat)
  case atStart => exact ⟨0, Nat.zero_le _, rfl, Lib.hid (fun j h => by omega)⟩
  case round =>
    obtain ⟨k, hk, rfl, hf⟩ := hrel
    by_cases hlt : k < N
    · have hlt2 : (k : Int) < N := by omega
      have hkz : k < zs.length := by rw [← HMM.out]; exact hlt
      obtain ⟨a2, rfl, hl2, hr2⟩ := HS2.out (by omega)
      have q2 : w2.cell? (a2.add k) = some (.int .i64 (zs.getD k 0)) := by rw [HB.out.cell (by rw [block_of_add]; exact hl2)]; exact hr2 k hkz
      have HW : Hid (wordB (zs.getD k 0) = true → ∀ j, j < k + 1 → wordB (zs.getD j 0) = true) := Lib.hid fun h j hj => by
        by_cases e : j = k
        · rw [e]; exact h
        · exact hf.out j (by omega)
      have D3 := Lib.hid (word_bad hkz)
      have hwb : wordB (zs.getD k 0) = decide (0 ≤ zs.getD k 0 ∧ zs.getD k 0 ≤ 65535) := rfl
      generalize zs.getD k 0 = z at *
      clear hr2 hl2 hf hkz
      by_cases hw : 0 ≤ z ∧ z ≤ 65535
      · have HW2 := Lib.hid (HW.out (by rw [hwb]; exact decide_eq_true hw))
        obtain ⟨w5, w6⟩ := hw
        have w7 : ¬ z < 0 := by omega
        have w8 : ¬ 65535 < z := by omega
        clear hwb
        have XA_0 := XA.out.at_ 0 _ rfl
        have XA_1 := XA.out.at_ 1 _ rfl
        go_wp2_with fail
        go_round
        case rel => exact ⟨k + 1, by omega, by go_num, HW2⟩
        case measure => simp [intOf]; omega
      · have HR := Lib.hid (HNo.out fun h => D3.out (by rw [hwb]; exact decide_eq_false hw) (HI.out.1 h).2.2.2)
        clear hwb
        by_cases w7 : z < 0
        · clear hw
          have XA_0 := XA.out.at_ 0 _ rfl
          have XA_1 := XA.out.at_ 1 _ rfl
          go_wp2_with fail
          go_ret
          exact ⟨retb HR.out.symm, HB.out⟩
        · have w8 : 65535 < z := by omega
          clear hw
          have XA_0 := XA.out.at_ 0 _ rfl
          have XA_1 := XA.out.at_ 1 _ rfl
          go_wp2_with fail
          go_ret
          exact ⟨retb HR.out.symm, HB.out⟩
    · have hkn : k = N := by omega
      have hlt2 : ¬ (k : Int) < N := by omega
      have HR := Lib.hid (HYes.out (HI.out.2 ⟨by first | trivial | rfl, by omega, HDD.out.2 (by first | trivial | rfl), all_getD fun j hj => hf.out j (by rw [hkn, HMM.out]; exact hj)⟩))
      clear hf hkn
      have XA_0 := XA.out.at_ 0 _ rfl
      have XA_1 := XA.out.at_ 1 _ rfl
      go_wp2_with fail
      go_ret
      exact ⟨retb HR.out.symm, HB.out⟩

def ret2b (r : Int × Bool) : Ending := .returned (.tuple #[.int .i64 r.1, .bool r.2])
set_option maxRecDepth 100000 in
set_option maxHeartbeats 8000000 in
theorem txnGet (w : World) (v1 v2 : Value) (ns : List ByteArray) (zs : List Int) (s : ByteArray) (h1 : SL w v1 ns) (h2 : IL w v2 zs) (hn : ns.length ≤ 9223372036854775807) (hz : zs.length ≤ 9223372036854775807) :
    Calls Tryd.prog 62 #[.agg #[v1, v2], .string s] w fun e w' => e = ret2b (getT ns zs s) ∧ Below w.heap.size w w' := by
  have HQ := Lib.hid h1
  obtain ⟨A1, c1, rfl, hc1, _⟩ := h1
  obtain ⟨A2, c2, rfl, hc2, hs2⟩ := h2
  have HS2 := Lib.hid hs2
  have CI := Lib.hid (fun W h => slIndex W (.slice A1 ns.length c1) ns s h hn)
  have HG : Hid (getT ns zs s = if Lib.idxOfS ns s < 0 ∨ (zs.length : Int) ≤ Lib.idxOfS ns s then (0, false) else (zs.getD (Lib.idxOfS ns s).toNat 0, true)) := Lib.hid rfl
  generalize getT ns zs s = r at *
  generalize Lib.idxOfS ns s = ix at *
  generalize ns.length = N at *
  obtain ⟨M, hM⟩ : ∃ M, M = zs.length := ⟨_, rfl⟩
  have HM := Lib.hid hM
  rw [← hM] at HG hz hc2 ⊢
  clear hM hs2
  by_cases k1 : ix < 0
  · have HR : Hid (r = (0, false)) := Lib.hid (by rw [HG.out, if_pos (.inl k1)])
    clear HG
    go_enter Tryd.func62, Tryd.ntmps62
    go_wp2_with fail
    have XA := Lib.hid (box_new (W := w) (g := w.heap.size) 28 #[.slice A1 N c1, .slice A2 M c2] (by simp))
    have HB := Lib.hid (below_alloc w (.cells #[.slice A1 N c1, .slice A2 M c2] 28))
    generalize w.alloc (.cells #[.slice A1 N c1, .slice A2 M c2] 28) = w1 at *
    refine (CI.out _ (HQ.out.below HB.out)).mono ?_; rintro e w' ⟨rfl, rfl⟩
    have XA_0 := XA.out.at_ 0 _ rfl
    have XA_1 := XA.out.at_ 1 _ rfl
    go_wp2_with fail
    go_ret2
    exact ⟨by rw [HR.out]; rfl, HB.out⟩
  obtain ⟨k, rfl⟩ := Int.eq_ofNat_of_zero_le (show 0 ≤ ix by omega)
  by_cases k2 : M ≤ k
  · have HR : Hid (r = (0, false)) := Lib.hid (by rw [HG.out, if_pos (.inr (by omega))])
    have f1 : ¬ (k : Int) < 0 := by omega
    have f2 : (M : Int) ≤ k := by omega
    clear HG k1
    go_enter Tryd.func62, Tryd.ntmps62
    go_wp2_with fail
    have XA := Lib.hid (box_new (W := w) (g := w.heap.size) 28 #[.slice A1 N c1, .slice A2 M c2] (by simp))
    have HB := Lib.hid (below_alloc w (.cells #[.slice A1 N c1, .slice A2 M c2] 28))
    generalize w.alloc (.cells #[.slice A1 N c1, .slice A2 M c2] 28) = w1 at *
    refine (CI.out _ (HQ.out.below HB.out)).mono ?_; rintro e w' ⟨rfl, rfl⟩
    have XA_0 := XA.out.at_ 0 _ rfl
    have XA_1 := XA.out.at_ 1 _ rfl
    go_wp2_with fail
    go_ret2
    exact ⟨by rw [HR.out]; rfl, HB.out⟩
  · have HR : Hid (r = (zs.getD k 0, true)) := Lib.hid (by rw [HG.out, if_neg (by omega)]; rfl)
    have f1 : ¬ (k : Int) < 0 := by omega
    have f2 : ¬ (M : Int) ≤ k := by omega
    have f3 : (k : Int) < M := by omega
    have f4 : k < M := by omega
    obtain ⟨a2, rfl, hl2, hr2⟩ := HS2.out (by rw [← HM.out]; omega)
    have Q := Lib.hid (fun (W : World) (hW : Below w.heap.size w W) => (show W.cell? (a2.add k) = some (.int .i64 (zs.getD k 0)) by rw [hW.cell (by rw [block_of_add]; exact hl2)]; exact hr2 k (by rw [← HM.out]; exact f4)))
    generalize zs.getD k 0 = z at *
    clear HG k1 hl2 hr2 k2
    go_enter Tryd.func62, Tryd.ntmps62
    go_wp2_with fail
    have XA := Lib.hid (box_new (W := w) (g := w.heap.size) 28 #[.slice A1 N c1, .slice (some a2) M c2] (by simp))
    have HB := Lib.hid (below_alloc w (.cells #[.slice A1 N c1, .slice (some a2) M c2] 28))
    generalize w.alloc (.cells #[.slice A1 N c1, .slice (some a2) M c2] 28) = w1 at *
    refine (CI.out _ (HQ.out.below HB.out)).mono ?_; rintro e w' ⟨rfl, rfl⟩
    have q := Q.out _ HB.out
    have XA_0 := XA.out.at_ 0 _ rfl
    have XA_1 := XA.out.at_ 1 _ rfl
    go_wp2_with fail
    go_ret2
    exact ⟨by rw [HR.out]; rfl, HB.out⟩

set_option maxRecDepth 100000 in
set_option maxHeartbeats 8000000 in
theorem refGet (w : World) (v1 v2 : Value) (ns : List ByteArray) (zs : List Int) (s : ByteArray) (h1 : SL w v1 ns) (h2 : IL w v2 zs) (hn : ns.length ≤ 9223372036854775807) (hz : zs.length ≤ 9223372036854775807) :
    Calls Tryd.prog 24 #[.agg #[v1, v2], .string s] w fun e w' => e = ret2b (getT ns zs s) ∧ Below w.heap.size w w' := by
  have HQ := Lib.hid h1
  obtain ⟨A1, c1, rfl, hc1, _⟩ := h1
  obtain ⟨A2, c2, rfl, hc2, hs2⟩ := h2
  have HS2 := Lib.hid hs2
  have CI := Lib.hid (fun W h => refPlace W (.slice A1 ns.length c1) ns s h hn)
  have HG : Hid (getT ns zs s = if Lib.idxOfS ns s < 0 ∨ (zs.length : Int) ≤ Lib.idxOfS ns s then (0, false) else (zs.getD (Lib.idxOfS ns s).toNat 0, true)) := Lib.hid rfl
  generalize getT ns zs s = r at *
  generalize Lib.idxOfS ns s = ix at *
  generalize ns.length = N at *
  obtain ⟨M, hM⟩ : ∃ M, M = zs.length := ⟨_, rfl⟩
  have HM := Lib.hid hM
  rw [← hM] at HG hz hc2 ⊢
  clear hM hs2
  by_cases k1 : ix < 0
  · have HR : Hid (r = (0, false)) := Lib.hid (by rw [HG.out, if_pos (.inl k1)])
    clear HG
    go_enter Tryd.func24, Tryd.ntmps24
    go_wp2_with fail
    have XA := Lib.hid (box_new (W := w) (g := w.heap.size) 28 #[.slice A1 N c1, .slice A2 M c2] (by simp))
    have HB := Lib.hid (below_alloc w (.cells #[.slice A1 N c1, .slice A2 M c2] 28))
    generalize w.alloc (.cells #[.slice A1 N c1, .slice A2 M c2] 28) = w1 at *
    refine (CI.out _ (HQ.out.below HB.out)).mono ?_; rintro e w' ⟨rfl, rfl⟩
    have XA_0 := XA.out.at_ 0 _ rfl
    have XA_1 := XA.out.at_ 1 _ rfl
    go_wp2_with fail
    go_ret2
    exact ⟨by rw [HR.out]; rfl, HB.out⟩
  obtain ⟨k, rfl⟩ := Int.eq_ofNat_of_zero_le (show 0 ≤ ix by omega)
  by_cases k2 : M ≤ k
  · have HR : Hid (r = (0, false)) := Lib.hid (by rw [HG.out, if_pos (.inr (by omega))])
    have f1 : ¬ (k : Int) < 0 := by omega
    have f2 : (M : Int) ≤ k := by omega
    clear HG k1
    go_enter Tryd.func24, Tryd.ntmps24
    go_wp2_with fail
    have XA := Lib.hid (box_new (W := w) (g := w.heap.size) 28 #[.slice A1 N c1, .slice A2 M c2] (by simp))
    have HB := Lib.hid (below_alloc w (.cells #[.slice A1 N c1, .slice A2 M c2] 28))
    generalize w.alloc (.cells #[.slice A1 N c1, .slice A2 M c2] 28) = w1 at *
    refine (CI.out _ (HQ.out.below HB.out)).mono ?_; rintro e w' ⟨rfl, rfl⟩
    have XA_0 := XA.out.at_ 0 _ rfl
    have XA_1 := XA.out.at_ 1 _ rfl
    go_wp2_with fail
    go_ret2
    exact ⟨by rw [HR.out]; rfl, HB.out⟩
  · have HR : Hid (r = (zs.getD k 0, true)) := Lib.hid (by rw [HG.out, if_neg (by omega)]; rfl)
    have f1 : ¬ (k : Int) < 0 := by omega
    have f2 : ¬ (M : Int) ≤ k := by omega
    have f3 : (k : Int) < M := by omega
    have f4 : k < M := by omega
    obtain ⟨a2, rfl, hl2, hr2⟩ := HS2.out (by rw [← HM.out]; omega)
    have Q := Lib.hid (fun (W : World) (hW : Below w.heap.size w W) => (show W.cell? (a2.add k) = some (.int .i64 (zs.getD k 0)) by rw [hW.cell (by rw [block_of_add]; exact hl2)]; exact hr2 k (by rw [← HM.out]; exact f4)))
    generalize zs.getD k 0 = z at *
    clear HG k1 hl2 hr2 k2
    go_enter Tryd.func24, Tryd.ntmps24
    go_wp2_with fail
    have XA := Lib.hid (box_new (W := w) (g := w.heap.size) 28 #[.slice A1 N c1, .slice (some a2) M c2] (by simp))
    have HB := Lib.hid (below_alloc w (.cells #[.slice A1 N c1, .slice (some a2) M c2] 28))
    generalize w.alloc (.cells #[.slice A1 N c1, .slice (some a2) M c2] 28) = w1 at *
    refine (CI.out _ (HQ.out.below HB.out)).mono ?_; rintro e w' ⟨rfl, rfl⟩
    have q := Q.out _ HB.out
    have XA_0 := XA.out.at_ 0 _ rfl
    have XA_1 := XA.out.at_ 1 _ rfl
    go_wp2_with fail
    go_ret2
    exact ⟨by rw [HR.out]; rfl, HB.out⟩
end

section
open Go.RowKit
set_option linter.unusedVariables false
set_option linter.unusedSimpArgs false

abbrev Pr := ByteArray × Int
def pr0 : Pr := (⟨#[]⟩, 0)
def pc1 (r : Pr) : List Value := [.string r.1, .int .i64 r.2]
def pcells (l : List Pr) : List Value := (l.map pc1).flatten
theorem pcells_append (l m : List Pr) : pcells (l ++ m) = pcells l ++ pcells m := by simp [pcells]
theorem pcells_len : ∀ (l : List Pr), (pcells l).length = l.length * 2
  | [] => rfl
  | r :: l => by
    have := pcells_len l
    simp only [pcells, List.map_cons, List.flatten_cons, List.length_append, List.length_cons] at this ⊢
    rw [this]; simp [pc1]; omega
theorem pcells_get : ∀ (l : List Pr) (k j : Nat) (u : Value), k < l.length → (pc1 (l.getD k pr0))[j]? = some u → (pcells l)[k * 2 + j]? = some u
  | [], k, j, u, h, _ => absurd h (by simp)
  | r :: l, 0, j, u, _, hj => by
    have hl : j < (pc1 r).length := (List.getElem?_eq_some_iff.1 hj).1
    simp only [pcells, List.map_cons, List.flatten_cons]
    rw [show 0 * 2 + j = j by omega, List.getElem?_append_left hl]
    exact hj
  | r :: l, k + 1, j, u, h, hj => by
    have ih := pcells_get l k j u (by simpa using h) (by simpa using hj)
    simp only [pcells, List.map_cons, List.flatten_cons] at ih ⊢
    rw [List.getElem?_append_right (by simp [pc1]; omega), show (k + 1) * 2 + j - (pc1 r).length = k * 2 + j by simp [pc1]; omega]
    exact ih
/-- A slice value that reads as a list of pairs. -/
def PL (w : World) (v : Value) (l : List Pr) : Prop := ∃ (A : Option Addr) (c : Nat), v = .slice A l.length c ∧ l.length ≤ c ∧ (0 < l.length → ∃ b o, A = some ⟨b, o, none⟩ ∧ b < w.heap.size ∧ ∀ k, k < l.length → w.cell? ⟨b, o + k * 2, none⟩ = some (.string (l.getD k pr0).1) ∧ w.cell? ⟨b, o + k * 2 + 1, none⟩ = some (.int .i64 (l.getD k pr0).2))
theorem PL.nil (w : World) : PL w (.slice none 0 0) [] := ⟨none, 0, rfl, Nat.le_refl _, fun h => absurd h (by simp)⟩
theorem PL.below {w w' : World} {v : Value} {l : List Pr} (h : PL w v l) (hb : Below w.heap.size w w') : PL w' v l := by
  obtain ⟨A, c, rfl, hc, h⟩ := h
  exact ⟨A, c, rfl, hc, fun hl => by
    obtain ⟨b, o, ha, hlt, hs⟩ := h hl
    exact ⟨b, o, ha, Nat.lt_of_lt_of_le hlt hb.size, fun k hk => by
      rw [hb.cell (p := ⟨b, o + k * 2, none⟩) hlt, hb.cell (p := ⟨b, o + k * 2 + 1, none⟩) hlt]; exact hs k hk⟩⟩
theorem PL.of_own {w : World} {base : Nat} {t : TypeId} {v : Value} {n : Nat} {l : List Pr} (h : w.ownsRow base t 2 v n (pcells l)) : PL w v l := by
  have hl : l.length = n := by have := h.1; rw [pcells_len] at this; omega
  have h0 := h
  obtain ⟨_, h2⟩ := h
  rcases h2 with ⟨rfl, h2⟩ | ⟨g, cap, cur, rfl, hg, hh, hnc, hcm, _⟩
  · have : l = [] := List.eq_nil_of_length_eq_zero (by omega)
    subst this
    exact PL.nil w
  · refine ⟨some ⟨g, 0, none⟩, cap, by rw [hl], by omega, fun hp => ⟨g, 0, rfl, ?_, fun k hk => ?_⟩⟩
    · rcases Nat.lt_or_ge g w.heap.size with hlt | hge
      · exact hlt
      · rw [Array.getElem?_eq_none hge] at hh; cases hh
    · have hc := World.ownsRow.cells h0 (g := g) rfl
      have e0 := hc _ _ (pcells_get l k 0 _ hk rfl)
      have e1 := hc _ _ (pcells_get l k 1 _ hk rfl)
      have hadd : ∀ n, (⟨g, 0, none⟩ : Addr).add n = ⟨g, n, none⟩ := fun n => by unfold Addr.add; split <;> simp_all
      rw [hadd] at e0 e1
      rw [Nat.zero_add]
      exact ⟨e0, e1⟩
theorem news2 {w : World} {cs : Array Value} {t : TypeId} : ∀ j u, cs.toList[j]? = some u → (w.alloc (.cells cs t)).cell? ((⟨w.heap.size, 0, none⟩ : Addr).add j) = some u := by
  intro j u hj
  have hadd : (⟨w.heap.size, 0, none⟩ : Addr).add j = ⟨w.heap.size, j, none⟩ := by unfold Addr.add; split <;> simp_all
  rw [hadd]
  have := heap_alloc_new w (.cells cs t)
  rw [cell_of_row _ _ _ cs t (0, 0) this]
  simpa using hj
theorem Box.grownR {w w' : World} {g : Nat} {row : Option Nat} {cs : Array Value} {t : TypeId} (h : Box w g cs t) (hg : w.grownBy w' row) (hne : row ≠ some g) : Box w' g cs t := (hg.block g h.lt (Ne.symm hne)).trans h
theorem news2b {w : World} {o : Obj} {cs : Array Value} {t : TypeId} : ∀ j u, cs.toList[j]? = some u → ((w.alloc o).alloc (.cells cs t)).cell? ((⟨w.heap.size + 1, 0, none⟩ : Addr).add j) = some u := by
  have := news2 (w := w.alloc o) (cs := cs) (t := t)
  rwa [show (w.alloc o).heap.size = w.heap.size + 1 by simp] at this
theorem below_grownB2 {w w2 w3 : World} {b0 base : Nat} {e : TypeId} {size : Nat} {v : Value} {n : Nat} {xs : List Value} {o o2 : Obj} (h : Below b0 w w2) (hs : b0 ≤ w2.heap.size) (hbb : b0 ≤ base) (hown : w2.ownsRow base e size v n xs) (hg : ((w2.alloc o).alloc o2).grownBy w3 v.ownBlock) : Below b0 w w3 :=
  ((h.alloc hs _).alloc (Nat.le_trans hs (by simp)) _).grown hg (Nat.le_trans hs (by simp; omega)) (fun q hq => Nat.le_trans hbb (own_block hown q hq))
theorem Box.grownO2 {w w2 : World} {g base : Nat} {e : TypeId} {size : Nat} {v : Value} {n : Nat} {xs : List Value} {o o2 : Obj} {cs : Array Value} {t : TypeId} (h : Box w g cs t) (hown : w.ownsRow base e size v n xs) (hlt : g < base) (hg : ((w.alloc o).alloc o2).grownBy w2 v.ownBlock) : Box w2 g cs t :=
  ((h.below (below_alloc _ _)).below (below_alloc _ _)).grownR hg (fun hq => by have := own_block hown g hq; omega)
/-- A row of the call's own that lies behind a bound has grown: the worlds below another bound. -/
theorem below_grownB {w w2 w3 : World} {b0 base : Nat} {e : TypeId} {size : Nat} {v : Value} {n : Nat} {xs : List Value} {o : Obj} (h : Below b0 w w2) (hs : b0 ≤ w2.heap.size) (hbb : b0 ≤ base) (hown : w2.ownsRow base e size v n xs) (hg : (w2.alloc o).grownBy w3 v.ownBlock) : Below b0 w w3 :=
  (h.alloc hs _).grown hg (Nat.le_trans hs (by simp)) (fun q hq => Nat.le_trans hbb (own_block hown q hq))
/-- A block below the row's bound stays as it was when the row grows. -/
theorem Box.grownO {w w2 : World} {g base : Nat} {e : TypeId} {size : Nat} {v : Value} {n : Nat} {xs : List Value} {o : Obj} {cs : Array Value} {t : TypeId} (h : Box w g cs t) (hown : w.ownsRow base e size v n xs) (hlt : g < base) (hg : (w.alloc o).grownBy w2 v.ownBlock) : Box w2 g cs t :=
  (h.below (below_alloc _ _)).grownR hg (fun hq => by have := own_block hown g hq; omega)
end

section
open Go.RowKit
set_option linter.unusedVariables false
set_option linter.unusedSimpArgs false

theorem ipair : (Tryd.prog.info? 68).map (fun i => (i.zero, i.size, i.bytes)) = some (some (.agg #[.string ⟨#[]⟩, .int .i64 0]), 2, 24) := by kernel_rfl

/-- The names that have values, with these. -/
def prs (ns : List ByteArray) (zs : List Int) : List Pr := ns.zip zs
theorem prs_len (ns : List ByteArray) (zs : List Int) : (prs ns zs).length = min ns.length zs.length := by simp [prs]
theorem prs_get (ns : List ByteArray) (zs : List Int) (k : Nat) (h1 : k < ns.length) (h2 : k < zs.length) : (prs ns zs).getD k pr0 = (ns.getD k ⟨#[]⟩, zs.getD k 0) := by
  unfold prs
  simp [List.getD_eq_getElem?_getD, List.getElem?_zip_eq_some, List.getElem?_eq_getElem h1, List.getElem?_eq_getElem h2, List.getElem?_eq_getElem (show k < (ns.zip zs).length by simp; omega)]

set_option maxRecDepth 100000 in
set_option maxHeartbeats 8000000 in
theorem txnPairs (w : World) (v1 v2 : Value) (ns : List ByteArray) (zs : List Int) (h1 : SL w v1 ns) (h2 : IL w v2 zs) (hn : ns.length * 24 ≤ 140737488355328) (hz : zs.length ≤ 9223372036854775807) :
    Calls Tryd.prog 53 #[.agg #[v1, v2]] w fun e w' => ∃ v, e = .returned v ∧ (PL w' v (prs ns zs) ∧ Below w.heap.size w w') := by
  obtain ⟨i0, hi, hz0, hz1, hz2⟩ := info_parts ipair
  have HI := Lib.hid hi
  have HZ0 := Lib.hid hz0
  have HZ1 := Lib.hid hz1
  have HZ2 := Lib.hid hz2
  obtain ⟨A1, c1, rfl, hc1, hs1⟩ := h1
  obtain ⟨A2, c2, rfl, hc2, hs2⟩ := h2
  have HS1 := Lib.hid hs1
  have HS2 := Lib.hid hs2
  have hpl := prs_len ns zs
  obtain ⟨N, hN⟩ : ∃ N, N = ns.length := ⟨_, rfl⟩
  obtain ⟨M, hM⟩ : ∃ M, M = zs.length := ⟨_, rfl⟩
  rw [← hN, ← hM] at hpl
  have HPL := Lib.hid hpl
  have HN := Lib.hid hN
  have HMM := Lib.hid hM
  rw [← hN] at hn hc1 ⊢
  rw [← hM] at hz hc2 ⊢
  clear hs1 hs2 hN hM hi hz0 hz1 hz2 hpl
  go_enter Tryd.func53, Tryd.ntmps53
  go_wp2_with fail
  go_loopw [9, 3] (fun i o wr => ∃ (k : Nat) (v0 : Value), k ≤ N ∧ v0 = o ∧ i = .int .i64 k ∧ wr.ownsRow (w.heap.size + 1) 68 2 v0 (min k M) (pcells ((prs ns zs).take k)) ∧ Box wr w.heap.size #[.slice A1 N c1, .slice A2 M c2] 28 ∧ Below w.heap.size w wr) (fun i _ _ => N - (intOf i).toNat)
  case atStart =>
    refine ⟨0, _, Nat.zero_le _, rfl, rfl, ?_, Box.new _ _ _, below_alloc _ _⟩
    rw [Nat.zero_min]; exact World.ownsRow_nil _ _ _ _
  case round =>
    obtain ⟨k, v0, hk, rfl, rfl, hown, hx, hb⟩ := hrel
    have XA := Lib.hid hx
    have HB := Lib.hid hb
    clear hx hb
    by_cases hlt : k < N
    · have hlt2 : (k : Int) < N := by omega
      have hkn : k < ns.length := by rw [← HN.out]; exact hlt
      obtain ⟨a1, rfl, hr1⟩ := HS1.out (by omega)
      have q1 := (hr1.below HB.out).cells k hkn
      by_cases hm : k < M
      · have hkz : k < zs.length := by rw [← HMM.out]; exact hm
        obtain ⟨a2, rfl, hl2, hr2⟩ := HS2.out (by omega)
        have q2 : wr.cell? (a2.add k) = some (.int .i64 (zs.getD k 0)) := by rw [HB.out.cell (by rw [block_of_add]; exact hl2)]; exact hr2 k hkz
        have hmin : min k M = k := by omega
        rw [hmin] at hown
        have HOWN := Lib.hid hown
        have hsu : (prs ns zs).take (k + 1) = (prs ns zs).take k ++ [(ns.getD k ⟨#[]⟩, zs.getD k 0)] := by
          rw [take_snocD _ k pr0 (by rw [HPL.out]; omega), prs_get ns zs k hkn hkz]
        have HSU := Lib.hid hsu
        have HBIG : Hid ((k + 1) * 24 ≤ 140737488355328) := Lib.hid (by omega)
        have f1 : (k : Int) < M := by omega
        generalize ns.getD k ⟨#[]⟩ = s at *
        generalize zs.getD k 0 = z at *
        clear hown hsu hkn hkz hmin hr1 hr2 hl2
        have XA_0 := XA.out.at_ 0 _ rfl
        have XA_1 := XA.out.at_ 1 _ rfl
        go_wp2_with (at_builtin; refine wpList_append_own _ rfl _ _ 65 rfl (w.heap.size + 1) 68 i0 (.agg #[.string ⟨#[]⟩, .int .i64 0]) 2 24 Tryd.underlying65 HI.out HZ0.out HZ1.out HZ2.out rfl (by decide) v0 k (pcells ((prs ns zs).take k)) rfl (HOWN.out.alloc _) ⟨wr.heap.size, 0, none⟩ 1 1 [.string s, .int .i64 z] rfl rfl ?c1 ?c2 ?c3 ?c4 ?c5 ?_)
        case c1 => exact news2
        case c2 => intro u hu; simp at hu; rcases hu with rfl | rfl <;> rfl
        case c3 => unfold maxLen; omega
        case c4 => exact HBIG.out
        case c5 => have := HB.out.size; have := XA.out.lt; simp; omega
        intro v' w5 hown5 hgrow _
        clear XA_0 XA_1
        have HOWN5 : Hid (w5.ownsRow (w.heap.size + 1) 68 2 v' (k + 1) (pcells ((prs ns zs).take (k + 1)))) := by
          rw [HSU.out, pcells_append]; exact hown5
        have HB5 := Lib.hid (below_grownB HB.out HB.out.size (Nat.le_succ _) HOWN.out hgrow)
        have XA5 := Lib.hid (XA.out.grownO HOWN.out (Nat.lt_succ_self _) hgrow)
        clear hown5 hgrow q1 q2
        go_wp2_with fail
        go_roundw
        case rel => exact ⟨k + 1, v', by omega, rfl, by go_num, by rw [show min (k + 1) M = k + 1 by omega]; exact HOWN5.out, XA5.out, HB5.out⟩
        case measure => simp [intOf]; omega
      · have hsu : (prs ns zs).take (k + 1) = (prs ns zs).take k := by
          rw [List.take_of_length_le (by rw [HPL.out]; omega), List.take_of_length_le (by rw [HPL.out]; omega)]
        rw [← hsu, show min k M = min (k + 1) M by omega] at hown
        have HOWN := Lib.hid hown
        have f1 : ¬ (k : Int) < M := by omega
        clear hown hsu hkn hr1
        generalize ns.getD k ⟨#[]⟩ = s at *
        have XA_0 := XA.out.at_ 0 _ rfl
        have XA_1 := XA.out.at_ 1 _ rfl
        go_wp2_with fail
        clear XA_0 XA_1
        clear q1
        go_roundw
        case rel => exact ⟨k + 1, v0, by omega, rfl, by go_num, HOWN.out, XA.out, HB.out⟩
        case measure => simp [intOf]; omega
    · have hkn : k = N := by omega
      have hlt2 : ¬ (k : Int) < N := by omega
      have HPP : Hid (PL wr v0 (prs ns zs)) := by
        have hl : (prs ns zs).length ≤ k := by rw [HPL.out]; omega
        rw [List.take_of_length_le hl] at hown
        exact PL.of_own hown
      clear hown hkn
      go_wp2_with fail
      go_ret
      exact ⟨_, rfl, HPP.out, HB.out⟩
end
end Go.Proofs.YtldafnjbgjagiaaDoor

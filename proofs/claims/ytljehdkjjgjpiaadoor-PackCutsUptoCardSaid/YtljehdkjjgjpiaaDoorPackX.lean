/-
  The laws PackLists and PackPacks: the walks.
-/
import Derived.Test.YtljehdkjjgjpiaaDoorPackW
import Derived.Test.YtljehdkjjgjpiaaDoorRows
import Derived.SliceStrings
import Derived.WideShapes
namespace Go.Proofs.YtljehdkjjgjpiaaDoor
open Go.RowKit Go.WideShapes Go.ChangeShapes

/-- What a list of strings weighs. -/
def bulkS (l : List ByteArray) : Nat := (l.map fun s => s.size + 1).sum
theorem bulkS_take (l : List ByteArray) (k : Nat) : bulkS (l.take k) ≤ bulkS l := by
  unfold bulkS
  conv => rhs; rw [← List.take_append_drop k l]
  rw [List.map_append, List.sum_append]; omega
theorem bulkS_len (l : List ByteArray) : l.length ≤ bulkS l := by
  induction l with
  | nil => simp [bulkS]
  | cons x r ih => simp only [bulkS, List.map_cons, List.sum_cons, List.length_cons] at *; omega
theorem bulkS_mem {l : List ByteArray} {s : ByteArray} (h : s ∈ l) : s.size + 1 ≤ bulkS l := by
  induction l with
  | nil => cases h
  | cons x r ih =>
    simp only [bulkS, List.map_cons, List.sum_cons] at *
    rcases List.mem_cons.1 h with rfl | h
    · omega
    · have := ih h; omega
theorem pList_len (l : List ByteArray) (hl : bulkS l ≤ 1048576) : (pList l).length ≤ 22 + 22 * bulkS l := by
  have key : ∀ r : List ByteArray, bulkS r ≤ 1048576 → ((r.map pText).flatten).length ≤ 22 * bulkS r := by
    intro r
    induction r with
    | nil => intro _; simp [bulkS]
    | cons x r ih =>
      intro h
      have h1 : bulkS (x :: r) = x.size + 1 + bulkS r := by simp [bulkS]
      have h2 := ih (by omega)
      have h3 := pText_len x (by omega)
      simp only [List.map_cons, List.flatten_cons, List.length_append]
      omega
  have := key l hl
  have h4 := pNum_len (l.length : Int) (by omega) (by have := bulkS_len l; omega)
  unfold pList
  rw [List.length_append]
  omega
theorem bulk_strs {H : Type} (l : List ByteArray) : Rows.uptoBulkAll (strs l : List (DataW H)) = bulkS l := by
  induction l with
  | nil => rfl
  | cons x r ih =>
    show Rows.uptoBulkAll (DataW.lit (.string x.data.toList) :: strs r) = _
    simp only [Rows.uptoBulkAll, Rows.uptoBulk, ih]
    simp only [bulkS, List.map_cons, List.sum_cons]
    rw [Lib.size_eq x]
theorem bulkS_append (l m : List ByteArray) : bulkS (l ++ m) = bulkS l + bulkS m := by simp [bulkS, List.sum_append]

/-- An argument that is a slice of strings. -/
theorem arg_strs {H : Type} {enc : TypeId × Value → H} {W : World} {v : Value} {d : DataW H} {p : List MemPlace} {base : Nat} (h : DataW.Trod enc Tryd.prog W 0 (fun _ => true) true 29 v d p) (hv : Value.okWide Tryd.prog W .any base 29 v) :
    ∃ (l : List ByteArray) (A : Option Addr) (c : Nat), v = .slice A l.length c ∧ l.length ≤ c ∧ c ≤ maxLen ∧ (0 < l.length → ∃ a, A = some a ∧ RS W a l) ∧ bulkS l ≤ Rows.uptoBulk d := by
  obtain ⟨a0, len, cap, rfl⟩ := okWide_slice Tryd.underlying29 hv
  obtain ⟨fuel, hf⟩ := h
  rcases open_strings Tryd.underlying29 Tryd.underlying9 (by kernel_rfl) hf with ⟨hcs, hx⟩ | ⟨a, len', cap', ss, hcs, _, hl, hm, hz, hx, hcell, _⟩
  · simp [Value.cells] at hcs
    obtain ⟨rfl, rfl, rfl⟩ := hcs
    exact ⟨[], none, 0, rfl, Nat.le_refl _, by decide, fun h => absurd h (by simp), by simp [bulkS]⟩
  · simp [Value.cells] at hcs
    obtain ⟨rfl, rfl, rfl⟩ := hcs
    simp only [if_true] at hz
    have hlen : (ss.take len).length = len := by rw [List.length_take, hz]; omega
    refine ⟨ss.take len, some a, cap, by rw [hlen], by rw [hlen]; exact hl, hm, fun hp => ⟨a, rfl, ⟨?_, fun j hj => ?_⟩⟩, ?_⟩
    · have := hcell 0 (by omega)
      have h2 := World.block_lt_of_cell? _ _ this
      rwa [block_of_add] at h2
    · rw [hlen] at hj
      rw [hcell j (by omega), List.getD_eq_getElem?_getD, List.getD_eq_getElem?_getD, List.getElem?_take_of_lt hj]
      rfl
    · simp only [Prod.mk.injEq] at hx
      rw [hx.1]
      simp only [Rows.uptoBulk, bulk_strs]
      have := bulkS_append (ss.take len) (ss.drop len)
      rw [List.take_append_drop] at this
      omega

set_option maxHeartbeats 1000000 in
/-- At most 30 texts. -/
theorem lawCut (w : World) (l : List ByteArray) (A : Option Addr) (c : Nat) (hc : l.length ≤ c) (hm : c ≤ maxLen) :
    Calls Tryd.prog 18 #[.slice A l.length c] w fun e w' => e = .returned (.slice A (l.take 30).length c) ∧ w = w' := by
  unfold maxLen at hm
  by_cases h : 30 < l.length
  · have e : (l.take 30).length = 30 := by rw [List.length_take]; omega
    have H := Lib.hid e
    have hne : (30 : Int) < l.length := by omega
    clear e
    go_enter Tryd.func18, Tryd.ntmps18
    go_wp2_with fail
    go_ret
    exact ⟨by rw [H.out]; rfl, rfl⟩
  · have e : (l.take 30).length = l.length := by rw [List.length_take]; omega
    have H := Lib.hid e
    clear e
    go_enter Tryd.func18, Tryd.ntmps18
    go_wp2_with fail
    go_ret
    exact ⟨by rw [H.out]; rfl, rfl⟩

theorem RS.take {w : World} {a : Addr} {l : List ByteArray} (h : RS w a l) (k : Nat) : RS w a (l.take k) :=
  ⟨h.lt, fun j hj => by
    have hj' : j < l.length := by rw [List.length_take] at hj; omega
    have hk : j < k := by rw [List.length_take] at hj; omega
    rw [h.cells j hj', List.getD_eq_getElem?_getD, List.getD_eq_getElem?_getD, List.getElem?_take_of_lt hk]⟩

theorem tlRun_len {s : ByteArray} : ∀ (k : Nat) (a : Int) (acc : List ByteArray), a ≤ s.size → ((tlRun s k a acc).1.length : Int) ≤ acc.length + (if a ≤ s.size then (s.size : Int) - a else 0) + 0 ∨ (tlRun s k a acc).1 = []
  | 0, a, acc, h => by left; simp [tlRun]; split <;> omega
  | k + 1, a, acc, h => by
    by_cases he : (tt s a).2.2 = 0
    · rw [tlRun_go he]
      obtain ⟨t0, t1, t2⟩ := tt_ok he
      rcases tlRun_len k (tt s a).2.1 (acc ++ [(tt s a).1]) t2 with h | h
      · left
        rw [if_pos t2] at h
        rw [if_pos (by omega)]
        simp only [List.length_append, List.length_cons, List.length_nil] at h
        omega
      · exact .inr h
    · rw [tlRun_err he]; exact .inr rfl
theorem tl_len (s : ByteArray) (a most : Int) (hs : s.size ≤ 4611686018427387904) : (tl s a most).1.length ≤ 4611686018427387904 := by
  unfold tl
  split
  · simp
  · split
    · simp
    · split
      · simp
      · split
        · simp
        · obtain ⟨_, _, b0, b1⟩ := tn_bd s a (by omega)
          rcases tlRun_len (s := s) (tn s a).1.toNat (tn s a).2.1 [] b1 with h | h
          · rw [if_pos b1] at h; simp at h; omega
          · rw [h]; simp

set_option maxHeartbeats 1000000 in
theorem walkPackLists (s : ByteArray) (ws : s.size ≤ maxLen) (bs : s.size ≤ 1048576) (at_ : Int) (wa : I64 at_) (most : Int) (wm : I64 most) (w : World) (ht : Tab w) :
    Calls Tryd.prog 5 #[.string s, .int .i64 at_, .int .i64 most] w fun e w' => e = .returned (.bool true) ∧ Below w.heap.size w w' := by
  obtain ⟨h0, h1⟩ := wa
  obtain ⟨m0, m1⟩ := wm
  have c1 : ∀ w, Calls Tryd.prog 15 #[.string s, .int .i64 at_, .int .i64 most] w (TL w (tl s at_ most)) := fun w => packTakeList s at_ most w ws h0 h1 m0 m1 (.inl (by omega))
  have c2 : ∀ w, Calls Tryd.prog 16 #[.string s, .int .i64 at_, .int .i64 most] w (TL w (tl s at_ most)) := fun w => refTakeList s at_ most w ws h0 h1 m0 m1 (.inl (by omega))
  have hlen := tl_len s at_ most (by omega)
  generalize tl s at_ most = r at *
  obtain ⟨t, i, e⟩ := r
  have C1 := Lib.hid c1
  have C2 := Lib.hid c2
  have HT := Lib.hid ht
  have HL := Lib.hid hlen
  clear c1 c2 ht hlen
  go_enter Tryd.func5, Tryd.ntmps5
  go_wp2_with fail
  refine (C1.out _).mono ?_; rintro e1 w1 ⟨v1, rfl, hsl, hb⟩
  have HB1 := Lib.hid hb
  have HS1 := Lib.hid hsl
  clear hb hsl
  go_wp2_with fail
  refine (C2.out _).mono ?_; rintro e2 w2 ⟨v2, rfl, hsl, hb⟩
  have HB2 : Hid (Below w.heap.size w w2) := HB1.out.trans (hb.mono HB1.out.size)
  have HS2 := Lib.hid hsl
  have HS1' : Hid (SL w2 v1 t) := HS1.out.below hb
  clear hb hsl
  go_wp2_with fail
  refine (refSame _ v1 v2 t HS1'.out HS2.out (by have := HL.out; omega)).mono ?_; rintro e3 w3 ⟨rfl, n, rfl⟩
  go_wp2_with fail
  refine (awake _ ((HT.out.below HB2.out).drewN n)).mono ?_; rintro e4 w4 ⟨rfl, hb⟩
  have HB4 : Hid (Below w.heap.size w w4) := (below_drewN HB2.out n).trans (hb.mono HB2.out.size)
  clear hb
  go_wp2_with fail
  go_ret
  exact ⟨rfl, HB4.out⟩

set_option maxRecDepth 100000 in
set_option maxHeartbeats 1000000 in
theorem walkPackPacks (s : ByteArray) (_ws : s.size ≤ maxLen) (bs : s.size ≤ 1048576) (n : Int) (wn : I64 n) {H : Type} {enc : TypeId × Value → H} {base : Nat} (v : Value) (d : DataW H) (p : List MemPlace) (w : World)
    (h : DataW.Trod enc Tryd.prog w 0 (fun _ => true) true 29 v d p) (hv : Value.okWide Tryd.prog w .any base 29 v) (bd : Rows.uptoBulk d ≤ 1048576) (ht : Tab w) :
    Calls Tryd.prog 6 #[.string s, .int .i64 n, v] w fun e w' => e = .returned (.bool true) ∧ Below w.heap.size w w' := by
  obtain ⟨n0, n1⟩ := wn
  obtain ⟨l, A, c, rfl, hc, hm, hrs, hbk⟩ := arg_strs h hv
  have ccut := fun w => lawCut w l A c hc hm
  obtain ⟨l2, hl2⟩ : ∃ l2, l2 = l.take 30 := ⟨_, rfl⟩
  have hb2 : bulkS l2 ≤ 1048576 := by rw [hl2]; exact Nat.le_trans (bulkS_take l 30) (by omega)
  have hrs2 : 0 < l2.length → ∃ a, A = some a ∧ RS w a l2 := fun hp => by
    obtain ⟨a, ha, hr⟩ := hrs (by rw [hl2, List.length_take] at hp; omega)
    exact ⟨a, ha, by rw [hl2]; exact hr.take 30⟩
  rw [← hl2] at ccut
  have hpl := pList_len l2 hb2
  have hll := bulkS_len l2
  have hpt := pText_len s (by omega)
  have ct1 : ∀ w, Tab w → Calls Tryd.prog 19 #[.string s] w fun e w' => e = .returned (.string (mkS (pText s))) ∧ Below w.heap.size w w' := fun w h => packText w s (by omega) h
  have ct2 : ∀ w, Calls Tryd.prog 20 #[.string s] w fun e w' => e = .returned (.string (mkS (pText s))) ∧ Below w.heap.size w w' := fun w => refText w s (by omega)
  have cn1 : ∀ w, Tab w → Calls Tryd.prog 21 #[.int .i64 n] w fun e w' => e = .returned (.string (mkS (pNum n))) ∧ Below w.heap.size w w' := fun w h => packNumber w n n0 n1 h
  have cn2 : ∀ w, Calls Tryd.prog 22 #[.int .i64 n] w fun e w' => e = .returned (.string (mkS (pNum n))) ∧ Below w.heap.size w w' := fun w => refNumber w n n0 n1
  have cl1 : ∀ w1, Below w.heap.size w w1 → Tab w1 → Calls Tryd.prog 23 #[.slice A l2.length c] w1 fun e w' => e = .returned (.string (mkS (pList l2))) ∧ Below w1.heap.size w1 w' := fun w1 hb ht => by
    exact packList w1 A l2 c (fun hp => by obtain ⟨a, ha, hr⟩ := hrs2 hp; exact ⟨a, ha, hr.below hb⟩) (by omega) (by omega) ht
  have cl2 : ∀ w1, Below w.heap.size w w1 → Calls Tryd.prog 24 #[.slice A l2.length c] w1 fun e w' => e = .returned (.string (mkS (pList l2))) ∧ Below w1.heap.size w1 w' := fun w1 hb => by
    exact refList w1 A l2 c (fun hp => by obtain ⟨a, ha, hr⟩ := hrs2 hp; exact ⟨a, ha, hr.below hb⟩) (by omega) (by omega)
  generalize mkS (pText s) = x1 at *
  generalize mkS (pNum n) = x2 at *
  generalize mkS (pList l2) = x3 at *
  have CCUT := Lib.hid ccut
  have CT1 := Lib.hid ct1
  have CT2 := Lib.hid ct2
  have CN1 := Lib.hid cn1
  have CN2 := Lib.hid cn2
  have CL1 := Lib.hid cl1
  have CL2 := Lib.hid cl2
  have HT := Lib.hid ht
  clear ccut ct1 ct2 cn1 cn2 cl1 cl2 ht hl2 hrs hrs2 h hv hbk hb2 hpl hpt bd
  go_enter Tryd.func6, Tryd.ntmps6
  go_wp2_with fail
  refine (CCUT.out _).mono ?_; rintro e w' ⟨rfl, rfl⟩
  go_wp2_with fail
  refine (CT1.out _ HT.out).mono ?_; rintro e w1 ⟨rfl, hb⟩
  have HB1 : Hid (Below w.heap.size w w1) := hb
  clear hb
  go_wp2_with fail
  refine (CT2.out _).mono ?_; rintro e w2 ⟨rfl, hb⟩
  have HB2 : Hid (Below w.heap.size w w2) := HB1.out.trans (hb.mono HB1.out.size)
  clear hb
  go_wp2_with fail
  refine (CN1.out _ (HT.out.below HB2.out)).mono ?_; rintro e w3 ⟨rfl, hb⟩
  have HB3 : Hid (Below w.heap.size w w3) := HB2.out.trans (hb.mono HB2.out.size)
  clear hb
  go_wp2_with fail
  refine (CN2.out _).mono ?_; rintro e w4 ⟨rfl, hb⟩
  have HB4 : Hid (Below w.heap.size w w4) := HB3.out.trans (hb.mono HB3.out.size)
  clear hb
  go_wp2_with fail
  refine (CL1.out _ HB4.out (HT.out.below HB4.out)).mono ?_; rintro e w5 ⟨rfl, hb⟩
  have HB5 : Hid (Below w.heap.size w w5) := HB4.out.trans (hb.mono HB4.out.size)
  clear hb
  go_wp2_with fail
  refine (CL2.out _ HB5.out).mono ?_; rintro e w6 ⟨rfl, hb⟩
  have HB6 : Hid (Below w.heap.size w w6) := HB5.out.trans (hb.mono HB5.out.size)
  clear hb
  go_wp2_with fail
  refine (awake _ (HT.out.below HB6.out)).mono ?_; rintro e w7 ⟨rfl, hb⟩
  have HB7 : Hid (Below w.heap.size w w7) := HB6.out.trans (hb.mono HB6.out.size)
  clear hb
  go_wp2_with fail
  go_ret
  exact ⟨rfl, HB7.out⟩

end Go.Proofs.YtljehdkjjgjpiaaDoor

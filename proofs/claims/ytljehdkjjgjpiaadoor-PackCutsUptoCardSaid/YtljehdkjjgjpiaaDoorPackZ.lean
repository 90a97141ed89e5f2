/-
  The laws PackRoundTrips and PackCuts: the walks.
-/
import Derived.Test.YtljehdkjjgjpiaaDoorPackX
import Derived.Test.YtljehdkjjgjpiaaDoorPackP
import Derived.Test.YtljehdkjjgjpiaaDoorOpen
namespace Go.Proofs.YtljehdkjjgjpiaaDoor
open Go.RowKit Go.WideShapes Go.ChangeShapes Go.Deep

/-- The argument of the laws: two texts, a number, a list, an offset. -/
theorem arg_forms {H : Type} {enc : TypeId × Value → H} {W : World} {v : Value} {d : DataW H} {p : List MemPlace} {base : Nat} (h : DataW.Trod enc Tryd.prog W 0 (fun _ => true) true 41 v d p) (hv : Value.okWide Tryd.prog W .any base 41 v) :
    ∃ (s1 s2 : ByteArray) (n m : Int) (l : List ByteArray) (A : Option Addr) (c : Nat), v = .agg #[.string s1, .string s2, .int .i64 n, .slice A l.length c, .int .u16 m] ∧ I64 n ∧ (0 ≤ m ∧ m ≤ 65535) ∧ l.length ≤ c ∧ c ≤ maxLen ∧ (0 < l.length → ∃ a, A = some a ∧ RS W a l) ∧ s1.size + s2.size + bulkS l ≤ Rows.uptoBulk d := by
  obtain ⟨cs, ys, n, rfl, rfl, rfl, hcl, hyl, hf⟩ := open_struct Tryd.underlying41 (by kernel_rfl) (by kernel_rfl) hv h
  obtain ⟨c0, y0, e0, f0, h0⟩ := hf 0 _ rfl
  obtain ⟨c1, y1, e1, f1, h1⟩ := hf 1 _ rfl
  obtain ⟨c2, y2, e2, f2, h2⟩ := hf 2 _ rfl
  obtain ⟨c3, y3, e3, f3, h3⟩ := hf 3 _ rfl
  obtain ⟨c4, y4, e4, f4, h4⟩ := hf 4 _ rfl
  obtain rfl : cs = [c0, c1, c2, c3, c4] := by
    match cs, hcl with
    | [_, _, _, _, _], _ => simp at e0 e1 e2 e3 e4; rw [e0, e1, e2, e3, e4]
  obtain rfl : ys = [y0, y1, y2, y3, y4] := by
    match ys, hyl with
    | [_, _, _, _, _], _ => simp at f0 f1 f2 f3 f4; rw [f0, f1, f2, f3, f4]
  obtain ⟨s1, r0, rfl, z0⟩ := DataW.trod_string Tryd.underlying9 h0
  obtain ⟨s2, r1, rfl, z1⟩ := DataW.trod_string Tryd.underlying9 h1
  obtain ⟨k, r2, rfl, z2⟩ := DataW.trod_int Tryd.underlying3 h2
  obtain ⟨m, r4, rfl, z4⟩ := DataW.trod_int Tryd.underlying39 h4
  simp only [List.cons.injEq, and_true] at r0 r1 r2 r4
  subst r0 r1 r2 r4
  have b2 := bounds_i64 z2
  have b4 := bounds_u16 z4
  have hb : Rows.uptoBulk (DataW.agg ([(DataW.lit (.string s1.data.toList), []), (DataW.lit (.string s2.data.toList), []), (DataW.lit (.int .i64 k), []), y3, (DataW.lit (.int .u16 m), ([] : List MemPlace))].map (·.1)) : DataW H) = s1.size + s2.size + Rows.uptoBulk y3.1 + 5 := by
    simp only [List.map_cons, List.map_nil, Rows.uptoBulk, Rows.uptoBulkAll]
    rw [Lib.size_eq s1, Lib.size_eq s2]
    omega
  rw [hb]
  clear hb
  rcases open_strings Tryd.underlying29 Tryd.underlying9 (by kernel_rfl) h3 with ⟨hcs, hx⟩ | ⟨a, len', cap', ss, hcs, _, hl, hm, hz, hx, hcell, _⟩
  · simp only [List.cons.injEq, and_true] at hcs
    subst hcs
    exact ⟨s1, s2, k, m, [], none, 0, rfl, b2, b4, Nat.le_refl _, by decide, fun h => absurd h (by simp), by simp [bulkS]; omega⟩
  · simp only [List.cons.injEq, and_true] at hcs
    subst hcs
    simp only [if_true] at hz
    have hlen : (ss.take len').length = len' := by rw [List.length_take, hz]; omega
    refine ⟨s1, s2, k, m, ss.take len', some a, cap', by rw [hlen], b2, b4, by rw [hlen]; exact hl, hm, fun hp => ⟨a, rfl, ⟨?_, fun j hj => ?_⟩⟩, ?_⟩
    · have := hcell 0 (by omega)
      have h2 := World.block_lt_of_cell? _ _ this
      rwa [block_of_add] at h2
    · rw [hlen] at hj
      rw [hcell j (by omega), List.getD_eq_getElem?_getD, List.getD_eq_getElem?_getD, List.getElem?_take_of_lt hj]
      rfl
    · rw [hx]
      simp only [Rows.uptoBulk, bulk_strs]
      have := bulkS_append (ss.take len') (ss.drop len')
      rw [List.take_append_drop] at this
      omega

theorem mkS_bl (s : ByteArray) : mkS (bl s) = s := toS_eq (by show (mkS _).data.toList = _; rw [mkS_data])
theorem bl_mkS (l : List UInt8) : bl (mkS l) = l := mkS_data l
theorem bl_append (a b : ByteArray) : bl (a ++ b) = bl a ++ bl b := by simp [bl]

set_option maxRecDepth 100000 in
set_option maxHeartbeats 4000000 in
theorem walkPackRoundTrips {H : Type} {enc : TypeId × Value → H} {base : Nat} (v : Value) (d : DataW H) (p : List MemPlace) (w : World)
    (h : DataW.Trod enc Tryd.prog w 0 (fun _ => true) true 41 v d p) (hv : Value.okWide Tryd.prog w .any base 41 v) (bd : Rows.uptoBulk d ≤ 1048576) (ht : Tab w) :
    Calls Tryd.prog 7 #[v] w fun e w' => e = .returned (.bool true) ∧ Below w.heap.size w w' := by
  obtain ⟨s1, s2, n, m, l, A, c, rfl, ⟨n0, n1⟩, _, hc, hm, hrs, hbk⟩ := arg_forms h hv
  have ccut := fun w => lawCut w l A c hc hm
  obtain ⟨l2, hl2⟩ : ∃ l2, l2 = l.take 30 := ⟨_, rfl⟩
  have hb2 : bulkS l2 ≤ 1048576 := by rw [hl2]; exact Nat.le_trans (bulkS_take l 30) (by omega)
  have hrs2 : 0 < l2.length → ∃ a, A = some a ∧ RS w a l2 := fun hp => by
    obtain ⟨a, ha, hr⟩ := hrs (by rw [hl2, List.length_take] at hp; omega)
    exact ⟨a, ha, by rw [hl2]; exact hr.take 30⟩
  have hl2c : l2.length ≤ c := by rw [hl2, List.length_take]; omega
  rw [← hl2] at ccut
  have hpl := pList_len l2 hb2
  have hll := bulkS_len l2
  have hmem : ∀ t ∈ l2, t.size ≤ 9223372036854775807 := fun t ht => by have := bulkS_mem ht; omega
  have hpt := pText_len s1 (by omega)
  have hpn := pNum_len n n0 n1
  have ct1 : ∀ w, Tab w → Calls Tryd.prog 19 #[.string s1] w fun e w' => e = .returned (.string (mkS (pText s1))) ∧ Below w.heap.size w w' := fun w h => packText w s1 (by omega) h
  have cn1 : ∀ w, Tab w → Calls Tryd.prog 21 #[.int .i64 n] w fun e w' => e = .returned (.string (mkS (pNum n))) ∧ Below w.heap.size w w' := fun w h => packNumber w n n0 n1 h
  have cl1 : ∀ w1, Below w.heap.size w w1 → Tab w1 → Calls Tryd.prog 23 #[.slice A l2.length c] w1 fun e w' => e = .returned (.string (mkS (pList l2))) ∧ Below w1.heap.size w1 w' := fun w1 hb ht => by
    exact packList w1 A l2 c (fun hp => by obtain ⟨a, ha, hr⟩ := hrs2 hp; exact ⟨a, ha, hr.below hb⟩) (by omega) (by omega) ht
  obtain ⟨y1, e1⟩ : ∃ y, y = mkS (pText s1) := ⟨_, rfl⟩
  obtain ⟨y2, e2⟩ : ∃ y, y = mkS (pNum n) := ⟨_, rfl⟩
  obtain ⟨y3, e3⟩ : ∃ y, y = mkS (pList l2) := ⟨_, rfl⟩
  rw [← e1] at ct1
  rw [← e2] at cn1
  rw [← e3] at cl1
  have z1 : y1.size = (pText s1).length := by rw [e1, mkS_size]
  have z2 : y2.size = (pNum n).length := by rw [e2, mkS_size]
  have z3 : y3.size = (pList l2).length := by rw [e3, mkS_size]
  have hS : bl (s1 ++ y1 ++ y2 ++ y3 ++ s2) = bl s1 ++ (pText s1 ++ (pNum n ++ (pList l2 ++ bl s2))) := by
    rw [bl_append, bl_append, bl_append, bl_append, e1, e2, e3, bl_mkS, bl_mkS, bl_mkS]; simp
  have hSz : (s1 ++ y1 ++ y2 ++ y3 ++ s2).size = s1.size + y1.size + y2.size + y3.size + s2.size := by simp
  obtain ⟨S, hSS⟩ : ∃ S, S = s1 ++ y1 ++ y2 ++ y3 ++ s2 := ⟨_, rfl⟩
  rw [← hSS] at hS hSz
  have k1 := tt_text (s := S) (p := bl s1) (by omega) hS
  have k2 := tn_num (s := S) (p := bl s1 ++ pText s1) (q := pList l2 ++ bl s2) n0 n1 (by rw [hS]; simp)
  have k3 := tl_list (s := S) (p := bl s1 ++ pText s1 ++ pNum n) (q := bl s2) (ss := l2) (most := l2.length) hmem (by omega) (by omega) (by rw [hS]; simp)
  simp only [List.length_append, bl_len, ← z1, ← z2, ← z3] at k1 k2 k3
  have hSm : S.size ≤ 4611686018427387904 := by omega
  have t1 : ∀ w, Calls Tryd.prog 10 #[.string S, .int .i64 s1.size] w fun e w' => e = .returned (.tuple #[.string s1, .int .i64 ((s1.size + y1.size : Nat) : Int), .int .i64 0]) ∧ Below w.heap.size w w' := fun w => by
    have := packTakeText S s1.size w (by unfold maxLen; omega) (by omega) (by omega)
    rw [k1] at this; exact this
  have t2 : ∀ w, Calls Tryd.prog 13 #[.string S, .int .i64 ((s1.size + y1.size : Nat) : Int)] w fun e w' => e = .returned (.tuple #[.int .i64 n, .int .i64 ((s1.size + y1.size + y2.size : Nat) : Int), .int .i64 0]) ∧ Below w.heap.size w w' := fun w => by
    have := packTakeNumber S ((s1.size + y1.size : Nat) : Int) w (by unfold maxLen; omega) (by omega) (by omega)
    rw [k2] at this; exact this
  have t3 : ∀ w, Calls Tryd.prog 15 #[.string S, .int .i64 ((s1.size + y1.size + y2.size : Nat) : Int), .int .i64 l2.length] w (TL w (l2, ((s1.size + y1.size + y2.size + y3.size : Nat) : Int), 0)) := fun w => by
    have := packTakeList S ((s1.size + y1.size + y2.size : Nat) : Int) l2.length w (by unfold maxLen; omega) (by omega) (by omega) (by omega) (by omega) (.inl (by omega))
    rw [k3] at this; exact this
  have hd : ∃ N0 N1 N2 N3 N4 : Nat, N0 = s1.size ∧ N1 = y1.size ∧ N2 = y2.size ∧ N3 = y3.size ∧ N4 = s2.size := ⟨_, _, _, _, _, rfl, rfl, rfl, rfl, rfl⟩
  have b1 : ¬ 9223372036854775807 < s1.size + y1.size := by omega
  have b2 : ¬ 9223372036854775807 < s1.size + y1.size + y2.size := by omega
  have b3 : ¬ 9223372036854775807 < s1.size + y1.size + y2.size + y3.size := by omega
  have b4 : ¬ 9223372036854775807 < s1.size + y1.size + y2.size + y3.size + s2.size := by omega
  have q2 : ((s1.size : Int) + (y1.size : Int) + (y2.size : Int) + (y3.size : Int) == (S.size : Int) - (s2.size : Int)) = true := by simp; omega
  have hl9 : l2.length ≤ 1048576 := by omega
  have CCUT := Lib.hid ccut
  have CT1 := Lib.hid ct1
  have CN1 := Lib.hid cn1
  have CL1 := Lib.hid cl1
  have T1 := Lib.hid t1
  have T2 := Lib.hid t2
  have T3 := Lib.hid t3
  have HT := Lib.hid ht
  have HSS := Lib.hid hSS
  have HRS := Lib.hid hrs2
  have HLC := Lib.hid hl2c
  have u1 : (s1.size : Int) ≤ 4611686018427387904 := by omega
  have u2 : (y1.size : Int) ≤ 4611686018427387904 := by omega
  have u3 : (S.size : Int) ≤ 4611686018427387904 := by omega
  have u4 : (s2.size : Int) ≤ 4611686018427387904 := by omega
  clear ccut ct1 cn1 cl1 t1 t2 t3 ht hSS hl2 hrs hrs2 hbk hb2 hpl hpt hpn k1 k2 k3 z1 z2 z3 hS hSz hd hmem e1 e2 e3 h hv bd hl2c
  go_enter Tryd.func7, Tryd.ntmps7
  go_wp2_with fail
  refine (CCUT.out _).mono ?_; rintro e w' ⟨rfl, rfl⟩
  go_wp2_with fail
  have X0 : Hid (Box (w.alloc (.cells #[.string s1, .string s2, .int .i64 n, .slice A l.length c, .int .u16 m] 41)) w.heap.size #[.string s1, .string s2, .int .i64 n, .slice A l.length c, .int .u16 m] 41) := Lib.hid (Box.new _ _ _)
  have HB0 : Hid (Below w.heap.size w (w.alloc (.cells #[.string s1, .string s2, .int .i64 n, .slice A l.length c, .int .u16 m] 41))) := Lib.hid (below_alloc _ _)
  refine (CT1.out _ (HT.out.below HB0.out)).mono ?_; rintro e w1 ⟨rfl, hb⟩
  have HB1 : Hid (Below w.heap.size w w1) := below_step HB0.out hb
  have X1 := Lib.hid (X0.out.below hb)
  clear hb HB0 X0
  have L1 : Hid (∀ p : Lat w1, Tab p.w ∧ Below w.heap.size w p.w) := fun p => ⟨HT.out.below (below_step HB1.out p.h), below_step HB1.out p.h⟩
  have g0 := X1.out.lat 0 _ rfl
  have g1 := X1.out.lat 1 _ rfl
  have g2 := X1.out.lat 2 _ rfl
  go_wp2_with fail
  refine wp_region_lat (by kernel_rfl) (by kernel_rfl) ?_
  repeat (go_big_quiet_step (first | exact lat_call (CN1.out _ (L1.out _).1) | exact lat_call (CL1.out _ (L1.out _).2 (L1.out _).1)))
  refine wpQuiet_nil ?_
  intro w2 hb2
  have HB2 : Hid (Below w.heap.size w w2) := below_step HB1.out hb2
  have X2 := Lib.hid (X1.out.below hb2)
  clear hb2 L1 g0 g1 g2 HB1 X1
  rw [← HSS.out]
  have g0 := X2.out.at_ 0 _ rfl
  go_wp2_with fail
  refine (T1.out _).mono ?_; rintro e w3 ⟨rfl, hb⟩
  have HB3 : Hid (Below w.heap.size w w3) := below_step HB2.out hb
  have X3 := Lib.hid (X2.out.below hb)
  clear hb HB2 X2 g0
  go_wp2_with fail
  refine (T2.out _).mono ?_; rintro e w4 ⟨rfl, hb⟩
  have HB4 : Hid (Below w.heap.size w w4) := below_step HB3.out hb
  have X4 := Lib.hid (X3.out.below hb)
  clear hb HB3 X3
  go_wp2_with fail
  refine (T3.out _).mono ?_; rintro e w5 ⟨v5, rfl, hsl, hb⟩
  have HB5 : Hid (Below w.heap.size w w5) := below_step HB4.out hb
  have X5 := Lib.hid (X4.out.below hb)
  have HSL := Lib.hid hsl
  clear hb HB4 X4 hsl
  have g0 := X5.out.at_ 0 _ rfl
  have g1 := X5.out.at_ 1 _ rfl
  have g2 := X5.out.at_ 2 _ rfl
  go_wp2_with fail
  refine (refSame _ v5 _ l2 HSL.out ⟨A, c, rfl, HLC.out, fun hp => by obtain ⟨a, ha, hr⟩ := HRS.out hp; exact ⟨a, ha, hr.below HB5.out⟩⟩ (by omega)).mono ?_; rintro e w6 ⟨rfl, n6, rfl⟩
  go_wp2_with fail
  refine (awake _ (HT.out.below (below_drewN HB5.out n6))).mono ?_; rintro e w7 ⟨rfl, hb⟩
  have HB7 : Hid (Below w.heap.size w w7) := below_step (below_drewN HB5.out n6) hb
  clear hb
  go_wp2_with fail
  go_ret
  exact ⟨rfl, HB7.out⟩

theorem ne0b {n : Nat} (h : 0 < n) : ((n : Int) == 0) = false ∧ (n == 0) = false := by
  have h0 : ¬ (n = 0) := by omega
  exact ⟨by simpa using h0, by simpa using h0⟩

/-- A prefix of a packed form, as bytes. -/
theorem bl_pre {y : ByteArray} {l : List UInt8} {k : Nat} (h : y = mkS l) : bl (y.extract 0 k) = l.take k := by
  rw [bl_extract, h, bl_mkS]; simp

set_option maxRecDepth 100000 in
set_option maxHeartbeats 4000000 in
theorem walkPackCuts {H : Type} {enc : TypeId × Value → H} {base : Nat} (v : Value) (d : DataW H) (p : List MemPlace) (w : World)
    (h : DataW.Trod enc Tryd.prog w 0 (fun _ => true) true 41 v d p) (hv : Value.okWide Tryd.prog w .any base 41 v) (bd : Rows.uptoBulk d ≤ 1048576) (ht : Tab w) :
    Calls Tryd.prog 9 #[v] w fun e w' => e = .returned (.bool true) ∧ Below w.heap.size w w' := by
  obtain ⟨s1, s2, n, m, l, A, c, rfl, ⟨n0, n1⟩, ⟨m0, m1⟩, hc, hm, hrs, hbk⟩ := arg_forms h hv
  obtain ⟨m, rfl⟩ := Int.eq_ofNat_of_zero_le m0
  have ccut := fun w => lawCut w l A c hc hm
  obtain ⟨l2, hl2⟩ : ∃ l2, l2 = l.take 30 := ⟨_, rfl⟩
  have hb2 : bulkS l2 ≤ 1048576 := by rw [hl2]; exact Nat.le_trans (bulkS_take l 30) (by omega)
  have hrs2 : 0 < l2.length → ∃ a, A = some a ∧ RS w a l2 := fun hp => by
    obtain ⟨a, ha, hr⟩ := hrs (by rw [hl2, List.length_take] at hp; omega)
    exact ⟨a, ha, by rw [hl2]; exact hr.take 30⟩
  rw [← hl2] at ccut
  have hpl := pList_len l2 hb2
  have hll := bulkS_len l2
  have hmem : ∀ t ∈ l2, t.size ≤ 9223372036854775807 := fun t ht => by have := bulkS_mem ht; omega
  have hpt := pText_len s1 (by omega)
  have hpn := pNum_len n n0 n1
  have ct1 : ∀ w, Tab w → Calls Tryd.prog 19 #[.string s1] w fun e w' => e = .returned (.string (mkS (pText s1))) ∧ Below w.heap.size w w' := fun w h => packText w s1 (by omega) h
  have cn1 : ∀ w, Tab w → Calls Tryd.prog 21 #[.int .i64 n] w fun e w' => e = .returned (.string (mkS (pNum n))) ∧ Below w.heap.size w w' := fun w h => packNumber w n n0 n1 h
  have cl1 : ∀ w1, Below w.heap.size w w1 → Tab w1 → Calls Tryd.prog 23 #[.slice A l2.length c] w1 fun e w' => e = .returned (.string (mkS (pList l2))) ∧ Below w1.heap.size w1 w' := fun w1 hb ht => by
    exact packList w1 A l2 c (fun hp => by obtain ⟨a, ha, hr⟩ := hrs2 hp; exact ⟨a, ha, hr.below hb⟩) (by omega) (by omega) ht
  obtain ⟨y1, e1⟩ : ∃ y, y = mkS (pText s1) := ⟨_, rfl⟩
  obtain ⟨y2, e2⟩ : ∃ y, y = mkS (pNum n) := ⟨_, rfl⟩
  obtain ⟨y3, e3⟩ : ∃ y, y = mkS (pList l2) := ⟨_, rfl⟩
  rw [← e1] at ct1
  rw [← e2] at cn1
  rw [← e3] at cl1
  have z1 : y1.size = (pText s1).length := by rw [e1, mkS_size]
  have z2 : y2.size = (pNum n).length := by rw [e2, mkS_size]
  have z3 : y3.size = (pList l2).length := by rw [e3, mkS_size]
  have p1 : 0 < (pText s1).length := by unfold pText; simp; omega
  have p2 : 0 < (pNum n).length := by unfold pNum; simp
  have p3 : 0 < (pList l2).length := by unfold pList pNum; simp; omega
  have r1 : m % y1.size < y1.size := Nat.mod_lt _ (by omega)
  have r2 : m % y2.size < y2.size := Nat.mod_lt _ (by omega)
  have r3 : m % y3.size < y3.size := Nat.mod_lt _ (by omega)
  have k1 : (tt (y1.extract 0 (m % y1.size)) 0).2.2 = 6 := tt_cut (p := []) (t := s1) (k := m % y1.size) (by omega) (by omega) (by rw [bl_pre e1]; rfl)
  have k2 : (tn (y2.extract 0 (m % y2.size)) 0).2.2 = 6 := tn_cut (p := []) (n := n) (k := m % y2.size) (by omega) (by rw [bl_pre e2]; rfl)
  have k3 : (tl (y3.extract 0 (m % y3.size)) 0 l2.length).2.2 = 6 := tl_cut (ss := l2) (k := m % y3.size) hmem (by omega) (by omega) (by omega) (by rw [bl_pre e3])
  have x1 : (y1.extract 0 (m % y1.size)).size = m % y1.size := extract_size _ _ _ (by omega)
  have x2 : (y2.extract 0 (m % y2.size)).size = m % y2.size := extract_size _ _ _ (by omega)
  have x3 : (y3.extract 0 (m % y3.size)).size = m % y3.size := extract_size _ _ _ (by omega)
  have t1 : ∃ (a : ByteArray) (i : Int), ∀ w, Calls Tryd.prog 10 #[.string (y1.extract 0 (m % y1.size)), .int .i64 0] w fun e w' => e = .returned (.tuple #[.string a, .int .i64 i, .int .i64 6]) ∧ Below w.heap.size w w' := ⟨_, _, fun w => by
    have := packTakeText (y1.extract 0 (m % y1.size)) 0 w (by unfold maxLen; omega) (by omega) (by omega)
    rw [← k1]; exact this⟩
  have t2 : ∃ (a : Int) (i : Int), ∀ w, Calls Tryd.prog 13 #[.string (y2.extract 0 (m % y2.size)), .int .i64 0] w fun e w' => e = .returned (.tuple #[.int .i64 a, .int .i64 i, .int .i64 6]) ∧ Below w.heap.size w w' := ⟨_, _, fun w => by
    have := packTakeNumber (y2.extract 0 (m % y2.size)) 0 w (by unfold maxLen; omega) (by omega) (by omega)
    rw [← k2]; exact this⟩
  have t3 : ∃ (a : List ByteArray) (i : Int), ∀ w, Calls Tryd.prog 15 #[.string (y3.extract 0 (m % y3.size)), .int .i64 0, .int .i64 l2.length] w (TL w (a, i, 6)) := ⟨_, _, fun w => by
    have := packTakeList (y3.extract 0 (m % y3.size)) 0 l2.length w (by unfold maxLen; omega) (by omega) (by omega) (by omega) (by omega) (.inl (by omega))
    rw [← k3]; exact this⟩
  obtain ⟨a1, i1, t1⟩ := t1
  obtain ⟨a2, i2, t2⟩ := t2
  obtain ⟨a3, i3, t3⟩ := t3
  have f1 := (ne0b (n := y1.size) (by omega)).1
  have f2 := (ne0b (n := y2.size) (by omega)).1
  have f3 := (ne0b (n := y3.size) (by omega)).1
  have f1' := (ne0b (n := y1.size) (by omega)).2
  have f2' := (ne0b (n := y2.size) (by omega)).2
  have f3' := (ne0b (n := y3.size) (by omega)).2
  have d1 : ¬ y1.size = 0 := by omega
  have d2 : ¬ y2.size = 0 := by omega
  have d3 : ¬ y3.size = 0 := by omega
  have v1 : (m : Int) % (y1.size : Int) = ((m % y1.size : Nat) : Int) := by simp
  have v2 : (m : Int) % (y2.size : Int) = ((m % y2.size : Nat) : Int) := by simp
  have v3 : (m : Int) % (y3.size : Int) = ((m % y3.size : Nat) : Int) := by simp
  have s1' : m % y1.size ≤ y1.size := by omega
  have s2' : m % y2.size ≤ y2.size := by omega
  have s3' : m % y3.size ≤ y3.size := by omega
  have w1' : y1.size ≤ 4611686018427387904 := by omega
  have w2' : y2.size ≤ 4611686018427387904 := by omega
  have w3' : y3.size ≤ 4611686018427387904 := by omega
  have CCUT := Lib.hid ccut
  have CT1 := Lib.hid ct1
  have CN1 := Lib.hid cn1
  have CL1 := Lib.hid cl1
  have T1 := Lib.hid t1
  have T2 := Lib.hid t2
  have T3 := Lib.hid t3
  have HT := Lib.hid ht
  clear ccut ct1 cn1 cl1 t1 t2 t3 ht hl2 hrs hrs2 hbk hb2 hpl hpt hpn k1 k2 k3 z1 z2 z3 hmem e1 e2 e3 h hv bd x1 x2 x3 p1 p2 p3 v1 v2 v3
  go_enter Tryd.func9, Tryd.ntmps9
  go_wp2_with fail
  refine (CCUT.out _).mono ?_; rintro e w' ⟨rfl, rfl⟩
  have X1 : Hid (Box (w.alloc (.cells #[.string s1, .string s2, .int .i64 n, .slice A l.length c, .int .u16 m] 41)) w.heap.size #[.string s1, .string s2, .int .i64 n, .slice A l.length c, .int .u16 m] 41) := Lib.hid (Box.new _ _ _)
  have HB1 : Hid (Below w.heap.size w (w.alloc (.cells #[.string s1, .string s2, .int .i64 n, .slice A l.length c, .int .u16 m] 41))) := Lib.hid (below_alloc _ _)
  generalize w.alloc (.cells #[.string s1, .string s2, .int .i64 n, .slice A l.length c, .int .u16 m] 41) = w1 at *
  have L1 : Hid (∀ p : Lat w1, Tab p.w ∧ Below w.heap.size w p.w) := fun p => ⟨HT.out.below (below_step HB1.out p.h), below_step HB1.out p.h⟩
  have g0 := X1.out.lat 0 _ rfl
  have g2 := X1.out.lat 2 _ rfl
  go_wp2_with fail
  refine wp_region_lat (by kernel_rfl) (by kernel_rfl) ?_
  repeat (go_big_quiet_step (first | exact lat_call (CT1.out _ (L1.out _).1) | exact lat_call (CN1.out _ (L1.out _).1) | exact lat_call (CL1.out _ (L1.out _).2 (L1.out _).1)))
  refine wpQuiet_nil ?_
  intro w2 hb2
  have HB2 : Hid (Below w.heap.size w w2) := below_step HB1.out hb2
  have X2 := Lib.hid (X1.out.below hb2)
  clear hb2 L1 g0 g2 HB1 X1
  have g4 := X2.out.at_ 4 _ rfl
  go_wp2_with fail
  refine (T1.out _).mono ?_; rintro e w3 ⟨rfl, hb⟩
  have HB3 : Hid (Below w.heap.size w w3) := below_step HB2.out hb
  clear hb HB2 X2 g4
  go_wp2_with fail
  refine (T2.out _).mono ?_; rintro e w4 ⟨rfl, hb⟩
  have HB4 : Hid (Below w.heap.size w w4) := below_step HB3.out hb
  clear hb HB3
  go_wp2_with fail
  refine (T3.out _).mono ?_; rintro e w5 ⟨v5, rfl, _, hb⟩
  have HB5 : Hid (Below w.heap.size w w5) := below_step HB4.out hb
  clear hb HB4
  go_wp2_with fail
  refine (awake _ (HT.out.below HB5.out)).mono ?_; rintro e w7 ⟨rfl, hb⟩
  have HB7 : Hid (Below w.heap.size w w7) := below_step HB5.out hb
  clear hb
  go_wp2_with fail
  go_ret
  exact ⟨rfl, HB7.out⟩

end Go.Proofs.YtljehdkjjgjpiaaDoor

/-
  Contracts of the reference's Append, Read, SameAll; walk of StoreReads.
-/
import Derived.Test.YtbgficaboolgiaaGreatDoorStoRb
import Derived.Test.YtbgficaboolgiaaGreatDoorStoHc
import Derived.Test.YtbgficaboolgiaaGreatDoorStoHh
import Derived.Test.YtbgficaboolgiaaGreatDoorRows
import Derived.WideShapes
namespace Go.Proofs.YtbgficaboolgiaaGreatDoor
open Go.RowKit Go.WideShapes Go.ChangeShapes
set_option linter.unusedVariables false
set_option linter.unusedSimpArgs false

/-- What a list of strings weighs. -/
def bulkS (l : List ByteArray) : Nat := (l.map fun s => s.size + 1).sum
theorem bulkS_len (l : List ByteArray) : l.length ≤ bulkS l := by
  induction l with
  | nil => simp [bulkS]
  | cons x r ih => simp only [bulkS, List.map_cons, List.sum_cons, List.length_cons] at *; omega
theorem bulkS_mem {l : List ByteArray} {s : ByteArray} (h : s ∈ l) : s.size + 1 ≤ bulkS l := by
  induction l with
  | nil => cases h
  | cons x r ih =>
    simp only [bulkS, List.map_cons, List.sum_cons] at *
    rcases List.mem_cons.1 h with rfl | h
    · omega
    · have := ih h; omega
theorem bulk_strs {H : Type} (l : List ByteArray) : Rows.uptoBulkAll (strs l : List (DataW H)) = bulkS l := by
  induction l with
  | nil => rfl
  | cons x r ih =>
    show Rows.uptoBulkAll (DataW.lit (.string x.data.toList) :: strs r) = _
    simp only [Rows.uptoBulkAll, Rows.uptoBulk, ih]
    simp only [bulkS, List.map_cons, List.sum_cons]
    rw [Lib.size_eq x]
theorem bulkS_append (l m : List ByteArray) : bulkS (l ++ m) = bulkS l + bulkS m := by simp [bulkS, List.sum_append]
set_option maxRecDepth 100000 in
/-- An argument that is a slice of strings, and what it weighs. -/
theorem arg_strs {H : Type} {enc : TypeId × Value → H} {W : World} {v : Value} {d : DataW H} {p : List MemPlace} {base : Nat} (h : DataW.Trod enc Tryz.prog W 0 (fun _ => true) true 22 v d p) (hv : Value.okWide Tryz.prog W .any base 22 v) :
    ∃ l, SL W v l ∧ bulkS l ≤ Rows.uptoBulk d := by
  obtain ⟨a0, len, cap, rfl⟩ := okWide_slice Tryz.underlying22 hv
  obtain ⟨fuel, hf⟩ := h
  rcases open_strings Tryz.underlying22 Tryz.underlying9 (by kernel_rfl) hf with ⟨hcs, hx⟩ | ⟨a, len', cap', ss, hcs, _, hl, hm, hz, hx, hcell, _⟩
  · simp [Value.cells] at hcs
    obtain ⟨rfl, rfl, rfl⟩ := hcs
    exact ⟨[], SL.nil W, by simp [bulkS]⟩
  · simp [Value.cells] at hcs
    obtain ⟨rfl, rfl, rfl⟩ := hcs
    simp only [if_true] at hz
    have hlen : (ss.take len).length = len := by rw [List.length_take, hz]; omega
    refine ⟨ss.take len, ⟨some a, cap, by rw [hlen], by rw [hlen]; exact hl, fun hp => ⟨a, rfl, ⟨?_, fun j hj => ?_⟩⟩⟩, ?_⟩
    · have := hcell 0 (by omega)
      have h2 := World.block_lt_of_cell? _ _ this
      rwa [block_of_add] at h2
    · rw [hlen] at hj
      rw [hcell j (by omega), List.getD_eq_getElem?_getD, List.getD_eq_getElem?_getD, List.getElem?_take_of_lt hj]
      rfl
    · simp only [Prod.mk.injEq] at hx
      rw [hx.1]
      simp only [Rows.uptoBulk, bulk_strs]
      have := bulkS_append (ss.take len) (ss.drop len)
      rw [List.take_append_drop] at this
      omega

set_option maxRecDepth 100000 in
set_option maxHeartbeats 16000000 in
theorem refAppend (w : World) (v : Value) (l : List ByteArray) (h : SL w v l) (p q : Value) (r : Res) (hp : Rs ilR w p r.pts anyB) (hq : Rs ilR w q r.crs anyB) (hz : ResZ r) (hn : l.length ≤ 9223372036854775807) :
    Calls Tryz.prog 5 #[v, resV p q r] w fun e w' => ∃ u, e = .returned (.tuple #[u, .int .i64 (appT l r).2]) ∧ SL w' u (appT l r).1 ∧ Below w.heap.size w w' := by
  have CE := Lib.hid (fun W (hW : Below w.heap.size w W) => refEncode W p q r (hp.below hW) (hq.below hW) hz)
  have HR : Hid (appT l r = if 1024 ≤ l.length then ([], 16) else if (encT r).2 ≠ 0 then ([], (encT r).2) else (l ++ [(encT r).1], 0)) := Lib.hid rfl
  generalize appT l r = ar at *
  generalize encT r = en at *
  obtain ⟨t, er⟩ := en
  simp only at CE HR
  obtain ⟨A1, c1, rfl, -⟩ := hp.slice
  obtain ⟨A2, c2, rfl, -⟩ := hq.slice
  have HS := Lib.hid h
  obtain ⟨A, c, rfl, hc, -⟩ := id h
  clear hp hq hz h
  obtain ⟨te, se, de, si, cy, sn, gt, ps, cs, sm, il⟩ := r
  unfold resV at CE ⊢
  simp only at CE ⊢
  generalize ps.length = M at *
  generalize cs.length = N at *
  obtain ⟨i0, hi, hz0, hz1, hz2⟩ := info_parts iistrS
  have JI := Lib.hid hi
  have JZ0 := Lib.hid hz0
  have JZ1 := Lib.hid hz1
  have JZ2 := Lib.hid hz2
  clear hi hz0 hz1 hz2
  obtain ⟨L, hL⟩ : ∃ L, L = l.length := ⟨_, rfl⟩
  have HL := Lib.hid hL
  rw [← hL] at HR HS hc hn ⊢
  clear hL
  go_enter Tryz.func5, Tryz.ntmps5
  go_upto_region 1 with fail
  have XA := Lib.hid (box_new (W := w) (g := w.heap.size) 28 #[.string te, .int .u64 se, .string de, .string si, .int .i64 cy, .int .i64 sn, .int .i64 gt, .slice A1 M c1, .slice A2 N c2, .int .i64 sm, .int .i64 il] (by simp))
  have HB := Lib.hid (below_alloc w (.cells #[.string te, .int .u64 se, .string de, .string si, .int .i64 cy, .int .i64 sn, .int .i64 gt, .slice A1 M c1, .slice A2 N c2, .int .i64 sm, .int .i64 il] 28))
  generalize w.alloc (.cells #[.string te, .int .u64 se, .string de, .string si, .int .i64 cy, .int .i64 sn, .int .i64 gt, .slice A1 M c1, .slice A2 N c2, .int .i64 sm, .int .i64 il] 28) = w1 at *
  replace HS := Lib.hid (HS.out.below HB.out)
  by_cases h1 : 1024 ≤ L
  · have h2 : (1024 : Int) ≤ (L : Int) := by omega
    have HR2 : Hid (ar = ([], 16)) := Lib.hid (by rw [HR.out, if_pos h1])
    clear HR h1
    go_wp2_with fail
    go_ret2
    exact ⟨_, by rw [HR2.out]; rfl, by rw [HR2.out]; exact SL.nil _, HB.out⟩
  have h2 : ¬ (1024 : Int) ≤ (L : Int) := by omega
  have hL2 : L ≤ 1023 := by omega
  rw [if_neg h1] at HR
  clear h1
  have XA_0 := XA.out.at_ 0 _ rfl
  have XA_1 := XA.out.at_ 1 _ rfl
  have XA_2 := XA.out.at_ 2 _ rfl
  have XA_3 := XA.out.at_ 3 _ rfl
  have XA_4 := XA.out.at_ 4 _ rfl
  have XA_5 := XA.out.at_ 5 _ rfl
  have XA_6 := XA.out.at_ 6 _ rfl
  have XA_7 := XA.out.at_ 7 _ rfl
  have XA_8 := XA.out.at_ 8 _ rfl
  have XA_9 := XA.out.at_ 9 _ rfl
  have XA_a := XA.out.at_ 10 _ rfl
  go_wp2_with fail
  refine (CE.out _ HB.out).mono ?_; rintro e w2 ⟨rfl, hb⟩
  clear XA_0 XA_1 XA_2 XA_3 XA_4 XA_5 XA_6 XA_7 XA_8 XA_9 XA_a
  replace HS := Lib.hid (HS.out.below hb)
  replace XA := Lib.hid (XA.out.below hb)
  replace HB := Lib.hid (below_step HB.out hb)
  clear hb
  by_cases he : er = 0
  case neg =>
    have f1 : (er != 0) = true := by simpa using he
    have HR2 : Hid (ar = ([], er)) := Lib.hid (by rw [HR.out, if_pos he])
    clear HR he
    go_wp2_with fail
    go_ret2
    exact ⟨_, by rw [HR2.out]; rfl, by rw [HR2.out]; exact SL.nil _, HB.out⟩
  subst he
  have HR2 : Hid (ar = (l ++ [t], 0)) := Lib.hid (by rw [HR.out, if_neg (by simp)])
  clear HR
  have HSQ := Lib.hid (HS.out.below (Below.refl w2.heap.size w2))
  clear HS
  go_upto_region 6 with fail
  have hz := HB.out.size
  have hbl := below_alloc w2 (.cells #[] 9)
  have O0 : Hid (OG strR (w2.alloc (.cells #[] 9)) w2.heap.size 0 9 (.slice (some ⟨w2.heap.size, 0, none⟩) 0 0) []) := Lib.hid (OG.of_scells (l := []) (own_of_box (xs := []) (Box.new w2 9 #[]) (Nat.le_refl _) (by decide)))
  have HB0 := Lib.hid (below_step HB.out hbl)
  have HS0 := Lib.hid (HSQ.out.below hbl)
  have hs0 := HB0.out.size
  have hs1 := hbl.size
  clear hbl HSQ
  go_wp2_with (at_builtin; refine wpList_append_og (φ := strR) (T := 9) (B := w2.heap.size) (C := 0) (xs := []) (ys := l) rfl _ _ 22 rfl i0 (.string ⟨#[]⟩) 16 Tryz.underlying22 JI.out JZ0.out JZ1.out JZ2.out rfl rfl O0.out (.slice A L c) rfl (Rs.of_sl HS0.out _) ?c1 ?c2 ?c3 ?_)
  case c1 => (try simp only [List.length_append, List.length_nil]); rw [← HL.out]; omega
  case c2 => (try simp only [List.length_append, List.length_nil]); rw [← HL.out]; unfold maxLen; omega
  case c3 => first | exact hs1 | simpa using hs1
  intro v3 w3 o3 hg3
  try rw [List.nil_append] at o3
  have HB3 := Lib.hid (O0.out.belowG hg3.out HB0.out hs0 hz)
  have hs3 := hg3.out.size
  obtain ⟨A', c', rfl⟩ := o3.out.slice
  rw [← HL.out] at o3 ⊢
  clear O0 HB0 hg3 HS0
  go_upto_region 7 with fail
  have hbl := below_alloc w3 (.cells #[.string t] 9)
  have HR4 : Hid (Rs strR (w3.alloc (.cells #[.string t] 9)) (.slice (some ⟨w3.heap.size, 0, none⟩) 1 1) [t] (Ty (w3.alloc (.cells #[.string t] 9)) 0 strR.ts)) :=
    Lib.hid (Rs.one (φ := strR) (us := [.string t]) (x := t) rfl 9)
  have O1 := Lib.hid (o3.out.below hbl)
  have HB1 := Lib.hid (below_step HB3.out hbl)
  have hsz := HB1.out.size
  have hz3 : w2.heap.size ≤ (w3.alloc (.cells #[.string t] 9)).heap.size := by have := hbl.size; omega
  clear hbl o3
  go_wp2_with (at_builtin; refine wpList_append_og (φ := strR) (T := 9) (B := w2.heap.size) (C := 0) (xs := l) (ys := [t]) rfl _ _ 22 rfl i0 (.string ⟨#[]⟩) 16 Tryz.underlying22 JI.out JZ0.out JZ1.out JZ2.out rfl rfl O1.out (.slice (some ⟨w3.heap.size, 0, none⟩) 1 1) rfl HR4.out ?c1 ?c2 ?c3 ?_)
  case c1 => (try simp only [List.length_cons, List.length_nil]); rw [← HL.out]; omega
  case c2 => (try simp only [List.length_cons, List.length_nil]); rw [← HL.out]; unfold maxLen; omega
  case c3 => first | exact hz3 | simpa using hz3
  intro v' w4 o4 hg4
  have HB4 := Lib.hid (O1.out.belowG hg4.out HB1.out hsz hz)
  obtain ⟨A5, c5, rfl⟩ := o4.out.slice
  clear O1 HB1 hsz hg4 HR4
  go_wp2_with fail
  go_ret2
  exact ⟨_, by rw [HR2.out]; rfl, by rw [HR2.out]; exact o4.out.any.sl, HB4.out⟩

set_option maxRecDepth 100000 in
set_option maxHeartbeats 16000000 in
theorem refReadAll (w : World) (v : Value) (l : List ByteArray) (h : SL w v l) (hn : l.length ≤ 1100000) (hz : ∀ s ∈ l, s.size ≤ maxLen) :
    Calls Tryz.prog 7 #[v] w fun e w' => ∃ (u : Value) (xs : List Res) (n er : Int), e = .returned (.tuple #[u, .int .i64 n, .int .i64 er]) ∧ RDL l xs n er ∧ Rs resR w' u xs anyB ∧ Below w.heap.size w w' := by
  have HZ := Lib.hid (fun k (hk : k < l.length) => hz _ (getD_mem (l := l) (k := k) ⟨#[]⟩ hk))
  have HM := Lib.hid (fun k (hk : k < l.length) => map_take (l := l) (k := k) hk)
  have HML := Lib.hid (fun k (hk : k ≤ l.length) => (show ((l.take k).map d1).length = k by rw [List.length_map, List.length_take]; omega))
  obtain ⟨A, c, rfl, hc, hs⟩ := h
  obtain ⟨N, hN⟩ : ∃ N, N = l.length := ⟨_, rfl⟩
  have HN := Lib.hid hN
  rw [← hN] at hs hc hn HM HZ HML ⊢
  have HS := Lib.hid hs
  obtain ⟨i0, hi, hz0, hz1, hz2⟩ := info_parts iires
  have JI := Lib.hid hi
  have JZ0 := Lib.hid hz0
  have JZ1 := Lib.hid hz1
  have JZ2 := Lib.hid hz2
  have HEND : Hid ((∀ j, j < N → (decT (l.getD j ⟨#[]⟩)).2 = 0) → RDL l ((l.take N).map d1) (N : Nat) 0) := Lib.hid fun h => .inl ⟨rfl, by rw [← hN], by rw [hN, List.take_length], fun k hk => h k (by omega)⟩
  have HBAD : Hid (∀ k, k < N → (∀ j, j < k → (decT (l.getD j ⟨#[]⟩)).2 = 0) → ∀ e, (decT (l.getD k ⟨#[]⟩)).2 = e → e ≠ 0 → RDL l [] (k : Nat) e) := Lib.hid fun k hk h e he h0 => .inr ⟨k, h0, rfl, rfl, by omega, he, h⟩
  clear hs hN hz hi hz0 hz1 hz2
  go_enter Tryz.func7, Tryz.ntmps7
  go_wp2_with fail
  go_loopw [5, 6] (fun ov i wr => ∃ (k : Nat), k ≤ N ∧ i = .int .i64 k ∧ Hid (∀ j, j < k → (decT (l.getD j ⟨#[]⟩)).2 = 0) ∧ OG resR wr w.heap.size 0 28 ov ((l.take k).map d1) ∧ Below w.heap.size w wr) (fun _ i _ => N - (intOf i).toNat)
  case atStart => exact ⟨0, Nat.zero_le _, rfl, Lib.hid (fun j hj => by omega), OG.nil resR _ _ _ _ (by decide) (Nat.zero_le _), Below.refl _ _⟩
  case round =>
    obtain ⟨k, hk, rfl, HD, hog, hb⟩ := hrel
    have HB := Lib.hid hb
    have HOG := Lib.hid hog
    obtain ⟨OA, oc, rfl⟩ := hog.slice
    have hlen := HML.out k hk
    rw [hlen] at HOG ⊢
    clear hb hog
    by_cases hlt : k < N
    · have hlt2 : (k : Int) < N := by omega
      have hk0 : (0 : Int) ≤ (k : Int) := by omega
      obtain ⟨a, rfl, hr⟩ := HS.out (by omega)
      have hcell := (hr.below HB.out).cells k (by rw [← HN.out]; exact hlt)
      have CD := Lib.hid (fun W => refDecode (l.getD k ⟨#[]⟩) (HZ.out k hlt) W)
      have HMk := Lib.hid (HM.out k hlt)
      have HNO := Lib.hid (fun e => HBAD.out k hlt HD.out e)
      have HYES : Hid ((decT (l.getD k ⟨#[]⟩)).2 = 0 → ∀ j, j < k + 1 → (decT (l.getD j ⟨#[]⟩)).2 = 0) := Lib.hid fun h j hj => by
        by_cases e : j = k
        · rw [e]; exact h
        · exact HD.out j (by omega)
      generalize (l.take k).map d1 = acc at *
      have HLL : Hid (acc.length = k) := Lib.hid hlen
      obtain ⟨nx, hnx⟩ : ∃ x, x = (l.take (k + 1)).map d1 := ⟨_, rfl⟩
      have HNX : Hid (nx = acc ++ [(decT (l.getD k ⟨#[]⟩)).1]) := Lib.hid (by rw [hnx]; exact HMk.out)
      have HNE := Lib.hid hnx
      unfold DEC at CD
      clear hlen hr HD HMk hnx
      generalize l.getD k ⟨#[]⟩ = s at *
      generalize decT s = d at *
      obtain ⟨r, er⟩ := d
      simp only at CD HNX HYES HNO
      obtain ⟨wo, rfl⟩ : ∃ x : World, x = wr := ⟨_, rfl⟩
      go_wp2_with fail
      clear hcell
      refine (CD.out _).mono ?_; rintro e w2 ⟨p, q, rfl, ho1, ho2, hb⟩
      replace HOG := Lib.hid (HOG.out.below hb)
      replace HB := Lib.hid (below_step HB.out hb)
      clear hb
      have P1 := Lib.hid ho1
      have Q1 := Lib.hid ho2
      obtain ⟨A1, c1, rfl⟩ := ho1.slice
      obtain ⟨A2, c2, rfl⟩ := ho2.slice
      clear ho1 ho2 CD
      obtain ⟨te, se, de, si, cy, sn, gt, ps, cs, sm, il⟩ := r
      simp only [resV] at P1 Q1 ⊢
      have HROW : Hid (∀ W, OG ilR W wo.heap.size 0 95 (.slice A1 ps.length c1) ps → OG ilR W wo.heap.size 0 95 (.slice A2 cs.length c2) cs → resR.R W [.string te, .int .u64 (se : Nat), .string de, .string si, .int .i64 cy, .int .i64 sn, .int .i64 gt, .slice A1 ps.length c1, .slice A2 cs.length c2, .int .i64 sm, .int .i64 il] ⟨te, se, de, si, cy, sn, gt, ps, cs, sm, il⟩ (Ty W 0 resR.ts)) :=
        Lib.hid fun W h1 h2 => ⟨_, _, rfl, og_ilrow h1, og_ilrow h2⟩
      generalize ps.length = M at *
      generalize cs.length = N2 at *
      go_upto_region 6 with fail
      have XA := Lib.hid (box_new (W := w2) (g := w2.heap.size) 28 #[.string te, .int .u64 se, .string de, .string si, .int .i64 cy, .int .i64 sn, .int .i64 gt, .slice A1 M c1, .slice A2 N2 c2, .int .i64 sm, .int .i64 il] (by simp))
      have hba := (below_alloc w2 (.cells #[.string te, .int .u64 se, .string de, .string si, .int .i64 cy, .int .i64 sn, .int .i64 gt, .slice A1 M c1, .slice A2 N2 c2, .int .i64 sm, .int .i64 il] 28))
      replace HOG := Lib.hid (HOG.out.below hba)
      replace P1 := Lib.hid (P1.out.below hba)
      replace Q1 := Lib.hid (Q1.out.below hba)
      replace HB := Lib.hid (below_step HB.out hba)
      clear hba
      generalize w2.alloc (.cells #[.string te, .int .u64 se, .string de, .string si, .int .i64 cy, .int .i64 sn, .int .i64 gt, .slice A1 M c1, .slice A2 N2 c2, .int .i64 sm, .int .i64 il] 28) = w3 at *
      by_cases he : er = 0
      case neg =>
        have f1 : (er != 0) = true := by simpa using he
        have HX := Lib.hid (HNO.out er rfl he)
        clear HNO HYES he HROW
        go_wp2_with fail
        go_ret3
        exact ⟨_, _, _, _, rfl, HX.out, Rs.nil _ _ _, HB.out⟩
      subst he
      have HD2 := Lib.hid (HYES.out rfl)
      clear HNO HYES
      go_upto_region 8 with fail
      have XA_0 := XA.out.at_ 0 _ rfl
      have XA_1 := XA.out.at_ 1 _ rfl
      have XA_2 := XA.out.at_ 2 _ rfl
      have XA_3 := XA.out.at_ 3 _ rfl
      have XA_4 := XA.out.at_ 4 _ rfl
      have XA_5 := XA.out.at_ 5 _ rfl
      have XA_6 := XA.out.at_ 6 _ rfl
      have XA_7 := XA.out.at_ 7 _ rfl
      have XA_8 := XA.out.at_ 8 _ rfl
      have XA_9 := XA.out.at_ 9 _ rfl
      have XA_a := XA.out.at_ 10 _ rfl
      have hbl := below_alloc w3 (.cells #[.string te, .int .u64 se, .string de, .string si, .int .i64 cy, .int .i64 sn, .int .i64 gt, .slice A1 M c1, .slice A2 N2 c2, .int .i64 sm, .int .i64 il] 28)
      have HR4 : Hid (Rs resR (w3.alloc (.cells #[.string te, .int .u64 se, .string de, .string si, .int .i64 cy, .int .i64 sn, .int .i64 gt, .slice A1 M c1, .slice A2 N2 c2, .int .i64 sm, .int .i64 il] 28)) (.slice (some ⟨w3.heap.size, 0, none⟩) 1 1) [⟨te, se, de, si, cy, sn, gt, ps, cs, sm, il⟩] (Ty (w3.alloc (.cells #[.string te, .int .u64 se, .string de, .string si, .int .i64 cy, .int .i64 sn, .int .i64 gt, .slice A1 M c1, .slice A2 N2 c2, .int .i64 sm, .int .i64 il] 28)) 0 resR.ts)) :=
        Lib.hid ((Rs.one (φ := resR) (HROW.out _ P1.out Q1.out) 28).mono fun q hq => hq.below hbl)
      have HOGa := Lib.hid (HOG.out.below hbl)
      have HBa := Lib.hid (below_step HB.out hbl)
      have hsz := HBa.out.size
      clear hbl HROW
      go_wp2_with (at_builtin; refine wpList_append_og (φ := resR) (T := 28) (B := w.heap.size) (C := 0) (xs := acc) (ys := [⟨te, se, de, si, cy, sn, gt, ps, cs, sm, il⟩]) rfl _ _ 32 rfl i0 (.agg #[.string ⟨#[]⟩, .int .u64 0, .string ⟨#[]⟩, .string ⟨#[]⟩, .int .i64 0, .int .i64 0, .int .i64 0, .slice none 0 0, .slice none 0 0, .int .i64 0, .int .i64 0]) 144 Tryz.underlying32 JI.out JZ0.out JZ1.out JZ2.out rfl rfl HOGa.out (.slice (some ⟨w3.heap.size, 0, none⟩) 1 1) rfl HR4.out ?c1 ?c2 ?c3 ?_)
      case c1 => (try simp only [List.length_cons, List.length_nil]); rw [HLL.out]; omega
      case c2 => (try simp only [List.length_cons, List.length_nil]); rw [HLL.out]; unfold maxLen; omega
      case c3 => first | exact hsz | simpa using hsz
      intro v' w10 hog7 hg7
      have HB10 := Lib.hid (HOGa.out.belowG hg7.out HBa.out hsz (Nat.le_refl _))
      clear HOGa HBa hsz hg7 HR4 HOG HB P1 Q1 XA
      clear XA_0 XA_1 XA_2 XA_3 XA_4 XA_5 XA_6 XA_7 XA_8 XA_9 XA_a
      go_wp2_with fail
      go_roundw
      case rel => exact ⟨k + 1, by omega, by go_num, HD2, by rw [← HNE.out, HNX.out]; exact hog7.out, HB10.out⟩
      case measure => simp [intOf] <;> omega
    · have hlt2 : ¬ (k : Int) < N := by omega
      have hkN : k = N := by omega
      have HX : Hid (RDL l ((l.take k).map d1) (N : Nat) 0) := Lib.hid (by rw [hkN]; exact HEND.out (fun j hj => HD.out j (by omega)))
      clear hkN hlen
      generalize (l.take k).map d1 = acc at *
      go_wp2_with fail
      go_ret3
      exact ⟨_, _, _, _, rfl, HX.out, HOG.out.any, HB.out⟩

set_option maxRecDepth 100000 in
set_option maxHeartbeats 16000000 in
theorem refSameAll (w : World) (v1 v2 : Value) (l : List Res) (h1 : Rs resR w v1 l anyB) (h2 : Rs resR w v2 l anyB) (hl : l.length ≤ 9223372036854775807)
    (hz : ∀ r ∈ l, (r.pts.length ≤ 9223372036854775807 ∧ ∀ c ∈ r.pts, c.length ≤ 9223372036854775807) ∧ (r.crs.length ≤ 9223372036854775807 ∧ ∀ c ∈ r.crs, c.length ≤ 9223372036854775807)) :
    Calls Tryz.prog 9 #[v1, v2] w fun e w' => e = .returned (.bool true) ∧ Below w.heap.size w w' := by
  have HZ := Lib.hid (fun k (hk : k < l.length) => hz _ (getD_mem (l := l) (k := k) res0 hk))
  obtain ⟨A1, c1, rfl, hc1, hx1⟩ := h1.ress
  obtain ⟨A2, c2, rfl, hc2, hx2⟩ := h2.ress
  obtain ⟨N, hN⟩ : ∃ N, N = l.length := ⟨_, rfl⟩
  rw [← hN] at hc1 hc2 hx1 hx2 hl HZ ⊢
  have H1 := Lib.hid hx1
  have H2 := Lib.hid hx2
  clear hN hx1 hx2 hz h1 h2
  go_enter Tryz.func9, Tryz.ntmps9
  go_wp2_with fail
  go_loopw [5] (fun c wr => ∃ (k : Nat), k ≤ N ∧ c = .int .i64 k ∧ Below w.heap.size w wr) (fun c _ => N - (intOf c).toNat)
  case atStart => exact ⟨0, Nat.zero_le _, rfl, Below.refl _ _⟩
  case round =>
    obtain ⟨k, hk, rfl, hb⟩ := hrel
    have HB := Lib.hid hb
    clear hb
    by_cases hlt : k < N
    · have hlt2 : (k : Int) < N := by omega
      have hk0 : (0 : Int) ≤ (k : Int) := by omega
      obtain ⟨b1, o1, p1, q1, rfl, hbl1, hcl1, ⟨hp1, -⟩, hq1, -⟩ := H1.out k hlt
      obtain ⟨b2, o2, p2, q2, rfl, hbl2, hcl2, ⟨hp2, -⟩, hq2, -⟩ := H2.out k hlt
      obtain ⟨n1, n2⟩ := HZ.out k hlt
      obtain ⟨wo, rfl⟩ : ∃ x : World, x = wr := ⟨_, rfl⟩
      have CS := Lib.hid (fun x : Lat wo => refSameR x.w p1 q1 p2 q2 (l.getD k res0) (hp1.below (below_step HB.out x.h)) (hq1.below (below_step HB.out x.h)) (hp2.below (below_step HB.out x.h)) (hq2.below (below_step HB.out x.h)) n1 n2)
      obtain ⟨A3, c3, rfl, -⟩ := hp1.slice
      obtain ⟨A4, c4, rfl, -⟩ := hq1.slice
      obtain ⟨A5, c5, rfl, -⟩ := hp2.slice
      obtain ⟨A6, c6, rfl, -⟩ := hq2.slice
      clear hp1 hq1 hp2 hq2 n1 n2
      generalize l.getD k res0 = x at *
      obtain ⟨te, se, de, si, cy, sn, gt, ps, cs, sm, il⟩ := x
      simp only [resV] at CS hcl1 hcl2
      generalize ps.length = M at *
      generalize cs.length = N2 at *
      have ha : ∀ i u, (resL (.slice A3 M c3) (.slice A4 N2 c4) ⟨te, se, de, si, cy, sn, gt, ps, cs, sm, il⟩)[i]? = some u → ∀ x : Lat wo, x.w.cell? ⟨b1, o1 + k * 11 + i, none⟩ = some u := fun i u h x => ((below_step HB.out x.h).cell (p := ⟨b1, o1 + k * 11 + i, none⟩) hbl1).trans (hcl1 i u h)
      have hb' : ∀ i u, (resL (.slice A5 M c5) (.slice A6 N2 c6) ⟨te, se, de, si, cy, sn, gt, ps, cs, sm, il⟩)[i]? = some u → ∀ x : Lat wo, x.w.cell? ⟨b2, o2 + k * 11 + i, none⟩ = some u := fun i u h x => ((below_step HB.out x.h).cell (p := ⟨b2, o2 + k * 11 + i, none⟩) hbl2).trans (hcl2 i u h)
      have y0 := ha 0 _ rfl
      have z0 := hb' 0 _ rfl
      have y1 := ha 1 _ rfl
      have z1 := hb' 1 _ rfl
      have y2 := ha 2 _ rfl
      have z2 := hb' 2 _ rfl
      have y3 := ha 3 _ rfl
      have z3 := hb' 3 _ rfl
      have y4 := ha 4 _ rfl
      have z4 := hb' 4 _ rfl
      have y5 := ha 5 _ rfl
      have z5 := hb' 5 _ rfl
      have y6 := ha 6 _ rfl
      have z6 := hb' 6 _ rfl
      have y7 := ha 7 _ rfl
      have z7 := hb' 7 _ rfl
      have y8 := ha 8 _ rfl
      have z8 := hb' 8 _ rfl
      have y9 := ha 9 _ rfl
      have z9 := hb' 9 _ rfl
      have y10 := ha 10 _ rfl
      have z10 := hb' 10 _ rfl
      simp only [Nat.add_zero] at y0 z0
      clear ha hb' hcl1 hcl2 hbl1 hbl2
      go_wp2_with fail
      refine wp_region_lat (by kernel_rfl) (by kernel_rfl) ?_
      repeat (go_big_quiet_step (first | with_reducible exact lat_call (CS.out _)))
      refine wpQuiet_nil ?_; intro w9 hb
      clear CS y0 z0 y1 z1 y2 z2 y3 z3 y4 z4 y5 z5 y6 z6 y7 z7 y8 z8 y9 z9 y10 z10
      replace HB := Lib.hid (below_step HB.out hb)
      clear hb
      go_wp2_with fail
      go_roundw
      case rel => exact ⟨k + 1, by omega, by go_num, HB.out⟩
      case measure => simp [intOf]; omega
    · have hlt2 : ¬ (k : Int) < N := by omega
      go_wp2_with fail
      go_ret
      exact ⟨rfl, HB.out⟩

set_option maxRecDepth 100000 in
set_option maxHeartbeats 16000000 in
theorem walkStoreReads {H : Type} {enc : TypeId × Value → H} {base base' : Nat} {w : World} (v0 : Value) (d0 : DataW H) (p0 : List MemPlace) (g0 : DataW.Trod enc Tryz.prog w 0 (fun _ => true) true 22 v0 d0 p0) (hv0 : Value.okWide Tryz.prog w .any base 22 v0) (b0 : Rows.uptoBulk d0 ≤ 1048576)
    (v1 : Value) (e1 : DataW H) (p1 : List MemPlace) (g1 : DataW.Trod enc Tryz.prog w 0 (fun _ => true) true 28 v1 e1 p1) (hv1 : Value.okWide Tryz.prog w .any base' 28 v1) (b1 : Rows.uptoBulk e1 ≤ 1048576) (ht : Tab w) :
    Calls Tryz.prog 3 #[v0, v1] w fun e w' => e = .returned (.bool true) ∧ Below w.heap.size w w' := by
  obtain ⟨l, hl, hbk⟩ := arg_strs g0 hv0
  obtain ⟨p, q, r, rfl, hp, hq, hz⟩ := arg_res g1 hv1
  have hln : l.length ≤ 1048576 := by have := bulkS_len l; omega
  have hls : ∀ s ∈ l, s.size ≤ 1048576 := fun s hs => by have := bulkS_mem hs; omega
  have hls2 : ∀ s ∈ l, s.size ≤ maxLen := fun s hs => by have := hls s hs; unfold maxLen; omega
  have CA := Lib.hid (fun W (hW : Below w.heap.size w W) => stoAppend W v0 l (hl.below hW) p q r (hp.below hW) (hq.below hW) hz (by omega) (ht.below hW))
  have CB := Lib.hid (fun W (hW : Below w.heap.size w W) => refAppend W v0 l (hl.below hW) p q r (hp.below hW) (hq.below hW) hz (by omega))
  have CR := Lib.hid (fun W (hW : Below w.heap.size w W) => stoRead W v0 l (hl.below hW) (by omega) hls2)
  have CQ := Lib.hid (fun W (hW : Below w.heap.size w W) => refReadAll W v0 l (hl.below hW) (by omega) hls2)
  have CW := Lib.hid (fun W (hW : Below w.heap.size w W) => lawAwake W (ht.below hW))
  have hal : (appT l r).1.length ≤ 9223372036854775807 := by
    unfold appT
    split
    · simp
    · split
      · simp
      · simp only [List.length_append, List.length_cons, List.length_nil]; omega
  have HXS : Hid (∀ xs n e, RDL l xs n e → xs.length ≤ 9223372036854775807 ∧ ∀ x ∈ xs, (x.pts.length ≤ 9223372036854775807 ∧ ∀ c ∈ x.pts, c.length ≤ 9223372036854775807) ∧ (x.crs.length ≤ 9223372036854775807 ∧ ∀ c ∈ x.crs, c.length ≤ 9223372036854775807)) := Lib.hid fun xs n e h => by
    rcases h with ⟨-, -, rfl, -⟩ | ⟨k, -, -, rfl, -⟩
    · refine ⟨by rw [List.length_map]; omega, fun x hx => ?_⟩
      obtain ⟨s, hs, rfl⟩ := List.mem_map.1 hx
      exact decT_small (by have := hls s hs; omega)
    · exact ⟨by simp, fun x hx => by cases hx⟩
  obtain ⟨A0, c0, rfl, -⟩ := id hl
  obtain ⟨A1, c1, rfl, -⟩ := hp.slice
  obtain ⟨A2, c2, rfl, -⟩ := hq.slice
  have CT := Lib.hid (fun W v1 v2 (h1 : SL W v1 (appT l r).1) (h2 : SL W v2 (appT l r).1) => refSameTexts W v1 v2 _ h1 h2 hal)
  have CX := Lib.hid (fun W v1 v2 xs n e (h : RDL l xs n e) (h1 : Rs resR W v1 xs anyB) (h2 : Rs resR W v2 xs anyB) => refSameAll W v1 v2 xs h1 h2 (HXS.out xs n e h).1 (HXS.out xs n e h).2)
  clear g0 hv0 b0 g1 hv1 b1 hl hp hq hz ht hbk hls hls2 hal HXS
  generalize appT l r = ap at *
  obtain ⟨al, ae⟩ := ap
  simp only at CA CB CT
  obtain ⟨te, se, de, si, cy, sn, gt, ps, cs, sm, il⟩ := r
  simp only [resV] at CA CB ⊢
  generalize ps.length = M at *
  generalize cs.length = N at *
  generalize l.length = L at *
  have f1 : (ae == ae) = true := by simp
  go_enter Tryz.func3, Tryz.ntmps3
  go_upto_region 1 with fail
  have XR := Lib.hid (box_new (W := w) (g := w.heap.size) 28 #[.string te, .int .u64 se, .string de, .string si, .int .i64 cy, .int .i64 sn, .int .i64 gt, .slice A1 M c1, .slice A2 N c2, .int .i64 sm, .int .i64 il] (by simp))
  have HB := Lib.hid (below_alloc w (.cells #[.string te, .int .u64 se, .string de, .string si, .int .i64 cy, .int .i64 sn, .int .i64 gt, .slice A1 M c1, .slice A2 N c2, .int .i64 sm, .int .i64 il] 28))
  generalize w.alloc (.cells #[.string te, .int .u64 se, .string de, .string si, .int .i64 cy, .int .i64 sn, .int .i64 gt, .slice A1 M c1, .slice A2 N c2, .int .i64 sm, .int .i64 il] 28) = w1 at *
  have XR_0 := XR.out.at_ 0 _ rfl
  have XR_1 := XR.out.at_ 1 _ rfl
  have XR_2 := XR.out.at_ 2 _ rfl
  have XR_3 := XR.out.at_ 3 _ rfl
  have XR_4 := XR.out.at_ 4 _ rfl
  have XR_5 := XR.out.at_ 5 _ rfl
  have XR_6 := XR.out.at_ 6 _ rfl
  have XR_7 := XR.out.at_ 7 _ rfl
  have XR_8 := XR.out.at_ 8 _ rfl
  have XR_9 := XR.out.at_ 9 _ rfl
  have XR_a := XR.out.at_ 10 _ rfl
  go_wp2_with fail
  refine (CA.out _ HB.out).mono ?_; rintro e w2 ⟨u1, rfl, hu, hb⟩
  clear XR_0 XR_1 XR_2 XR_3 XR_4 XR_5 XR_6 XR_7 XR_8 XR_9 XR_a
  replace XR := Lib.hid (XR.out.below hb)
  replace HB := Lib.hid (below_step HB.out hb)
  clear hb
  have S1 := Lib.hid hu
  clear hu CA
  have XR_0 := XR.out.at_ 0 _ rfl
  have XR_1 := XR.out.at_ 1 _ rfl
  have XR_2 := XR.out.at_ 2 _ rfl
  have XR_3 := XR.out.at_ 3 _ rfl
  have XR_4 := XR.out.at_ 4 _ rfl
  have XR_5 := XR.out.at_ 5 _ rfl
  have XR_6 := XR.out.at_ 6 _ rfl
  have XR_7 := XR.out.at_ 7 _ rfl
  have XR_8 := XR.out.at_ 8 _ rfl
  have XR_9 := XR.out.at_ 9 _ rfl
  have XR_a := XR.out.at_ 10 _ rfl
  go_wp2_with fail
  refine (CB.out _ HB.out).mono ?_; rintro e w3 ⟨u2, rfl, hu, hb⟩
  clear XR_0 XR_1 XR_2 XR_3 XR_4 XR_5 XR_6 XR_7 XR_8 XR_9 XR_a
  replace XR := Lib.hid (XR.out.below hb)
  replace S1 := Lib.hid (S1.out.below hb)
  replace HB := Lib.hid (below_step HB.out hb)
  clear hb
  have S2 := Lib.hid hu
  clear hu CB XR
  go_wp2_with fail
  refine (CR.out _ HB.out).mono ?_; rintro e w4 ⟨u3, xs, n, er, rfl, hrd, hrs, hb⟩
  replace S1 := Lib.hid (S1.out.below hb)
  replace S2 := Lib.hid (S2.out.below hb)
  replace HB := Lib.hid (below_step HB.out hb)
  clear hb
  have R1 := Lib.hid hrs
  have D1 := Lib.hid hrd
  clear hrs hrd CR
  go_wp2_with fail
  refine (CQ.out _ HB.out).mono ?_; rintro e w5 ⟨u4, ys, n', er', rfl, hrd, hrs, hb⟩
  replace S1 := Lib.hid (S1.out.below hb)
  replace S2 := Lib.hid (S2.out.below hb)
  replace R1 := Lib.hid (R1.out.below hb)
  replace HB := Lib.hid (below_step HB.out hb)
  clear hb
  obtain ⟨rfl, rfl, rfl⟩ := D1.out.det hrd
  have R2 := Lib.hid hrs
  clear hrs hrd CQ
  have CY := Lib.hid (fun W h1 h2 => CX.out W u3 u4 _ _ _ D1.out h1 h2)
  clear CX D1
  have f2 : (n' == n') = true := by simp
  have f3 : (er' == er') = true := by simp
  go_wp2_with fail
  refine (CT.out _ _ _ S1.out S2.out).mono ?_; rintro e w6 ⟨rfl, nq, rfl⟩
  have hb := below_drewN (Below.refl w5.heap.size w5) nq
  generalize w5.drewN nq = w6 at *
  replace S1 := Lib.hid (S1.out.below hb)
  replace S2 := Lib.hid (S2.out.below hb)
  replace R1 := Lib.hid (R1.out.below hb)
  replace R2 := Lib.hid (R2.out.below hb)
  replace HB := Lib.hid (below_step HB.out hb)
  clear hb
  go_wp2_with fail
  refine (CY.out _ R1.out R2.out).mono ?_; rintro e w7 ⟨rfl, hb⟩
  replace S1 := Lib.hid (S1.out.below hb)
  replace S2 := Lib.hid (S2.out.below hb)
  replace R1 := Lib.hid (R1.out.below hb)
  replace R2 := Lib.hid (R2.out.below hb)
  replace HB := Lib.hid (below_step HB.out hb)
  clear hb
  go_wp2_with fail
  refine (CW.out _ HB.out).mono ?_; rintro e w8 ⟨rfl, hb⟩
  replace S1 := Lib.hid (S1.out.below hb)
  replace S2 := Lib.hid (S2.out.below hb)
  replace R1 := Lib.hid (R1.out.below hb)
  replace R2 := Lib.hid (R2.out.below hb)
  replace HB := Lib.hid (below_step HB.out hb)
  clear hb
  go_wp2_with fail
  go_ret
  exact ⟨rfl, HB.out⟩

end Go.Proofs.YtbgficaboolgiaaGreatDoor

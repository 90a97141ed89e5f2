/-
  Contracts of store's Append and Read.
-/
import Derived.Test.YtbgficaboolgiaaGreatDoorStoW
namespace Go.Proofs.YtbgficaboolgiaaGreatDoor
open Go.RowKit
set_option linter.unusedVariables false
set_option linter.unusedSimpArgs false

/-! What Append and Read return. -/
def appT (l : List ByteArray) (r : Res) : List ByteArray × Int := if 1024 ≤ l.length then ([], 16) else if (encT r).2 ≠ 0 then ([], (encT r).2) else (l ++ [(encT r).1], 0)
def d1 (s : ByteArray) : Res := (decT s).1
/-- All results, or the place and the error of the first record that is none. -/
def RDL (l : List ByteArray) (xs : List Res) (n e : Int) : Prop :=
  (e = 0 ∧ n = (l.length : Nat) ∧ xs = l.map d1 ∧ ∀ k, k < l.length → (decT (l.getD k ⟨#[]⟩)).2 = 0) ∨
  ∃ k : Nat, e ≠ 0 ∧ n = (k : Int) ∧ xs = [] ∧ k < l.length ∧ (decT (l.getD k ⟨#[]⟩)).2 = e ∧ ∀ j, j < k → (decT (l.getD j ⟨#[]⟩)).2 = 0
theorem RDL.det {l : List ByteArray} {xs ys : List Res} {n n' e e' : Int} (h : RDL l xs n e) (h' : RDL l ys n' e') : ys = xs ∧ n' = n ∧ e' = e := by
  rcases h with ⟨h1, h2, h3, h4⟩ | ⟨k, h1, h2, h3, h4, h5, h6⟩ <;> rcases h' with ⟨g1, g2, g3, g4⟩ | ⟨k', g1, g2, g3, g4, g5, g6⟩
  · exact ⟨by rw [h3, g3], by rw [h2, g2], by rw [h1, g1]⟩
  · exact absurd (g5.symm.trans (h4 k' g4)) g1
  · exact absurd (h5.symm.trans (g4 k h4)) h1
  · have hk : k = k' := by
      rcases Nat.lt_trichotomy k k' with h | h | h
      · exact absurd (h5.symm.trans (g6 k h)) h1
      · exact h
      · exact absurd (g5.symm.trans (h6 k' h)) g1
    subst hk
    exact ⟨by rw [h3, g3], by rw [h2, g2], by rw [← h5, ← g5]⟩
theorem map_take {l : List ByteArray} {k : Nat} (h : k < l.length) : (l.take (k + 1)).map d1 = (l.take k).map d1 ++ [d1 (l.getD k ⟨#[]⟩)] := by
  rw [List.take_add_one, List.getElem?_eq_getElem h, List.getD_eq_getElem?_getD, List.getElem?_eq_getElem h, List.map_append]; rfl
theorem og_ilrow {w : World} {B : Nat} {v : Value} {l : List (List Int)} (h : OG ilR w B 0 95 v l) : Rs ilR w v l (Ty w 0 resR.ts) ∧ In (Ty w 0 resR.ts) v l.length := by
  refine ⟨h.rs.mono fun b hb => ?_, fun hl b hb => ?_⟩
  · rcases hb with hb | ⟨cs, e, fz, h1, h2⟩
    · exact .inl hb
    · exact .inr ⟨cs, e, fz, h1, List.mem_cons_of_mem _ h2⟩
  · obtain ⟨_, uss, _, ho, _⟩ := h
    exact Ty.own ho (List.mem_cons_self ..) b hb
theorem iires : (Tryz.prog.info? 28).map (fun i => (i.zero, i.size, i.bytes)) = some (some (.agg #[.string ⟨#[]⟩, .int .u64 0, .string ⟨#[]⟩, .string ⟨#[]⟩, .int .i64 0, .int .i64 0, .int .i64 0, .slice none 0 0, .slice none 0 0, .int .i64 0, .int .i64 0]), 11, 144) := by kernel_rfl

set_option maxRecDepth 100000 in
set_option maxHeartbeats 16000000 in
theorem stoAppend (w : World) (v : Value) (l : List ByteArray) (h : SL w v l) (p q : Value) (r : Res) (hp : Rs ilR w p r.pts anyB) (hq : Rs ilR w q r.crs anyB) (hz : ResZ r) (hn : l.length ≤ 9223372036854775807) (ht : Tab w) :
    Calls Tryz.prog 4 #[v, resV p q r] w fun e w' => ∃ u, e = .returned (.tuple #[u, .int .i64 (appT l r).2]) ∧ SL w' u (appT l r).1 ∧ Below w.heap.size w w' := by
  have CE := Lib.hid (fun W (hW : Below w.heap.size w W) => stoEncode W p q r (hp.below hW) (hq.below hW) hz (ht.below hW))
  have HR : Hid (appT l r = if 1024 ≤ l.length then ([], 16) else if (encT r).2 ≠ 0 then ([], (encT r).2) else (l ++ [(encT r).1], 0)) := Lib.hid rfl
  generalize appT l r = ar at *
  generalize encT r = en at *
  obtain ⟨t, er⟩ := en
  simp only at CE HR
  obtain ⟨A1, c1, rfl, -⟩ := hp.slice
  obtain ⟨A2, c2, rfl, -⟩ := hq.slice
  have HS := Lib.hid h
  obtain ⟨A, c, rfl, hc, -⟩ := id h
  clear hp hq hz ht h
  obtain ⟨te, se, de, si, cy, sn, gt, ps, cs, sm, il⟩ := r
  unfold resV at CE ⊢
  simp only at CE ⊢
  generalize ps.length = M at *
  generalize cs.length = N at *
  obtain ⟨i0, hi, hz0, hz1, hz2⟩ := info_parts iistrS
  have JI := Lib.hid hi
  have JZ0 := Lib.hid hz0
  have JZ1 := Lib.hid hz1
  have JZ2 := Lib.hid hz2
  clear hi hz0 hz1 hz2
  obtain ⟨L, hL⟩ : ∃ L, L = l.length := ⟨_, rfl⟩
  have HL := Lib.hid hL
  rw [← hL] at HR HS hc hn ⊢
  clear hL
  go_enter Tryz.func4, Tryz.ntmps4
  go_upto_region 1 with fail
  have XA := Lib.hid (box_new (W := w) (g := w.heap.size) 28 #[.string te, .int .u64 se, .string de, .string si, .int .i64 cy, .int .i64 sn, .int .i64 gt, .slice A1 M c1, .slice A2 N c2, .int .i64 sm, .int .i64 il] (by simp))
  have HB := Lib.hid (below_alloc w (.cells #[.string te, .int .u64 se, .string de, .string si, .int .i64 cy, .int .i64 sn, .int .i64 gt, .slice A1 M c1, .slice A2 N c2, .int .i64 sm, .int .i64 il] 28))
  generalize w.alloc (.cells #[.string te, .int .u64 se, .string de, .string si, .int .i64 cy, .int .i64 sn, .int .i64 gt, .slice A1 M c1, .slice A2 N c2, .int .i64 sm, .int .i64 il] 28) = w1 at *
  replace HS := Lib.hid (HS.out.below HB.out)
  by_cases h1 : 1024 ≤ L
  · have h2 : (1024 : Int) ≤ (L : Int) := by omega
    have HR2 : Hid (ar = ([], 16)) := Lib.hid (by rw [HR.out, if_pos h1])
    clear HR h1
    go_wp2_with fail
    go_ret2
    exact ⟨_, by rw [HR2.out]; rfl, by rw [HR2.out]; exact SL.nil _, HB.out⟩
  have h2 : ¬ (1024 : Int) ≤ (L : Int) := by omega
  have hL2 : L ≤ 1023 := by omega
  rw [if_neg h1] at HR
  clear h1
  have XA_0 := XA.out.at_ 0 _ rfl
  have XA_1 := XA.out.at_ 1 _ rfl
  have XA_2 := XA.out.at_ 2 _ rfl
  have XA_3 := XA.out.at_ 3 _ rfl
  have XA_4 := XA.out.at_ 4 _ rfl
  have XA_5 := XA.out.at_ 5 _ rfl
  have XA_6 := XA.out.at_ 6 _ rfl
  have XA_7 := XA.out.at_ 7 _ rfl
  have XA_8 := XA.out.at_ 8 _ rfl
  have XA_9 := XA.out.at_ 9 _ rfl
  have XA_a := XA.out.at_ 10 _ rfl
  go_wp2_with fail
  refine (CE.out _ HB.out).mono ?_; rintro e w2 ⟨rfl, hb⟩
  clear XA_0 XA_1 XA_2 XA_3 XA_4 XA_5 XA_6 XA_7 XA_8 XA_9 XA_a
  replace HS := Lib.hid (HS.out.below hb)
  replace XA := Lib.hid (XA.out.below hb)
  replace HB := Lib.hid (below_step HB.out hb)
  clear hb
  by_cases he : er = 0
  case neg =>
    have f1 : (er != 0) = true := by simpa using he
    have HR2 : Hid (ar = ([], er)) := Lib.hid (by rw [HR.out, if_pos he])
    clear HR he
    go_wp2_with fail
    go_ret2
    exact ⟨_, by rw [HR2.out]; rfl, by rw [HR2.out]; exact SL.nil _, HB.out⟩
  subst he
  have HR2 : Hid (ar = (l ++ [t], 0)) := Lib.hid (by rw [HR.out, if_neg (by simp)])
  clear HR
  have CL := Lib.hid (slCloneS w2 _ l HS.out (by rw [← HL.out]; omega))
  go_wp2_with fail
  have hz := HB.out.size
  refine CL.out.mono ?_; rintro e w3 ⟨v', rfl, hown, hb⟩
  have O0 := Lib.hid (OG.of_scells hown)
  obtain ⟨A', c', rfl⟩ := own_slice hown
  clear hown CL
  have hzb := hb.size
  replace HS := Lib.hid (HS.out.below hb)
  replace XA := Lib.hid (XA.out.below hb)
  replace HB := Lib.hid (below_step HB.out hb)
  clear hb
  have hbl := below_alloc w3 (.cells #[.string t] 9)
  have HR4 : Hid (Rs strR (w3.alloc (.cells #[.string t] 9)) (.slice (some ⟨w3.heap.size, 0, none⟩) 1 1) [t] (Ty (w3.alloc (.cells #[.string t] 9)) 0 strR.ts)) :=
    Lib.hid (Rs.one (φ := strR) (us := [.string t]) (x := t) rfl 9)
  have O1 := Lib.hid (O0.out.below hbl)
  have HB1 := Lib.hid (below_step HB.out hbl)
  have hsz := HB1.out.size
  have hz3 : w2.heap.size ≤ (w3.alloc (.cells #[.string t] 9)).heap.size := by have := hbl.size; omega
  clear hbl O0
  go_wp2_with (at_builtin; refine wpList_append_og (φ := strR) (T := 9) (B := w2.heap.size) (C := 0) (xs := l) (ys := [t]) rfl _ _ 22 rfl i0 (.string ⟨#[]⟩) 16 Tryz.underlying22 JI.out JZ0.out JZ1.out JZ2.out rfl rfl O1.out (.slice (some ⟨w3.heap.size, 0, none⟩) 1 1) rfl HR4.out ?c1 ?c2 ?c3 ?_)
  case c1 => (try simp only [List.length_cons, List.length_nil]); rw [← HL.out]; omega
  case c2 => (try simp only [List.length_cons, List.length_nil]); rw [← HL.out]; unfold maxLen; omega
  case c3 => first | exact hz3 | simpa using hz3
  intro v' w4 o4 hg4
  have HB4 := Lib.hid (O1.out.belowG hg4.out HB1.out hsz hz)
  obtain ⟨A5, c5, rfl⟩ := o4.out.slice
  clear O1 HB1 hsz hg4 HR4 HS
  go_wp2_with fail
  go_ret2
  exact ⟨_, by rw [HR2.out]; rfl, by rw [HR2.out]; exact o4.out.any.sl, HB4.out⟩

set_option maxRecDepth 100000 in
set_option maxHeartbeats 16000000 in
theorem stoRead (w : World) (v : Value) (l : List ByteArray) (h : SL w v l) (hn : l.length ≤ 1100000) (hz : ∀ s ∈ l, s.size ≤ maxLen) :
    Calls Tryz.prog 6 #[v] w fun e w' => ∃ (u : Value) (xs : List Res) (n er : Int), e = .returned (.tuple #[u, .int .i64 n, .int .i64 er]) ∧ RDL l xs n er ∧ Rs resR w' u xs anyB ∧ Below w.heap.size w w' := by
  have HZ := Lib.hid (fun k (hk : k < l.length) => hz _ (getD_mem (l := l) (k := k) ⟨#[]⟩ hk))
  have HM := Lib.hid (fun k (hk : k < l.length) => map_take (l := l) (k := k) hk)
  have HML := Lib.hid (fun k (hk : k ≤ l.length) => (show ((l.take k).map d1).length = k by rw [List.length_map, List.length_take]; omega))
  obtain ⟨A, c, rfl, hc, hs⟩ := h
  obtain ⟨N, hN⟩ : ∃ N, N = l.length := ⟨_, rfl⟩
  have HN := Lib.hid hN
  rw [← hN] at hs hc hn HM HZ HML ⊢
  have HS := Lib.hid hs
  obtain ⟨i0, hi, hz0, hz1, hz2⟩ := info_parts iires
  have JI := Lib.hid hi
  have JZ0 := Lib.hid hz0
  have JZ1 := Lib.hid hz1
  have JZ2 := Lib.hid hz2
  have HEND : Hid ((∀ j, j < N → (decT (l.getD j ⟨#[]⟩)).2 = 0) → RDL l ((l.take N).map d1) (N : Nat) 0) := Lib.hid fun h => .inl ⟨rfl, by rw [← hN], by rw [hN, List.take_length], fun k hk => h k (by omega)⟩
  have HBAD : Hid (∀ k, k < N → (∀ j, j < k → (decT (l.getD j ⟨#[]⟩)).2 = 0) → ∀ e, (decT (l.getD k ⟨#[]⟩)).2 = e → e ≠ 0 → RDL l [] (k : Nat) e) := Lib.hid fun k hk h e he h0 => .inr ⟨k, h0, rfl, rfl, by omega, he, h⟩
  clear hs hN hz hi hz0 hz1 hz2
  go_enter Tryz.func6, Tryz.ntmps6
  go_wp2_with fail
  go_loopw [5, 12] (fun ov i wr => ∃ (k : Nat), k ≤ N ∧ i = .int .i64 k ∧ Hid (∀ j, j < k → (decT (l.getD j ⟨#[]⟩)).2 = 0) ∧ OG resR wr w.heap.size 0 28 ov ((l.take k).map d1) ∧ Below w.heap.size w wr) (fun _ i _ => N - (intOf i).toNat)
  case atStart => exact ⟨0, Nat.zero_le _, rfl, Lib.hid (fun j hj => by omega), OG.nil resR _ _ _ _ (by decide) (Nat.zero_le _), Below.refl _ _⟩
  case round =>
    obtain ⟨k, hk, rfl, HD, hog, hb⟩ := hrel
    have HB := Lib.hid hb
    have HOG := Lib.hid hog
    obtain ⟨OA, oc, rfl⟩ := hog.slice
    have hlen := HML.out k hk
    rw [hlen] at HOG ⊢
    clear hb hog
    by_cases hlt : k < N
    · have hlt2 : (k : Int) < N := by omega
      have hk0 : (0 : Int) ≤ (k : Int) := by omega
      obtain ⟨a, rfl, hr⟩ := HS.out (by omega)
      have hcell := (hr.below HB.out).cells k (by rw [← HN.out]; exact hlt)
      have CD := Lib.hid (fun W => stoDecode (l.getD k ⟨#[]⟩) (HZ.out k hlt) W)
      have HMk := Lib.hid (HM.out k hlt)
      have HNO := Lib.hid (fun e => HBAD.out k hlt HD.out e)
      have HYES : Hid ((decT (l.getD k ⟨#[]⟩)).2 = 0 → ∀ j, j < k + 1 → (decT (l.getD j ⟨#[]⟩)).2 = 0) := Lib.hid fun h j hj => by
        by_cases e : j = k
        · rw [e]; exact h
        · exact HD.out j (by omega)
      generalize (l.take k).map d1 = acc at *
      have HLL : Hid (acc.length = k) := Lib.hid hlen
      obtain ⟨nx, hnx⟩ : ∃ x, x = (l.take (k + 1)).map d1 := ⟨_, rfl⟩
      have HNX : Hid (nx = acc ++ [(decT (l.getD k ⟨#[]⟩)).1]) := Lib.hid (by rw [hnx]; exact HMk.out)
      have HNE := Lib.hid hnx
      unfold DEC at CD
      clear hlen hr HD HMk hnx
      generalize l.getD k ⟨#[]⟩ = s at *
      generalize decT s = d at *
      obtain ⟨r, er⟩ := d
      simp only at CD HNX HYES HNO
      obtain ⟨wo, rfl⟩ : ∃ x : World, x = wr := ⟨_, rfl⟩
      go_wp2_with fail
      clear hcell
      refine (CD.out _).mono ?_; rintro e w2 ⟨p, q, rfl, ho1, ho2, hb⟩
      replace HOG := Lib.hid (HOG.out.below hb)
      replace HB := Lib.hid (below_step HB.out hb)
      clear hb
      have P1 := Lib.hid ho1
      have Q1 := Lib.hid ho2
      obtain ⟨A1, c1, rfl⟩ := ho1.slice
      obtain ⟨A2, c2, rfl⟩ := ho2.slice
      clear ho1 ho2 CD
      obtain ⟨te, se, de, si, cy, sn, gt, ps, cs, sm, il⟩ := r
      simp only [resV] at P1 Q1 ⊢
      have HROW : Hid (∀ W, OG ilR W wo.heap.size 0 95 (.slice A1 ps.length c1) ps → OG ilR W wo.heap.size 0 95 (.slice A2 cs.length c2) cs → resR.R W [.string te, .int .u64 (se : Nat), .string de, .string si, .int .i64 cy, .int .i64 sn, .int .i64 gt, .slice A1 ps.length c1, .slice A2 cs.length c2, .int .i64 sm, .int .i64 il] ⟨te, se, de, si, cy, sn, gt, ps, cs, sm, il⟩ (Ty W 0 resR.ts)) :=
        Lib.hid fun W h1 h2 => ⟨_, _, rfl, og_ilrow h1, og_ilrow h2⟩
      generalize ps.length = M at *
      generalize cs.length = N2 at *
      go_upto_region 6 with fail
      have XA := Lib.hid (box_new (W := w2) (g := w2.heap.size) 28 #[.string te, .int .u64 se, .string de, .string si, .int .i64 cy, .int .i64 sn, .int .i64 gt, .slice A1 M c1, .slice A2 N2 c2, .int .i64 sm, .int .i64 il] (by simp))
      have hba := (below_alloc w2 (.cells #[.string te, .int .u64 se, .string de, .string si, .int .i64 cy, .int .i64 sn, .int .i64 gt, .slice A1 M c1, .slice A2 N2 c2, .int .i64 sm, .int .i64 il] 28))
      replace HOG := Lib.hid (HOG.out.below hba)
      replace P1 := Lib.hid (P1.out.below hba)
      replace Q1 := Lib.hid (Q1.out.below hba)
      replace HB := Lib.hid (below_step HB.out hba)
      clear hba
      generalize w2.alloc (.cells #[.string te, .int .u64 se, .string de, .string si, .int .i64 cy, .int .i64 sn, .int .i64 gt, .slice A1 M c1, .slice A2 N2 c2, .int .i64 sm, .int .i64 il] 28) = w3 at *
      by_cases he : er = 0
      case neg =>
        have f1 : (er != 0) = true := by simpa using he
        have HX := Lib.hid (HNO.out er rfl he)
        clear HNO HYES he HROW
        go_wp2_with fail
        go_ret3
        exact ⟨_, _, _, _, rfl, HX.out, Rs.nil _ _ _, HB.out⟩
      subst he
      have HD2 := Lib.hid (HYES.out rfl)
      clear HNO HYES
      go_upto_region 8 with fail
      have XA_0 := XA.out.at_ 0 _ rfl
      have XA_1 := XA.out.at_ 1 _ rfl
      have XA_2 := XA.out.at_ 2 _ rfl
      have XA_3 := XA.out.at_ 3 _ rfl
      have XA_4 := XA.out.at_ 4 _ rfl
      have XA_5 := XA.out.at_ 5 _ rfl
      have XA_6 := XA.out.at_ 6 _ rfl
      have XA_7 := XA.out.at_ 7 _ rfl
      have XA_8 := XA.out.at_ 8 _ rfl
      have XA_9 := XA.out.at_ 9 _ rfl
      have XA_a := XA.out.at_ 10 _ rfl
      have hbl := below_alloc w3 (.cells #[.string te, .int .u64 se, .string de, .string si, .int .i64 cy, .int .i64 sn, .int .i64 gt, .slice A1 M c1, .slice A2 N2 c2, .int .i64 sm, .int .i64 il] 28)
      have HR4 : Hid (Rs resR (w3.alloc (.cells #[.string te, .int .u64 se, .string de, .string si, .int .i64 cy, .int .i64 sn, .int .i64 gt, .slice A1 M c1, .slice A2 N2 c2, .int .i64 sm, .int .i64 il] 28)) (.slice (some ⟨w3.heap.size, 0, none⟩) 1 1) [⟨te, se, de, si, cy, sn, gt, ps, cs, sm, il⟩] (Ty (w3.alloc (.cells #[.string te, .int .u64 se, .string de, .string si, .int .i64 cy, .int .i64 sn, .int .i64 gt, .slice A1 M c1, .slice A2 N2 c2, .int .i64 sm, .int .i64 il] 28)) 0 resR.ts)) :=
        Lib.hid ((Rs.one (φ := resR) (HROW.out _ P1.out Q1.out) 28).mono fun q hq => hq.below hbl)
      have HOGa := Lib.hid (HOG.out.below hbl)
      have HBa := Lib.hid (below_step HB.out hbl)
      have hsz := HBa.out.size
      clear hbl HROW
      go_wp2_with (at_builtin; refine wpList_append_og (φ := resR) (T := 28) (B := w.heap.size) (C := 0) (xs := acc) (ys := [⟨te, se, de, si, cy, sn, gt, ps, cs, sm, il⟩]) rfl _ _ 32 rfl i0 (.agg #[.string ⟨#[]⟩, .int .u64 0, .string ⟨#[]⟩, .string ⟨#[]⟩, .int .i64 0, .int .i64 0, .int .i64 0, .slice none 0 0, .slice none 0 0, .int .i64 0, .int .i64 0]) 144 Tryz.underlying32 JI.out JZ0.out JZ1.out JZ2.out rfl rfl HOGa.out (.slice (some ⟨w3.heap.size, 0, none⟩) 1 1) rfl HR4.out ?c1 ?c2 ?c3 ?_)
      case c1 => (try simp only [List.length_cons, List.length_nil]); rw [HLL.out]; omega
      case c2 => (try simp only [List.length_cons, List.length_nil]); rw [HLL.out]; unfold maxLen; omega
      case c3 => first | exact hsz | simpa using hsz
      intro v' w10 hog7 hg7
      have HB10 := Lib.hid (HOGa.out.belowG hg7.out HBa.out hsz (Nat.le_refl _))
      clear HOGa HBa hsz hg7 HR4 HOG HB P1 Q1 XA
      clear XA_0 XA_1 XA_2 XA_3 XA_4 XA_5 XA_6 XA_7 XA_8 XA_9 XA_a
      go_wp2_with fail
      go_roundw
      case rel => exact ⟨k + 1, by omega, by go_num, HD2, by rw [← HNE.out, HNX.out]; exact hog7.out, HB10.out⟩
      case measure => simp [intOf] <;> omega
    · have hlt2 : ¬ (k : Int) < N := by omega
      have hkN : k = N := by omega
      have HX : Hid (RDL l ((l.take k).map d1) (N : Nat) 0) := Lib.hid (by rw [hkN]; exact HEND.out (fun j hj => HD.out j (by omega)))
      clear hkN hlen
      generalize (l.take k).map d1 = acc at *
      go_wp2_with fail
      go_ret3
      exact ⟨_, _, _, _, rfl, HX.out, HOG.out.any, HB.out⟩

end Go.Proofs.YtbgficaboolgiaaGreatDoor

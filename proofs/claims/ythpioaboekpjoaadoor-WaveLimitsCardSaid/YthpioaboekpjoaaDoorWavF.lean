/-
  Contract of wave.Parse.
-/
import Derived.Test.YthpioaboekpjoaaDoorWavD
namespace Go.Proofs.YthpioaboekpjoaaDoor
open Go.RowKit
set_option linter.unusedVariables false
set_option linter.unusedSimpArgs false

theorem strSplitX (b : UInt8) (s : ByteArray) (w : World) (hs : s.size ≤ 2000000) (h : MLen w) :
    Calls Tryd.prog 34 #[.string s, .string ⟨#[b]⟩] w fun e w' => e = .returned (.slice (some ⟨w.heap.size, 0, none⟩) (words b s).length (words b s).length) ∧ (Box w' w.heap.size (scells (words b s)).toArray 9 ∧ Below w.heap.size w w') := by
  obtain ⟨m, hm⟩ := h
  refine (Tryd.strings_Split s ⟨#[b]⟩ m w (by omega) hm (Nat.le_refl 1)).mono fun e w' ⟨he, hw⟩ => ?_
  rw [split_words b s.size s (Nat.le_refl _)] at hw
  refine ⟨by rw [words_len]; exact he, ?_, ?_⟩
  · rw [hw]; exact Box.new _ _ _
  · rw [hw]; exact below_alloc _ _
theorem SL.setBoxW {w : World} {v : Value} {l : List ByteArray} {g i : Nat} {u : Value} {cs : Array Value} {t : TypeId} (h : SL w v l) (hb : Box w g cs t) (hc : ∀ c ∈ cs.toList, ∀ s, c ≠ .string s) : SL (w.setCell ⟨g, i, none⟩ u) v l := by
  obtain ⟨A, c, rfl, hl, hs⟩ := h
  refine ⟨A, c, rfl, hl, fun hp => ?_⟩
  obtain ⟨a, rfl, hr⟩ := hs hp
  have hne : a.block ≠ g := fun e => by
    have h0 := hr.cells 0 hp
    rw [add_zero] at h0
    have hsp := cell_spot h0
    obtain ⟨b, o, sp⟩ := a
    simp only at e hsp
    subst e hsp
    rw [hb.cell] at h0
    obtain ⟨ho, he⟩ := Array.getElem?_eq_some_iff.1 h0
    exact hc _ (by rw [← he]; exact by simp) _ rfl
  refine ⟨a, rfl, by simpa [World.setCell] using hr.lt, fun j hj => ?_⟩
  rw [World.cell?_setCell_other _ _ _ _ (fun e => hne (by have := congrArg Addr.block e; rw [block_of_add] at this; exact this.symm))]
  exact hr.cells j hj
/-- What a parsed trace is. -/
def PARW (w : World) (r : List ByteArray × List (List Int) × Int) (e : Ending) (w' : World) : Prop :=
  ∃ v1 v2, e = .returned (.tuple #[.agg #[v1, v2], .int .i64 r.2.2]) ∧ SL w' v1 r.1 ∧ Rs ilR w' v2 r.2.1 anyB ∧ Below w.heap.size w w'
def zrs (w : World) (g : Nat) : World := (w.setCell ⟨g, 0, none⟩ (.slice none 0 0)).setCell ⟨g, 1, none⟩ (.slice none 0 0)
theorem below_zrs {b0 g : Nat} {w w' : World} (h : Below b0 w w') (hg : b0 ≤ g) : Below b0 w (zrs w' g) := (h.setCell (p := ⟨g, 0, none⟩) hg _).setCell (p := ⟨g, 1, none⟩) hg _
theorem parw_no {w w' : World} {r : List ByteArray × List (List Int) × Int} {n : Int} (hr : r = ([], [], n)) (h : Below w.heap.size w w') : PARW w r (.returned (.tuple #[.agg #[.slice none 0 0, .slice none 0 0], .int .i64 n])) w' := by
  rw [hr]
  exact ⟨_, _, rfl, SL.nil _, Rs.nil _ _ _, h⟩
theorem ilist : (Tryd.prog.info? 44).map (fun i => (i.zero, i.size, i.bytes)) = some (some (.slice none 0 0), 1, 24) := by kernel_rfl
theorem cutS_size (s : ByteArray) : (cutS s).size ≤ s.size := by
  unfold cutS Lib.trimSuffix
  rw [Lib.size_eq, Lib.size_eq]
  simp only
  split
  · simp only [List.length_take]; omega
  · simp

set_option maxRecDepth 100000 in
set_option maxHeartbeats 8000000 in
theorem wavParse (s : ByteArray) (w : World) (hs : s.size ≤ 2000000) (hk : KW w) (hm : MLen w) :
    Calls Tryd.prog 12 #[.string s] w (PARW w (parseW s)) := by
  have HK := Lib.hid hk
  have HM := Lib.hid hm
  have C0 : Hid (∀ W, Calls Tryd.prog 33 #[.string s, .string ⟨#[10]⟩] W fun e w' => e = .returned (.tuple #[.string (cutS s), .bool (endB s)]) ∧ W = w') := Lib.hid fun W =>
    (Tryd.strings_CutSuffix s ⟨#[10]⟩ W (by omega)).mono fun e w' ⟨he, hw⟩ => ⟨he, hw.symm⟩
  have hts := cutS_size s
  have HP : Hid (parseW s = if endB s = true then
    (if hdrT (lineW ((words 10 (cutS s)).getD 0 ⟨#[]⟩)) = 0 then
      (if (rowsR (lineW ((words 10 (cutS s)).getD 0 ⟨#[]⟩)).length (words 10 (cutS s)).tail []).2 = 0 then
        (lineW ((words 10 (cutS s)).getD 0 ⟨#[]⟩), (rowsR (lineW ((words 10 (cutS s)).getD 0 ⟨#[]⟩)).length (words 10 (cutS s)).tail []).1, 0)
      else ([], [], (rowsR (lineW ((words 10 (cutS s)).getD 0 ⟨#[]⟩)).length (words 10 (cutS s)).tail []).2))
    else ([], [], hdrT (lineW ((words 10 (cutS s)).getD 0 ⟨#[]⟩))))
  else ([], [], 5)) := Lib.hid rfl
  generalize parseW s = r at *
  generalize endB s = eb at *
  generalize cutS s = x at *
  clear hk hm
  cases eb
  case false =>
    have HR : Hid (r = ([], [], 5)) := Lib.hid (by rw [HP.out]; rfl)
    clear HP hts hs
    go_enter Tryd.func12, Tryd.ntmps12
    go_wp2_with fail
    have XR := Lib.hid (box_new (W := w) (g := w.heap.size) 26 #[.slice none 0 0, .slice none 0 0] (by simp))
    have HB := Lib.hid (below_alloc w (.cells #[.slice none 0 0, .slice none 0 0] 26))
    generalize w.alloc (.cells #[.slice none 0 0, .slice none 0 0] 26) = w1 at *
    refine (C0.out _).mono ?_; rintro e w' ⟨rfl, rfl⟩
    have XR_0 := XR.out.at_ 0 _ rfl
    have XR_1 := XR.out.at_ 1 _ rfl
    have XR_l := XR.out.lt
    have XR_z0 := XR.out.frozen 0
    have XR_z1 := XR.out.frozen 1
    go_wp2_with fail
    refine bodyPost_ret (v := .tuple #[.agg #[.slice none 0 0, .slice none 0 0], .int .i64 5]) (by simp [results, Tryd.results12, go_sem, XR_0, XR_1, XR_l]) rfl ?_
    exact parw_no HR.out (below_zrs (g := w.heap.size) HB.out (Nat.le_refl _))
  case true =>
    have C1 := Lib.hid (fun W h => strSplitX 10 x W (by omega) h)
    have hwl := words_le 10 x
    have hwz := words_size 10 x.size x (Nat.le_refl _)
    have hwn := words_ne 10 x
    generalize words 10 x = ws at *
    obtain ⟨x0, tl, rfl⟩ : ∃ a l, ws = a :: l := by
      cases ws with
      | nil => exact absurd rfl hwn
      | cons a l => exact ⟨a, l, rfl⟩
    have hz0 : x0.size ≤ 2000000 := by have := hwz x0 (by simp); omega
    have hzt : ∀ k, k < tl.length → (tl.getD k ⟨#[]⟩).size ≤ 2000000 := fun k hk => by have := hwz _ (List.mem_cons_of_mem x0 (getD_mem ⟨#[]⟩ hk)); omega
    have HZT := Lib.hid hzt
    rw [if_pos rfl] at HP
    simp only [List.getD_cons_zero, List.tail_cons] at HP
    have C2 := Lib.hid (fun W h => wavWords x0 W hz0 h)
    have hnl := lineW_len x0
    have hnz := lineW_size x0
    generalize lineW x0 = ns at *
    have C3 : Hid (∀ W v, SL W v ns → KW W → MLen W → Calls Tryd.prog 36 #[v] W fun e w' => e = .returned (.int .i64 (hdrT ns)) ∧ Below W.heap.size W w') := Lib.hid fun W v a b c => wavHeader W v ns a (fun s h => by have := hnz s h; omega) (by omega) b c
    have C4 : Hid (∀ k, k < tl.length → ∀ W, MLen W → Calls Tryd.prog 37 #[.string (tl.getD k ⟨#[]⟩), .int .i64 (ns.length : Nat)] W (ROWT W (rowT ns.length (tl.getD k ⟨#[]⟩)))) := Lib.hid fun k hk W h => wavRow _ ns.length W (hzt k hk) (by omega) h
    have HD := Lib.hid (fun k hk acc => rowsR_drop (n := ns.length) (l := tl) (k := k) hk acc)
    have HE := Lib.hid (rowsR_end ns.length tl)
    have hn2 : ns.length ≤ 2000001 := by omega
    obtain ⟨N, hN⟩ : ∃ N, N = ns.length := ⟨_, rfl⟩
    have HN := Lib.hid hN
    obtain ⟨K, hK⟩ : ∃ K, K = tl.length := ⟨_, rfl⟩
    have HKL := Lib.hid hK
    have hKb : K ≤ 2000001 := by simp only [List.length_cons] at hwl; omega
    rw [← hN] at C4 HD HE HP hn2
    rw [← hK] at HE C4
    generalize hdrT ns = he at *
    clear hwl hwz hwn hz0 hzt hnl hnz hN hK hts hs
    go_enter Tryd.func12, Tryd.ntmps12
    go_wp2_with fail
    have XR := Lib.hid (box_new (W := w) (g := w.heap.size) 26 #[.slice none 0 0, .slice none 0 0] (by simp))
    have HB := Lib.hid (below_alloc w (.cells #[.slice none 0 0, .slice none 0 0] 26))
    generalize w.alloc (.cells #[.slice none 0 0, .slice none 0 0] 26) = w1 at *
    refine (C0.out _).mono ?_; rintro e w' ⟨rfl, rfl⟩
    clear C0
    go_wp2_with fail
    refine (C1.out _ (HM.out.below HB.out)).mono ?_; rintro e w2 ⟨rfl, hbx, hb⟩
    simp only [List.length_cons, ← HKL.out] at hbx ⊢
    have XW := Lib.hid hbx
    have hgw : w.heap.size < w1.heap.size := XR.out.lt
    clear hbx C1
    replace XR := Lib.hid (XR.out.below hb)
    replace HB := Lib.hid (below_step HB.out hb)
    clear hb
    generalize w1.heap.size = gw at *
    have q0 : w2.cell? ⟨gw, 0, none⟩ = some (.string x0) := XW.out.at_ 0 _ rfl
    go_wp2_with fail
    refine (C2.out _ (HM.out.below HB.out)).mono ?_; rintro e w3 ⟨nv, rfl, hsl, hb⟩
    have SN := Lib.hid hsl
    obtain ⟨NA, nc, rfl, hnc, -⟩ := hsl
    rw [← HN.out] at hnc SN ⊢
    clear q0 C2
    replace XR := Lib.hid (XR.out.below hb)
    replace XW := Lib.hid (XW.out.below hb)
    replace HB := Lib.hid (below_step HB.out hb)
    clear hb
    have XR3 := XR
    have XW3 := XW
    have SN3 := SN
    have HB3 := HB
    have hg3 : gw < w3.heap.size := XW.out.lt
    go_upto_region 6 with fail
    have HC := Lib.hid (below_alloc w3 (.cells #[.slice NA N nc, .slice none 0 0] 26))
    have XT := Lib.hid (box_new (W := w3) (g := w3.heap.size) 26 #[.slice NA N nc, .slice none 0 0] (by simp))
    have hba := (below_alloc w3 (.cells #[.slice NA N nc, .slice none 0 0] 26))
    replace SN := Lib.hid (SN.out.below hba)
    replace XR := Lib.hid (XR.out.below hba)
    replace XW := Lib.hid (XW.out.below hba)
    replace HB := Lib.hid (below_step HB.out hba)
    clear hba
    generalize w3.alloc (.cells #[.slice NA N nc, .slice none 0 0] 26) = w4 at *
    have XT_0 := XT.out.at_ 0 _ rfl
    go_wp2_with fail
    refine (C3.out _ _ SN.out (HK.out.below HB.out) (HM.out.below HB.out)).mono ?_; rintro e w5 ⟨rfl, hb⟩
    replace HC := Lib.hid (below_step HC.out hb)
    clear C3
    clear XT_0
    replace SN := Lib.hid (SN.out.below hb)
    replace XR := Lib.hid (XR.out.below hb)
    replace XW := Lib.hid (XW.out.below hb)
    replace XT := Lib.hid (XT.out.below hb)
    replace HB := Lib.hid (below_step HB.out hb)
    clear hb
    by_cases hhe : he = 0
    case neg =>
      have f1 : (he != 0) = true := by simpa using hhe
      have HR : Hid (r = ([], [], he)) := Lib.hid (by rw [HP.out, if_neg hhe])
      clear HP hhe
      have XR_0 := XR.out.at_ 0 _ rfl
      have XR_1 := XR.out.at_ 1 _ rfl
      have XR_l := XR.out.lt
      have XR_z0 := XR.out.frozen 0
      have XR_z1 := XR.out.frozen 1
      go_wp2_with fail
      refine bodyPost_ret (v := .tuple #[.agg #[.slice none 0 0, .slice none 0 0], .int .i64 he]) (by simp [results, Tryd.results12, go_sem, XR_0, XR_1, XR_l]) rfl ?_
      exact parw_no HR.out (below_zrs (g := w.heap.size) HB.out (Nat.le_refl _))
    case pos =>
      subst hhe
      rw [if_pos rfl] at HP
      obtain ⟨i0, hi, hz0, hz1, hz2⟩ := info_parts ilist
      have JI := Lib.hid hi
      have JZ0 := Lib.hid hz0
      have JZ1 := Lib.hid hz1
      have JZ2 := Lib.hid hz2
      clear hi hz0 hz1 hz2
      have H0 : Hid (rowsR N tl [] = rowsR N (tl.drop 0) []) := Lib.hid (by rw [List.drop_zero])
      have hw3 : w.heap.size ≤ w3.heap.size := HB3.out.size
      have HXW : Hid (∀ k, k < K → ∀ W, Below w3.heap.size w3 W → W.cell? ⟨gw, 1 + k, none⟩ = some (.string (tl.getD k ⟨#[]⟩))) := Lib.hid fun k hk W hW => by
        have hk2 : k < tl.length := by rw [← HKL.out]; exact hk
        refine (XW3.out.below hW).at_ (1 + k) _ ?_
        rw [List.getElem?_toArray, scells, List.getElem?_map, Nat.add_comm 1 k, List.getElem?_cons_succ, List.getD_eq_getElem?_getD, List.getElem?_eq_getElem hk2]; rfl
      clear XW XW3 SN XR
      go_upto_region 9 with fail
      go_cut [36, 37, 38] from 35 to 38 (fun s36 s37 s38 wx => ∃ o : Nat, s36 = .slice (some ⟨gw, o, none⟩) K K ∧ (0 < K → o = 1) ∧ s37 = .int .i64 K ∧ s38 = .int .i64 0 ∧ wx = w5)
      case first =>
        clear HKL HE HXW C4
        rcases Nat.eq_zero_or_pos K with hK0 | hK0
        · subst hK0
          go_wp2_with fail
          go_meet
          exact ⟨0, rfl, fun h => absurd h (by omega), rfl, rfl, rfl⟩
        · have hK1 : ¬ K = 0 := by omega
          go_wp2_with fail
          go_meet
          exact ⟨1, rfl, fun _ => rfl, rfl, rfl, rfl⟩
      case rest =>
        obtain ⟨o, rfl, ho, rfl, rfl, rfl⟩ := hcut
        have HO := Lib.hid ho
        clear ho
        go_wp2_with fail
        go_loopw [38] (fun i wr => ∃ (k : Nat) (acc : List (List Int)) (RA : Option Addr) (rc : Nat), k ≤ K ∧ i = .int .i64 k ∧ Hid (rowsR N tl [] = rowsR N (tl.drop k) acc) ∧ Hid (acc.length ≤ 4096) ∧ OG ilR wr w3.heap.size 0 44 (.slice RA acc.length rc) acc ∧ Box wr w3.heap.size #[.slice NA N nc, .slice RA acc.length rc] 26 ∧ Below w3.heap.size w3 wr ∧ Below w.heap.size w wr) (fun i _ => K - (intOf i).toNat)
        case atStart => exact ⟨0, [], none, 0, Nat.zero_le _, rfl, H0, Lib.hid (by simp), OG.nil ilR _ _ _ _ (by decide) (Nat.zero_le _), XT.out, HC.out, HB.out⟩
        case round =>
          clear HB HC XT H0
          obtain ⟨k, acc, RA, rc, hk, rfl, HRR, HA4, hog, hxt, hc, hb⟩ := hrel
          have HC := Lib.hid hc
          have HB := Lib.hid hb
          have HOG := Lib.hid hog
          have XT := Lib.hid hxt
          have XR := Lib.hid (XR3.out.below hc)
          obtain ⟨L, hL⟩ : ∃ L, L = acc.length := ⟨_, rfl⟩
          have HL := Lib.hid hL
          rw [← hL] at HOG XT HA4
          clear hb hc hog hxt hL
          by_cases hlt : k < K
          · have hlt2 : (k : Int) < K := by omega
            have hk0 : (0 : Int) ≤ (k : Int) := by omega
            have hkn : k < tl.length := by rw [← HKL.out]; exact hlt
            obtain rfl : o = 1 := HO.out (by omega)
            have q1 := HXW.out k hlt _ HC.out
            have CRk := Lib.hid (C4.out k hlt)
            have HDk := Lib.hid (HRR.out.trans (HD.out k hkn acc))
            have hzl := HZT.out k hkn
            rw [← HL.out] at HDk
            generalize tl.getD k ⟨#[]⟩ = y at *
            obtain ⟨⟨row, re⟩, hrow⟩ : ∃ q, q = rowT N y := ⟨_, rfl⟩
            rw [← hrow] at CRk HDk
            simp only at HDk
            unfold ROWT at CRk
            simp only at CRk
            clear hrow hkn HRR
            by_cases h4 : 4096 ≤ L
            · have f1 : (4096 : Int) ≤ (L : Int) := by omega
              have HR2 : Hid (r = ([], [], 2)) := Lib.hid (by rw [HP.out, HDk.out, if_pos h4]; rfl)
              clear HDk HP h4 CRk
              have XT_1 := XT.out.at_ 1 _ rfl
              have XR_0 := XR.out.at_ 0 _ rfl
              have XR_1 := XR.out.at_ 1 _ rfl
              have XR_l := XR.out.lt
              have XR_z0 := XR.out.frozen 0
              have XR_z1 := XR.out.frozen 1
              go_wp2_with fail
              refine bodyPost_ret (v := .tuple #[.agg #[.slice none 0 0, .slice none 0 0], .int .i64 2]) (by simp [results, Tryd.results12, go_sem, XR_0, XR_1, XR_l]) rfl ?_
              exact parw_no HR2.out (below_zrs (g := w.heap.size) HB.out (Nat.le_refl _))
            · have f1 : ¬ (4096 : Int) ≤ (L : Int) := by omega
              rw [if_neg h4] at HDk
              have XT_0 := XT.out.at_ 0 _ rfl
              have XT_1 := XT.out.at_ 1 _ rfl
              go_wp2_with fail
              refine (CRk.out _ (HM.out.below HB.out)).mono ?_; rintro e w6 ⟨rv, rfl, hrg, hb⟩
              have HRG := Lib.hid hrg
              have HS6 := Lib.hid hb.size
              replace HC := Lib.hid (below_step HC.out hb)
              clear hrg CRk q1 XT_0 XT_1
              replace XT := Lib.hid (XT.out.below hb)
              replace XR := Lib.hid (XR.out.below hb)
              replace HOG := Lib.hid (HOG.out.below hb)
              replace HB := Lib.hid (below_step HB.out hb)
              clear hb
              by_cases hre : re = 0
              · subst hre
                have f2 : ((0 : Int) != 0) = false := rfl
                rw [if_pos rfl] at HDk
                have HG := Lib.hid (HRG.out rfl)
                obtain ⟨RB, rd, rfl⟩ := HG.out.slice
                clear HRG
                have hbl := below_alloc w6 (.cells #[.slice RB row.length rd] 44)
                have HR4 : Hid (Rs ilR (w6.alloc (.cells #[.slice RB row.length rd] 44)) (.slice (some ⟨w6.heap.size, 0, none⟩) 1 1) [row] (Ty (w6.alloc (.cells #[.slice RB row.length rd] 44)) 0 ilR.ts)) :=
                  Lib.hid ((Rs.one (φ := ilR) (us := [.slice RB row.length rd]) (x := row) (HG.out.rowR 0) 44).mono fun q hq => hq.below hbl)
                have HOGa := Lib.hid (HOG.out.below hbl)
                have HBa := Lib.hid (below_step HB.out hbl)
                have HCa := Lib.hid (below_step HC.out hbl)
                have XTa := Lib.hid (XT.out.below hbl)
                have XT_1 := XT.out.at_ 1 _ rfl
                have HACC : Hid ((acc ++ [row]).length = L + 1) := Lib.hid (by rw [List.length_append, HL.out]; rfl)
                clear hbl HG
                generalize row.length = RL at *
                go_wp2_with (at_builtin; refine wpList_append_og (φ := ilR) (T := 44) (B := w3.heap.size) (C := 0) (xs := acc) (ys := [row]) rfl _ _ 24 rfl i0 (.slice none 0 0) 24 Tryd.underlying24 JI.out JZ0.out JZ1.out JZ2.out rfl rfl HOGa.out (.slice (some ⟨w6.heap.size, 0, none⟩) 1 1) rfl HR4.out ?c1 ?c2 ?c3 ?_)
                case c1 => (try simp only [List.length_cons, List.length_nil]); rw [← HL.out]; have := HA4.out; omega
                case c2 => (try simp only [List.length_cons, List.length_nil]); rw [← HL.out]; have := HA4.out; unfold maxLen; omega
                case c3 => have := HCa.out.size; first | exact this | simpa using this
                intro v' w7 hog7 hg7
                clear XT_1 HB HC HOG XT
                have XT := Lib.hid (HOGa.out.boxKept hg7.out XTa.out (.inl (by decide)))
                have HB := Lib.hid (HOGa.out.belowG hg7.out HBa.out HBa.out.size hw3)
                have HC := Lib.hid (HOGa.out.belowG hg7.out HCa.out HCa.out.size (Nat.le_refl _))
                obtain ⟨A7, c7, hv'⟩ := hog7.out.slice
                rw [HACC.out] at hv'
                subst hv'
                clear HOGa HBa HCa XTa hg7 HR4 XR
                have HOG := hog7
                clear hog7
                have HC' := Lib.hid (HC.out.setCell (p := ⟨w3.heap.size, 1, none⟩) (Nat.le_refl _) (.slice A7 (L + 1) c7))
                clear HC
                have hHA : Hid (L + 1 ≤ 4096) := Lib.hid (by omega)
                have XT' := Lib.hid (XT.out.set_ 1 (.slice A7 (L + 1) c7))
                have HOG' := Lib.hid (HOG.out.setBox XT.out (by decide) (by omega) (by decide) 1 (.slice A7 (L + 1) c7))
                have HB' := Lib.hid (HB.out.setCell (p := ⟨w3.heap.size, 1, none⟩) (by show w.heap.size ≤ w3.heap.size; omega) (.slice A7 (L + 1) c7))
                have XT_1 := XT.out.at_ 1 _ rfl
                have XT_l := XT.out.lt
                have XT_z1 := XT.out.frozen 1
                go_upto_region 18 with fail
                clear XT_1 XT_l XT_z1
                clear HB XT HOG
                generalize w7.setCell ⟨w3.heap.size, 1, none⟩ (.slice A7 (L + 1) c7) = w8 at *
                have XT : Hid (Box w8 w3.heap.size #[.slice NA N nc, .slice A7 (L + 1) c7] 26) := XT'
                have HOG := HOG'
                have HB := HB'
                clear HB' XT' HOG'
                go_wp2_with fail
                go_roundw
                case rel => exact ⟨k + 1, acc ++ [row], A7, c7, by omega, by go_num, HDk, by rw [HACC.out]; exact hHA, by rw [HACC.out]; exact HOG.out, by rw [HACC.out]; exact XT.out, HC'.out, HB.out⟩
                case measure => simp [intOf]; omega
              · have f2 : (re != 0) = true := by simpa using hre
                rw [if_neg hre] at HDk
                have HR2 : Hid (r = ([], [], re)) := Lib.hid (by rw [HP.out, HDk.out, if_neg hre])
                clear HDk HP HRG hre
                have XR_0 := XR.out.at_ 0 _ rfl
                have XR_1 := XR.out.at_ 1 _ rfl
                have XR_l := XR.out.lt
                have XR_z0 := XR.out.frozen 0
                have XR_z1 := XR.out.frozen 1
                go_wp2_with fail
                refine bodyPost_ret (v := .tuple #[.agg #[.slice none 0 0, .slice none 0 0], .int .i64 re]) (by simp [results, Tryd.results12, go_sem, XR_0, XR_1, XR_l]) rfl ?_
                exact parw_no HR2.out (below_zrs (g := w.heap.size) HB.out (Nat.le_refl _))
          · have hlt2 : ¬ (k : Int) < K := by omega
            have hkK : k = K := by omega
            have HRE : Hid (rowsR N tl [] = (acc, 0)) := Lib.hid (by rw [HRR.out, hkK]; exact HE.out acc)
            have HR2 : Hid (r = (ns, acc, 0)) := Lib.hid (by rw [HP.out, HRE.out]; rfl)
            have SN := Lib.hid (SN3.out.below HC.out)
            clear HRR hkK HRE HP
            have XT_0 := XT.out.at_ 0 _ rfl
            have XT_1 := XT.out.at_ 1 _ rfl
            have XR_0 := XR.out.at_ 0 _ rfl
            have XR_1 := XR.out.at_ 1 _ rfl
            have XR_l := XR.out.lt
            have XR_z0 := XR.out.frozen 0
            have XR_z1 := XR.out.frozen 1
            go_wp2_with fail
            refine bodyPost_ret (v := .tuple #[.agg #[.slice NA N nc, .slice RA L rc], .int .i64 0]) (by simp [results, Tryd.results12, go_sem, XR_0, XR_1, XR_l]) rfl ?_
            rw [HR2.out]
            exact ⟨_, _, rfl, (SN.out.setBoxW XR.out (by simp)).setBoxW (XR.out.set_ 0 (.slice NA N nc)) (by simp), ((HOG.out.setBox XR.out (by decide) (Nat.zero_le _) (by decide) 0 (.slice NA N nc)).setBox (XR.out.set_ 0 (.slice NA N nc)) (by decide) (Nat.zero_le _) (by decide) 1 (.slice RA L rc)).any, (HB.out.setCell (p := ⟨w.heap.size, 0, none⟩) (Nat.le_refl _) _).setCell (p := ⟨w.heap.size, 1, none⟩) (Nat.le_refl _) _⟩

end Go.Proofs.YthpioaboekpjoaaDoor

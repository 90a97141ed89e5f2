/-
  The laws RatFormats and RatParses: the walks.
-/
import Derived.Test.YtbaalbmchhgmnaaDoorRatQ
import Derived.Test.YtbaalbmchhgmnaaDoorRatL
namespace Go.Proofs.YtbaalbmchhgmnaaDoor
open Go.RowKit Go.WideShapes Go.ChangeShapes Go.Deep
set_option linter.unusedVariables false
set_option linter.unusedSimpArgs false

theorem ratFmt_size {n d : Int} (hn : I64 n) (hd : I64 d) : (ratFmt n d).size ≤ 1000 := by
  have z1 := fmt_size n hn.1 hn.2
  have z2 := fmt_size d hd.1 hd.2
  unfold ratFmt
  split
  · split
    · omega
    · simp only [ByteArray.size_append]
      have : (⟨#[47]⟩ : ByteArray).size = 1 := rfl
      omega
  · show 0 ≤ 1000; omega

set_option maxRecDepth 100000 in
set_option maxHeartbeats 8000000 in
theorem walkRatFormats {H : Type} {enc : TypeId × Value → H} {base : Nat} (v : Value) (d : DataW H) (p : List MemPlace) {w : World} (h : DataW.Trod enc Tryd.prog w 0 (fun _ => true) true 23 v d p) (hv : Value.okWide Tryd.prog w .any base 23 v) (ht : Tab w) (hm : MLen w) :
    Calls Tryd.prog 10 #[v] w fun e w' => e = .returned (.bool true) ∧ Below w.heap.size w w' := by
  obtain ⟨rn, rd, rfl, h1, h2⟩ := arg_rat h hv
  have HT := Lib.hid ht
  have HM := Lib.hid hm
  have C1 := Lib.hid (fun w h => ratFormat rn rd w h1 h2 h)
  have C2 := Lib.hid (fun w => refFormat05 rn rd w h1 h2)
  have C3 := Lib.hid (fun w => refValid05 rn rd w h1 h2)
  have b1 : (rn == rn) = true := by simp
  have b2 : (rd == rd) = true := by simp
  by_cases hr : ratV rn rd = true
  · have hsz := ratFmt_size h1 h2
    have C4 : Hid (∀ w, Tab w → MLen w → Calls Tryd.prog 32 #[.string (ratFmt rn rd)] w fun e w' => e = .returned (.tuple #[.agg #[.int .i64 rn, .int .i64 rd], .int .i64 0]) ∧ Below w.heap.size w w') := Lib.hid fun w h h' => by
      have := ratParse (ratFmt rn rd) w hsz h h'
      rwa [parR_of h1 h2 hr] at this
    rw [hr] at C3
    generalize ratFmt rn rd = s at *
    clear hr h1 h2 ht hm hsz h hv
    go_enter Tryd.func10, Tryd.ntmps10
    go_wp2_with fail
    have XA := Lib.hid (box_new (W := w) (g := w.heap.size) 23 #[.int .i64 rn, .int .i64 rd] (by simp))
    have HB := Lib.hid (below_alloc w (.cells #[.int .i64 rn, .int .i64 rd] 23))
    generalize w.alloc (.cells #[.int .i64 rn, .int .i64 rd] 23) = w0 at *
    refine (C1.out _ (HT.out.below HB.out)).mono ?_; rintro e w1 ⟨rfl, hb⟩
    replace XA := Lib.hid (XA.out.below hb)
    replace HB := Lib.hid (below_step HB.out hb)
    clear hb
    have XA_0 := XA.out.at_ 0 _ rfl
    have XA_1 := XA.out.at_ 1 _ rfl
    go_wp2_with fail
    refine (C2.out _).mono ?_; rintro e w2 ⟨rfl, hb⟩
    clear XA_0 XA_1
    replace XA := Lib.hid (XA.out.below hb)
    replace HB := Lib.hid (below_step HB.out hb)
    clear hb
    have XA_0 := XA.out.at_ 0 _ rfl
    have XA_1 := XA.out.at_ 1 _ rfl
    go_wp2_with fail
    refine (C3.out _).mono ?_; rintro e w3 ⟨rfl, hb⟩
    clear XA_0 XA_1
    replace XA := Lib.hid (XA.out.below hb)
    replace HB := Lib.hid (below_step HB.out hb)
    clear hb
    go_wp2_with fail
    refine (C4.out _ (HT.out.below HB.out) (HM.out.below HB.out)).mono ?_; rintro e w4 ⟨rfl, hb⟩
    replace XA := Lib.hid (XA.out.below hb)
    replace HB := Lib.hid (below_step HB.out hb)
    clear hb
    have XA_0 := XA.out.at_ 0 _ rfl
    have XA_1 := XA.out.at_ 1 _ rfl
    have XA_l := XA.out.lt
    go_wp2_with fail
    have HBx := Lib.hid (below_step HB.out (below_alloc w4 (.cells #[.int .i64 rn, .int .i64 rd] 23)))
    refine (awake05 _ (HT.out.below HBx.out)).mono ?_; rintro e w5 ⟨rfl, hb⟩
    clear XA_0 XA_1 XA_l
    replace HB := Lib.hid (below_step HBx.out hb)
    clear hb HBx
    go_wp2_with fail
    go_ret
    exact ⟨rfl, HB.out⟩
  · have hr' : ratV rn rd = false := by simpa using hr
    have he : ratFmt rn rd = ⟨#[]⟩ := by unfold ratFmt; rw [if_neg hr]
    rw [hr'] at C3
    rw [he] at C1 C2
    clear hr hr' h1 h2 ht hm h hv he
    go_enter Tryd.func10, Tryd.ntmps10
    go_wp2_with fail
    have XA := Lib.hid (box_new (W := w) (g := w.heap.size) 23 #[.int .i64 rn, .int .i64 rd] (by simp))
    have HB := Lib.hid (below_alloc w (.cells #[.int .i64 rn, .int .i64 rd] 23))
    generalize w.alloc (.cells #[.int .i64 rn, .int .i64 rd] 23) = w0 at *
    refine (C1.out _ (HT.out.below HB.out)).mono ?_; rintro e w1 ⟨rfl, hb⟩
    replace XA := Lib.hid (XA.out.below hb)
    replace HB := Lib.hid (below_step HB.out hb)
    clear hb
    have XA_0 := XA.out.at_ 0 _ rfl
    have XA_1 := XA.out.at_ 1 _ rfl
    go_wp2_with fail
    refine (C2.out _).mono ?_; rintro e w2 ⟨rfl, hb⟩
    clear XA_0 XA_1
    replace XA := Lib.hid (XA.out.below hb)
    replace HB := Lib.hid (below_step HB.out hb)
    clear hb
    have XA_0 := XA.out.at_ 0 _ rfl
    have XA_1 := XA.out.at_ 1 _ rfl
    go_wp2_with fail
    refine (C3.out _).mono ?_; rintro e w3 ⟨rfl, hb⟩
    clear XA_0 XA_1
    replace XA := Lib.hid (XA.out.below hb)
    replace HB := Lib.hid (below_step HB.out hb)
    clear hb
    go_wp2_with fail
    refine (awake05 _ (HT.out.below HB.out)).mono ?_; rintro e w4 ⟨rfl, hb⟩
    replace XA := Lib.hid (XA.out.below hb)
    replace HB := Lib.hid (below_step HB.out hb)
    clear hb
    go_wp2_with fail
    go_ret
    exact ⟨rfl, HB.out⟩

set_option maxRecDepth 100000 in
set_option maxHeartbeats 8000000 in
theorem walkRatParses (s : ByteArray) (ws : s.size ≤ maxLen) {w : World} (ht : Tab w) (hm : MLen w) :
    Calls Tryd.prog 11 #[.string s] w fun e w' => e = .returned (.bool true) ∧ Below w.heap.size w w' := by
  have HT := Lib.hid ht
  have HM := Lib.hid hm
  unfold maxLen at ws
  by_cases hl : 80 < s.size
  · have hl2 : (80 : Int) < s.size := by omega
    clear hm ht
    go_enter Tryd.func11, Tryd.ntmps11
    go_wp2_with fail
    refine (awake05 _ HT.out).mono ?_; rintro e w1 ⟨rfl, hb⟩
    go_wp2_with fail
    go_ret
    exact ⟨rfl, hb⟩
  have hl2 : ¬ (80 : Int) < s.size := by omega
  have C1 := Lib.hid (fun w h h' => ratParse s w (by omega) h h')
  have C2 := Lib.hid (fun w => refParse05 s w (by omega))
  obtain ⟨i1, i2⟩ := parR_I64 s
  have hfm : (parR s).2.2 = 0 → ratFmt (parR s).1 (parR s).2.1 = s := fun h => parR_fmt (by rw [← h])
  obtain ⟨⟨n, d, er⟩, hR⟩ : ∃ R, R = parR s := ⟨_, rfl⟩
  rw [← hR] at C1 C2 i1 i2 hfm
  simp only [ret3r] at C1 C2 i1 i2 hfm
  have C3 := Lib.hid (fun w h => ratFormat n d w i1 i2 h)
  have b1 : (n == n) = true := by simp
  have b2 : (d == d) = true := by simp
  have b3 : (er == er) = true := by simp
  clear hR i1 i2 hm ht
  by_cases h0 : er = 0
  · subst h0
    rw [hfm rfl] at C3
    clear hfm
    go_enter Tryd.func11, Tryd.ntmps11
    go_wp2_with fail
    refine (C1.out _ HT.out HM.out).mono ?_; rintro e w1 ⟨rfl, hb⟩
    have HB := Lib.hid hb
    clear hb
    go_wp2_with fail
    have XA := Lib.hid (box_new (W := w1) (g := w1.heap.size) 23 #[.int .i64 n, .int .i64 d] (by simp))
    have hba := (below_alloc w1 (.cells #[.int .i64 n, .int .i64 d] 23))
    replace HB := Lib.hid (below_step HB.out hba)
    clear hba
    generalize w1.alloc (.cells #[.int .i64 n, .int .i64 d] 23) = w2 at *
    refine (C2.out _).mono ?_; rintro e w3 ⟨rfl, hb⟩
    replace XA := Lib.hid (XA.out.below hb)
    replace HB := Lib.hid (below_step HB.out hb)
    clear hb
    have XA_0 := XA.out.at_ 0 _ rfl
    have XA_1 := XA.out.at_ 1 _ rfl
    have XA_l := XA.out.lt
    go_wp2_with fail
    clear XA_0 XA_1 XA_l
    have XB := Lib.hid (box_new (W := w3) (g := w3.heap.size) 23 #[.int .i64 n, .int .i64 d] (by simp))
    have hba := (below_alloc w3 (.cells #[.int .i64 n, .int .i64 d] 23))
    replace XA := Lib.hid (XA.out.below hba)
    replace HB := Lib.hid (below_step HB.out hba)
    clear hba
    generalize w3.alloc (.cells #[.int .i64 n, .int .i64 d] 23) = w4 at *
    refine (C3.out _ (HT.out.below HB.out)).mono ?_; rintro e w5 ⟨rfl, hb⟩
    replace XA := Lib.hid (XA.out.below hb)
    replace XB := Lib.hid (XB.out.below hb)
    replace HB := Lib.hid (below_step HB.out hb)
    clear hb
    go_wp2_with fail
    refine (awake05 _ (HT.out.below HB.out)).mono ?_; rintro e w6 ⟨rfl, hb⟩
    replace XA := Lib.hid (XA.out.below hb)
    replace XB := Lib.hid (XB.out.below hb)
    replace HB := Lib.hid (below_step HB.out hb)
    clear hb
    go_wp2_with fail
    go_ret
    exact ⟨rfl, HB.out⟩
  · have f0 : (er == 0) = false := by simpa using h0
    have f1 : (er != 0) = true := by simpa using h0
    clear hfm h0
    go_enter Tryd.func11, Tryd.ntmps11
    go_wp2_with fail
    refine (C1.out _ HT.out HM.out).mono ?_; rintro e w1 ⟨rfl, hb⟩
    have HB := Lib.hid hb
    clear hb
    go_wp2_with fail
    have XA := Lib.hid (box_new (W := w1) (g := w1.heap.size) 23 #[.int .i64 n, .int .i64 d] (by simp))
    have hba := (below_alloc w1 (.cells #[.int .i64 n, .int .i64 d] 23))
    replace HB := Lib.hid (below_step HB.out hba)
    clear hba
    generalize w1.alloc (.cells #[.int .i64 n, .int .i64 d] 23) = w2 at *
    refine (C2.out _).mono ?_; rintro e w3 ⟨rfl, hb⟩
    replace XA := Lib.hid (XA.out.below hb)
    replace HB := Lib.hid (below_step HB.out hb)
    clear hb
    have XA_0 := XA.out.at_ 0 _ rfl
    have XA_1 := XA.out.at_ 1 _ rfl
    have XA_l := XA.out.lt
    go_wp2_with fail
    clear XA_0 XA_1 XA_l
    have XB := Lib.hid (box_new (W := w3) (g := w3.heap.size) 23 #[.int .i64 n, .int .i64 d] (by simp))
    have hba := (below_alloc w3 (.cells #[.int .i64 n, .int .i64 d] 23))
    replace XA := Lib.hid (XA.out.below hba)
    replace HB := Lib.hid (below_step HB.out hba)
    clear hba
    generalize w3.alloc (.cells #[.int .i64 n, .int .i64 d] 23) = w4 at *
    refine (awake05 _ (HT.out.below HB.out)).mono ?_; rintro e w6 ⟨rfl, hb⟩
    replace XA := Lib.hid (XA.out.below hb)
    replace XB := Lib.hid (XB.out.below hb)
    replace HB := Lib.hid (below_step HB.out hb)
    clear hb
    go_wp2_with fail
    go_ret
    exact ⟨rfl, HB.out⟩

end Go.Proofs.YtbaalbmchhgmnaaDoor

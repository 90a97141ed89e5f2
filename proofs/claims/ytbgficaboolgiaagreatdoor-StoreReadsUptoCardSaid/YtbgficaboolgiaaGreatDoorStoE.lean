/-
  Contracts of store's fields, and of what each reads.
-/
import Derived.Test.YtbgficaboolgiaaGreatDoorStoC
import Derived.Test.YtbgficaboolgiaaGreatDoorStoP
import Derived.Laws.EntriesVeiled
namespace Go.Proofs.YtbgficaboolgiaaGreatDoor
open Go.RowKit
set_option linter.unusedVariables false
set_option linter.unusedSimpArgs false

theorem grown_set {w w2 : World} {g i : Nat} {u : Value} (h : Below w.heap.size w w2) : w.grownBy (w2.setCell ⟨g, i, none⟩ u) (some g) :=
  ⟨h.os, h.tape, h.output, by simpa [World.setCell] using h.size, fun k hk hne => (Below.heap_setCell w2 ⟨g, i, none⟩ u k (fun e => hne (by rw [e]))).trans (h.block k hk)⟩
def txF : Value := .agg #[.func (.func 60) #[] #[], .func (.func 61) #[] #[]]
def nuF (g : Nat) : Value := .agg #[.func (.func 65) #[] #[], .func (.func 66) #[] #[.pointer (some ⟨g, 0, none⟩)]]
def sdF : Value := .agg #[.func (.func 62) #[] #[], .func (.func 64) #[] #[]]

set_option maxRecDepth 100000 in
theorem stoText (w : World) : Calls Tryz.prog 33 #[] w fun e w' => e = .returned txF ∧ Below w.heap.size w w' := by
  go_enter Tryz.func33, Tryz.ntmps33
  go_wp2_with fail
  refine bodyPost_ret (v := txF) (by simp [results, Tryz.results33, go_sem, txF]) rfl ?_
  exact ⟨rfl, below_alloc _ _⟩
set_option maxRecDepth 100000 in
theorem stoSeed (w : World) : Calls Tryz.prog 35 #[] w fun e w' => e = .returned sdF ∧ Below w.heap.size w w' := by
  go_enter Tryz.func35, Tryz.ntmps35
  go_wp2_with fail
  refine bodyPost_ret (v := sdF) (by simp [results, Tryz.results35, go_sem, sdF]) rfl ?_
  exact ⟨rfl, below_alloc _ _⟩
set_option maxRecDepth 100000 in
theorem stoNumber (n : Int) (w : World) : Calls Tryz.prog 37 #[.int .i64 n] w fun e w' => ∃ g, e = .returned (nuF g) ∧ Box w' g #[.int .i64 n] 3 ∧ w.heap.size ≤ g ∧ Below w.heap.size w w' := by
  have hmf : ∀ (fn : Fn) (first cap : Array Value) (w : World), (Instr.makeFunc fn first cap).run Tryz.prog w = .ok (.func fn first cap) w := fun _ _ _ _ => rfl
  go_enter Tryz.func37, Tryz.ntmps37
  go_wp2_with fail
  refine bodyPost_ret (v := nuF w.heap.size) (by simp [results, Tryz.results37, go_sem, nuF]) rfl ?_
  exact ⟨_, rfl, (Box.new w 3 #[.int .i64 n]).below (below_alloc _ _), Nat.le_refl _, below_step (below_alloc _ _) (below_alloc _ _)⟩
set_option maxRecDepth 100000 in
theorem stoText1 (s : ByteArray) (w : World) : Calls Tryz.prog 61 #[.string s] w fun e w' => e = .returned (.bool (!decide (64 < s.size))) ∧ w = w' := by
  by_cases h : 64 < s.size
  · have f : ¬ (s.size : Int) ≤ 64 := by omega
    go_enter Tryz.func61, Tryz.ntmps61
    go_wp2_with fail
    go_ret
    exact ⟨by simp [h], rfl⟩
  · have f : (s.size : Int) ≤ 64 := by omega
    go_enter Tryz.func61, Tryz.ntmps61
    go_wp2_with fail
    go_ret
    exact ⟨by simp [h], rfl⟩

set_option maxRecDepth 100000 in
theorem stoNumber1 (n t : Int) (g : Nat) (w : World) (hb : Box w g #[.int .i64 t] 3) : Calls Tryz.prog 66 #[.int .i64 n, .pointer (some ⟨g, 0, none⟩)] w fun e w' => e = .returned (.bool (wiB n t)) ∧ w = w' := by
  have C := Lib.hid (fun W => stoWithin n t W)
  have q0 := hb.at_ 0 _ rfl
  generalize wiB n t = b at *
  clear hb
  go_enter Tryz.func66, Tryz.ntmps66
  go_wp2_with fail
  refine (C.out _).mono ?_; rintro e w2 ⟨rfl, rfl⟩
  go_wp2_with fail
  go_ret
  exact ⟨rfl, rfl⟩
set_option maxRecDepth 100000 in
theorem stoSeed2 (n : Nat) (w : World) : Calls Tryz.prog 64 #[.int .u64 n] w fun e w' => e = .returned (.bool true) ∧ w = w' := by
  go_enter Tryz.func64, Tryz.ntmps64
  go_wp2_with fail
  go_ret
  exact ⟨rfl, rfl⟩
theorem tt_size (s : ByteArray) (a : Int) : (tt s a).1.size ≤ s.size := by
  have h0 : (⟨#[]⟩ : ByteArray).size ≤ s.size := Nat.zero_le _
  unfold tt ttN
  split
  · exact h0
  · split
    · exact h0
    · split
      · exact h0
      · split
        · exact h0
        · split
          · exact h0
          · simp only [ByteArray.size_extract]; omega
def sdT (s : ByteArray) (a : Int) : Nat × Int × Int := if (tt s a).2.2 ≠ 0 then (0, 0, (tt s a).2.2) else ((uxT (tt s a).1).1, (tt s a).2.1, (uxT (tt s a).1).2)
theorem rdS_sd (s : ByteArray) (a er : Int) : rdS s (a, er) = if er ≠ 0 then (0, (a, er)) else if (sdT s a).2.2 ≠ 0 then (0, (a, (sdT s a).2.2)) else ((sdT s a).1, ((sdT s a).2.1, 0)) := by
  unfold rdS sdT
  simp only
  by_cases h0 : er ≠ 0
  · rw [if_pos h0, if_pos h0]
  · rw [if_neg h0, if_neg h0]
    by_cases h1 : (tt s a).2.2 ≠ 0
    · rw [if_pos h1, if_pos h1, if_pos h1]
    · rw [if_neg h1, if_neg h1]
def ret3u (r : Nat × Int × Int) : Ending := .returned (.tuple #[.int .u64 r.1, .int .i64 r.2.1, .int .i64 r.2.2])
set_option maxRecDepth 100000 in
set_option maxHeartbeats 2000000 in
theorem stoSeed1 (s : ByteArray) (a : Int) (w : World) (hs : s.size ≤ maxLen) (h0 : -9223372036854775808 ≤ a) (h1 : a ≤ 9223372036854775807) :
    Calls Tryz.prog 62 #[.string s, .int .i64 a] w fun e w' => e = ret3u (sdT s a) ∧ Below w.heap.size w w' := by
  have HR : Hid (sdT s a = if (tt s a).2.2 ≠ 0 then (0, 0, (tt s a).2.2) else ((uxT (tt s a).1).1, (tt s a).2.1, (uxT (tt s a).1).2)) := Lib.hid rfl
  obtain ⟨q, hq⟩ : ∃ q, q = tt s a := ⟨_, rfl⟩
  have CT : Hid (∀ W, Calls Tryz.prog 60 #[.string s, .int .i64 a] W fun e w' => e = ret3t q ∧ Below W.heap.size W w') := Lib.hid fun W => by rw [hq]; exact packTakeText s a W hs h0 h1
  have hz : q.2.2 = 0 → q.1.size ≤ maxLen := fun _ => by rw [hq]; exact Nat.le_trans (tt_size s a) hs
  rw [← hq] at HR
  generalize sdT s a = r at *
  clear hq h0 h1 hs
  obtain ⟨t, nx, te⟩ := q
  unfold ret3t at CT
  simp only at CT HR hz
  by_cases h : te = 0
  case neg =>
    have f1 : (te != 0) = true := by simpa using h
    have HR2 : Hid (r = (0, 0, te)) := Lib.hid (by rw [HR.out, if_pos h])
    clear HR h hz
    go_enter Tryz.func62, Tryz.ntmps62
    go_wp2_with fail
    refine (CT.out _).mono ?_; rintro e w2 ⟨rfl, hb⟩
    have HB := Lib.hid hb
    clear hb
    go_wp2_with fail
    go_ret3
    exact ⟨by rw [HR2.out]; rfl, HB.out⟩
  case pos =>
    subst h
    have CU := Lib.hid (fun W => hashUnhex t (hz rfl) W)
    have HR2 : Hid (r = ((uxT t).1, nx, (uxT t).2)) := Lib.hid (by rw [HR.out, if_neg (by simp)])
    have hux := uxT_lt t
    generalize uxT t = u at *
    obtain ⟨x, ue⟩ := u
    simp only at CU HR2
    clear HR hz hux
    go_enter Tryz.func62, Tryz.ntmps62
    go_wp2_with fail
    refine (CT.out _).mono ?_; rintro e w2 ⟨rfl, hb⟩
    have HB := Lib.hid hb
    clear hb
    go_wp2_with fail
    refine (CU.out _).mono ?_; rintro e w2 ⟨rfl, rfl⟩
    go_wp2_with fail
    go_ret3
    exact ⟨by rw [HR2.out]; rfl, HB.out⟩

set_option maxRecDepth 100000 in
set_option maxHeartbeats 4000000 in
theorem stoFromT (s : ByteArray) (hs : s.size ≤ maxLen) (a er : Int) (hm : StOk s (a, er)) (w : World) (g : Nat) (hb : Box w g #[.string s, .int .i64 a, .int .i64 er] 56) :
    Calls Tryz.prog 34 #[txF, .pointer (some ⟨g, 0, none⟩)] w fun e w' => e = .returned (.string (rdT s (a, er)).1) ∧
      Box w' g #[.string s, .int .i64 (rdT s (a, er)).2.1, .int .i64 (rdT s (a, er)).2.2] 56 ∧ w.grownBy w' (some g) := by
  obtain ⟨⟨m1, m2⟩, m3, m4⟩ := hm
  simp only at m1 m2 m3 m4
  have HR : Hid (rdT s (a, er) = if er ≠ 0 then (⟨#[]⟩, (a, er)) else if (tt s a).2.2 ≠ 0 then (⟨#[]⟩, (a, (tt s a).2.2)) else if 64 < (tt s a).1.size then (⟨#[]⟩, (a, 1)) else ((tt s a).1, ((tt s a).2.1, 0))) := Lib.hid rfl
  obtain ⟨q, hq⟩ : ∃ q, q = tt s a := ⟨_, rfl⟩
  have CT : Hid (∀ W, Calls Tryz.prog 60 #[.string s, .int .i64 a] W fun e w' => e = ret3t q ∧ Below W.heap.size W w') := Lib.hid fun W => by rw [hq]; unfold maxLen at hs; exact packTakeText s a W hs (by omega) (by omega)
  rw [← hq] at HR
  generalize rdT s (a, er) = r at *
  clear hq m1 m2 m3 m4
  obtain ⟨t, nx, te⟩ := q
  unfold ret3t at CT
  simp only at CT HR
  have XR := Lib.hid hb
  have HB := Lib.hid (Below.refl w.heap.size w)
  clear hb hs
  unfold txF
  by_cases h0 : er = 0
  case neg =>
    have f1 : (er != 0) = true := by simpa using h0
    have HR2 : Hid (r = (⟨#[]⟩, (a, er))) := Lib.hid (by rw [HR.out, if_pos h0])
    clear HR h0
    go_enter Tryz.func34, Tryz.ntmps34
    go_upto_region 1 with fail
    have XF := Lib.hid (box_new (W := w) (g := w.heap.size) 60 #[.func (.func 60) #[] #[], .func (.func 61) #[] #[]] (by simp))
    have hba := (below_alloc w (.cells #[.func (.func 60) #[] #[], .func (.func 61) #[] #[]] 60))
    replace XR := Lib.hid (XR.out.below hba)
    replace HB := Lib.hid (below_step HB.out hba)
    clear hba
    generalize w.alloc (.cells #[.func (.func 60) #[] #[], .func (.func 61) #[] #[]] 60) = w1 at *
    have XR_2 := XR.out.at_ 2 _ rfl
    go_wp2_with fail
    go_ret
    exact ⟨by rw [HR2.out]; rfl, by rw [HR2.out]; exact XR.out, grown_of_below HB.out _⟩
  case pos =>
    subst h0
    rw [if_neg (by simp)] at HR
    go_enter Tryz.func34, Tryz.ntmps34
    go_upto_region 1 with fail
    have XF := Lib.hid (box_new (W := w) (g := w.heap.size) 60 #[.func (.func 60) #[] #[], .func (.func 61) #[] #[]] (by simp))
    have hba := (below_alloc w (.cells #[.func (.func 60) #[] #[], .func (.func 61) #[] #[]] 60))
    replace XR := Lib.hid (XR.out.below hba)
    replace HB := Lib.hid (below_step HB.out hba)
    clear hba
    generalize w.alloc (.cells #[.func (.func 60) #[] #[], .func (.func 61) #[] #[]] 60) = w1 at *
    have XR_2 := XR.out.at_ 2 _ rfl
    go_upto_region 4 with fail
    clear XR_2
    have l0 := XF.out.lat 0 _ rfl
    have l1 := XR.out.lat 0 _ rfl
    have l2 := XR.out.lat 1 _ rfl
    have V1 := Lib.hid (fun p : Lat w1 => CT.out p.w)
    refine wp_region_lat (by kernel_rfl) (by kernel_rfl) ?_
    repeat (go_big_quiet_step (with_reducible exact lat_call (V1.out _)))
    refine wpQuiet_nil ?_; intro w2 hb
    clear l0 l1 l2 V1
    replace XR := Lib.hid (XR.out.below hb)
    replace XF := Lib.hid (XF.out.below hb)
    replace HB := Lib.hid (below_step HB.out hb)
    clear hb
    by_cases h1 : te = 0
    case neg =>
      have f1 : (te != 0) = true := by simpa using h1
      have HR2 : Hid (r = (⟨#[]⟩, (a, te))) := Lib.hid (by rw [HR.out, if_pos h1])
      clear HR h1
      have XR2 := Lib.hid (XR.out.set_ 2 (.int .i64 te))
      have HG : Hid (w.grownBy _ (some g)) := Lib.hid (grown_set (g := g) (i := 2) (u := .int .i64 te) HB.out)
      have XR_2 := XR.out.at_ 2 _ rfl
      have XR_l := XR.out.lt
      have XR_z2 := XR.out.frozen 2
      go_wp2_with fail
      go_ret
      exact ⟨by rw [HR2.out]; rfl, by rw [HR2.out]; exact XR2.out, HG.out⟩
    case pos =>
      subst h1
      rw [if_neg (by simp)] at HR
      by_cases h2 : 64 < t.size
      · have C1 : Hid (∀ W, Calls Tryz.prog 61 #[.string t] W fun e w' => e = .returned (.bool false) ∧ W = w') := Lib.hid fun W => by have := stoText1 t W; rw [decide_eq_true h2] at this; exact this
        have HR2 : Hid (r = (⟨#[]⟩, (a, 1))) := Lib.hid (by rw [HR.out, if_pos h2])
        clear HR h2
        have XR2 := Lib.hid (XR.out.set_ 2 (.int .i64 1))
        have HG : Hid (w.grownBy _ (some g)) := Lib.hid (grown_set (g := g) (i := 2) (u := .int .i64 1) HB.out)
        have XR_2 := XR.out.at_ 2 _ rfl
        have XR_l := XR.out.lt
        have XR_z2 := XR.out.frozen 2
        have XF_1 := XF.out.at_ 1 _ rfl
        go_wp2_with fail
        refine (C1.out _).mono ?_; rintro e w3 ⟨rfl, rfl⟩
        go_wp2_with fail
        go_ret
        exact ⟨by rw [HR2.out]; rfl, by rw [HR2.out]; exact XR2.out, HG.out⟩
      · have C1 : Hid (∀ W, Calls Tryz.prog 61 #[.string t] W fun e w' => e = .returned (.bool true) ∧ W = w') := Lib.hid fun W => by have := stoText1 t W; rw [decide_eq_false h2] at this; exact this
        have HR2 : Hid (r = (t, (nx, 0))) := Lib.hid (by rw [HR.out, if_neg h2])
        clear HR h2
        have XR2 := Lib.hid (XR.out.set_ 1 (.int .i64 nx))
        have HG : Hid (w.grownBy _ (some g)) := Lib.hid (grown_set (g := g) (i := 1) (u := .int .i64 nx) HB.out)
        have XR_1 := XR.out.at_ 1 _ rfl
        have XR_l := XR.out.lt
        have XR_z1 := XR.out.frozen 1
        have XF_1 := XF.out.at_ 1 _ rfl
        go_wp2_with fail
        refine (C1.out _).mono ?_; rintro e w3 ⟨rfl, rfl⟩
        go_wp2_with fail
        go_ret
        exact ⟨by rw [HR2.out]; rfl, by rw [HR2.out]; exact XR2.out, HG.out⟩

set_option maxRecDepth 100000 in
set_option maxHeartbeats 4000000 in
theorem stoFromN (t : Int) (gm : Nat) (s : ByteArray) (hs : s.size ≤ maxLen) (a er : Int) (hm : StOk s (a, er)) (w : World) (g : Nat) (hbm : Box w gm #[.int .i64 t] 3) (hb : Box w g #[.string s, .int .i64 a, .int .i64 er] 56) :
    Calls Tryz.prog 38 #[nuF gm, .pointer (some ⟨g, 0, none⟩)] w fun e w' => e = .returned (.int .i64 (rdN s t (a, er)).1) ∧
      Box w' g #[.string s, .int .i64 (rdN s t (a, er)).2.1, .int .i64 (rdN s t (a, er)).2.2] 56 ∧ w.grownBy w' (some g) := by
  obtain ⟨⟨m1, m2⟩, m3, m4⟩ := hm
  simp only at m1 m2 m3 m4
  have HR : Hid (rdN s t (a, er) = if er ≠ 0 then (0, (a, er)) else if (tn s a).2.2 ≠ 0 then (0, (a, (tn s a).2.2)) else if wiB (tn s a).1 t = false then (0, (a, 1)) else ((tn s a).1, ((tn s a).2.1, 0))) := Lib.hid rfl
  obtain ⟨q, hq⟩ : ∃ q, q = tn s a := ⟨_, rfl⟩
  have CT : Hid (∀ W, Calls Tryz.prog 65 #[.string s, .int .i64 a] W fun e w' => e = ret3n q ∧ Below W.heap.size W w') := Lib.hid fun W => by rw [hq]; unfold maxLen at hs; exact packTakeNumber s a W hs (by omega) (by omega)
  rw [← hq] at HR
  generalize rdN s t (a, er) = r at *
  clear hq m1 m2 m3 m4
  obtain ⟨v, nx, te⟩ := q
  unfold ret3n at CT
  simp only at CT HR
  have XR := Lib.hid hb
  have XM := Lib.hid hbm
  have HB := Lib.hid (Below.refl w.heap.size w)
  clear hb hs hbm
  unfold nuF
  by_cases h0 : er = 0
  case neg =>
    have f1 : (er != 0) = true := by simpa using h0
    have HR2 : Hid (r = (0, (a, er))) := Lib.hid (by rw [HR.out, if_pos h0])
    clear HR h0
    go_enter Tryz.func38, Tryz.ntmps38
    go_upto_region 1 with fail
    have XF := Lib.hid (box_new (W := w) (g := w.heap.size) 72 #[.func (.func 65) #[] #[], .func (.func 66) #[] #[.pointer (some ⟨gm, 0, none⟩)]] (by simp))
    have hba := (below_alloc w (.cells #[.func (.func 65) #[] #[], .func (.func 66) #[] #[.pointer (some ⟨gm, 0, none⟩)]] 72))
    replace XR := Lib.hid (XR.out.below hba)
    replace XM := Lib.hid (XM.out.below hba)
    replace HB := Lib.hid (below_step HB.out hba)
    clear hba
    generalize w.alloc (.cells #[.func (.func 65) #[] #[], .func (.func 66) #[] #[.pointer (some ⟨gm, 0, none⟩)]] 72) = w1 at *
    have XR_2 := XR.out.at_ 2 _ rfl
    go_wp2_with fail
    go_ret
    exact ⟨by rw [HR2.out]; rfl, by rw [HR2.out]; exact XR.out, grown_of_below HB.out _⟩
  case pos =>
    subst h0
    rw [if_neg (by simp)] at HR
    go_enter Tryz.func38, Tryz.ntmps38
    go_upto_region 1 with fail
    have XF := Lib.hid (box_new (W := w) (g := w.heap.size) 72 #[.func (.func 65) #[] #[], .func (.func 66) #[] #[.pointer (some ⟨gm, 0, none⟩)]] (by simp))
    have hba := (below_alloc w (.cells #[.func (.func 65) #[] #[], .func (.func 66) #[] #[.pointer (some ⟨gm, 0, none⟩)]] 72))
    replace XR := Lib.hid (XR.out.below hba)
    replace XM := Lib.hid (XM.out.below hba)
    replace HB := Lib.hid (below_step HB.out hba)
    clear hba
    generalize w.alloc (.cells #[.func (.func 65) #[] #[], .func (.func 66) #[] #[.pointer (some ⟨gm, 0, none⟩)]] 72) = w1 at *
    have XR_2 := XR.out.at_ 2 _ rfl
    go_upto_region 4 with fail
    clear XR_2
    have l0 := XF.out.lat 0 _ rfl
    have l1 := XR.out.lat 0 _ rfl
    have l2 := XR.out.lat 1 _ rfl
    have V1 := Lib.hid (fun p : Lat w1 => CT.out p.w)
    refine wp_region_lat (by kernel_rfl) (by kernel_rfl) ?_
    repeat (go_big_quiet_step (with_reducible exact lat_call (V1.out _)))
    refine wpQuiet_nil ?_; intro w2 hb
    clear l0 l1 l2 V1
    replace XR := Lib.hid (XR.out.below hb)
    replace XM := Lib.hid (XM.out.below hb)
    replace XF := Lib.hid (XF.out.below hb)
    replace HB := Lib.hid (below_step HB.out hb)
    clear hb
    by_cases h1 : te = 0
    case neg =>
      have f1 : (te != 0) = true := by simpa using h1
      have HR2 : Hid (r = (0, (a, te))) := Lib.hid (by rw [HR.out, if_pos h1])
      clear HR h1
      have XR2 := Lib.hid (XR.out.set_ 2 (.int .i64 te))
      have HG : Hid (w.grownBy _ (some g)) := Lib.hid (grown_set (g := g) (i := 2) (u := .int .i64 te) HB.out)
      have XR_2 := XR.out.at_ 2 _ rfl
      have XR_l := XR.out.lt
      have XR_z2 := XR.out.frozen 2
      go_wp2_with fail
      go_ret
      exact ⟨by rw [HR2.out]; rfl, by rw [HR2.out]; exact XR2.out, HG.out⟩
    case pos =>
      subst h1
      rw [if_neg (by simp)] at HR
      by_cases h2 : wiB v t = false
      · have C1 : Hid (Calls Tryz.prog 66 #[.int .i64 v, .pointer (some ⟨gm, 0, none⟩)] w2 fun e w' => e = .returned (.bool false) ∧ w2 = w') := Lib.hid (by have := stoNumber1 v t gm w2 XM.out; rw [h2] at this; exact this)
        have HR2 : Hid (r = (0, (a, 1))) := Lib.hid (by rw [HR.out, if_pos h2])
        clear HR h2
        have XR2 := Lib.hid (XR.out.set_ 2 (.int .i64 1))
        have HG : Hid (w.grownBy _ (some g)) := Lib.hid (grown_set (g := g) (i := 2) (u := .int .i64 1) HB.out)
        have XR_2 := XR.out.at_ 2 _ rfl
        have XR_l := XR.out.lt
        have XR_z2 := XR.out.frozen 2
        have XF_1 := XF.out.at_ 1 _ rfl
        go_wp2_with fail
        refine C1.out.mono ?_; rintro e w3 ⟨rfl, rfl⟩
        go_wp2_with fail
        go_ret
        exact ⟨by rw [HR2.out]; rfl, by rw [HR2.out]; exact XR2.out, HG.out⟩
      · have h2 : wiB v t = true := by simpa using h2
        have C1 : Hid (Calls Tryz.prog 66 #[.int .i64 v, .pointer (some ⟨gm, 0, none⟩)] w2 fun e w' => e = .returned (.bool true) ∧ w2 = w') := Lib.hid (by have := stoNumber1 v t gm w2 XM.out; rw [h2] at this; exact this)
        have HR2 : Hid (r = (v, (nx, 0))) := Lib.hid (by rw [HR.out, if_neg (by rw [h2]; decide)])
        clear HR h2
        have XR2 := Lib.hid (XR.out.set_ 1 (.int .i64 nx))
        have HG : Hid (w.grownBy _ (some g)) := Lib.hid (grown_set (g := g) (i := 1) (u := .int .i64 nx) HB.out)
        have XR_1 := XR.out.at_ 1 _ rfl
        have XR_l := XR.out.lt
        have XR_z1 := XR.out.frozen 1
        have XF_1 := XF.out.at_ 1 _ rfl
        go_wp2_with fail
        refine C1.out.mono ?_; rintro e w3 ⟨rfl, rfl⟩
        go_wp2_with fail
        go_ret
        exact ⟨by rw [HR2.out]; rfl, by rw [HR2.out]; exact XR2.out, HG.out⟩

set_option maxRecDepth 100000 in
set_option maxHeartbeats 4000000 in
theorem stoFromS (s : ByteArray) (hs : s.size ≤ maxLen) (a er : Int) (hm : StOk s (a, er)) (w : World) (g : Nat) (hb : Box w g #[.string s, .int .i64 a, .int .i64 er] 56) :
    Calls Tryz.prog 36 #[sdF, .pointer (some ⟨g, 0, none⟩)] w fun e w' => e = .returned (.int .u64 ((rdS s (a, er)).1 : Nat)) ∧
      Box w' g #[.string s, .int .i64 (rdS s (a, er)).2.1, .int .i64 (rdS s (a, er)).2.2] 56 ∧ w.grownBy w' (some g) := by
  obtain ⟨⟨m1, m2⟩, m3, m4⟩ := hm
  simp only at m1 m2 m3 m4
  have HR : Hid (rdS s (a, er) = if er ≠ 0 then (0, (a, er)) else if (sdT s a).2.2 ≠ 0 then (0, (a, (sdT s a).2.2)) else ((sdT s a).1, ((sdT s a).2.1, 0))) := Lib.hid (rdS_sd s a er)
  obtain ⟨q, hq⟩ : ∃ q, q = sdT s a := ⟨_, rfl⟩
  have CT : Hid (∀ W, Calls Tryz.prog 62 #[.string s, .int .i64 a] W fun e w' => e = ret3u q ∧ Below W.heap.size W w') := Lib.hid fun W => by rw [hq]; unfold maxLen at hs; exact stoSeed1 s a W hs (by omega) (by omega)
  rw [← hq] at HR
  generalize rdS s (a, er) = r at *
  clear hq m1 m2 m3 m4
  obtain ⟨t, nx, te⟩ := q
  unfold ret3u at CT
  simp only at CT HR
  have XR := Lib.hid hb
  have HB := Lib.hid (Below.refl w.heap.size w)
  clear hb hs
  unfold sdF
  by_cases h0 : er = 0
  case neg =>
    have f1 : (er != 0) = true := by simpa using h0
    have HR2 : Hid (r = (0, (a, er))) := Lib.hid (by rw [HR.out, if_pos h0])
    clear HR h0
    go_enter Tryz.func36, Tryz.ntmps36
    go_upto_region 1 with fail
    have XF := Lib.hid (box_new (W := w) (g := w.heap.size) 66 #[.func (.func 62) #[] #[], .func (.func 64) #[] #[]] (by simp))
    have hba := (below_alloc w (.cells #[.func (.func 62) #[] #[], .func (.func 64) #[] #[]] 66))
    replace XR := Lib.hid (XR.out.below hba)
    replace HB := Lib.hid (below_step HB.out hba)
    clear hba
    generalize w.alloc (.cells #[.func (.func 62) #[] #[], .func (.func 64) #[] #[]] 66) = w1 at *
    have XR_2 := XR.out.at_ 2 _ rfl
    go_wp2_with fail
    go_ret
    exact ⟨by rw [HR2.out]; rfl, by rw [HR2.out]; exact XR.out, grown_of_below HB.out _⟩
  case pos =>
    subst h0
    rw [if_neg (by simp)] at HR
    go_enter Tryz.func36, Tryz.ntmps36
    go_upto_region 1 with fail
    have XF := Lib.hid (box_new (W := w) (g := w.heap.size) 66 #[.func (.func 62) #[] #[], .func (.func 64) #[] #[]] (by simp))
    have hba := (below_alloc w (.cells #[.func (.func 62) #[] #[], .func (.func 64) #[] #[]] 66))
    replace XR := Lib.hid (XR.out.below hba)
    replace HB := Lib.hid (below_step HB.out hba)
    clear hba
    generalize w.alloc (.cells #[.func (.func 62) #[] #[], .func (.func 64) #[] #[]] 66) = w1 at *
    have XR_2 := XR.out.at_ 2 _ rfl
    go_upto_region 4 with fail
    clear XR_2
    have l0 := XF.out.lat 0 _ rfl
    have l1 := XR.out.lat 0 _ rfl
    have l2 := XR.out.lat 1 _ rfl
    have V1 := Lib.hid (fun p : Lat w1 => CT.out p.w)
    refine wp_region_lat (by kernel_rfl) (by kernel_rfl) ?_
    repeat (go_big_quiet_step (with_reducible exact lat_call (V1.out _)))
    refine wpQuiet_nil ?_; intro w2 hb
    clear l0 l1 l2 V1
    replace XR := Lib.hid (XR.out.below hb)
    replace XF := Lib.hid (XF.out.below hb)
    replace HB := Lib.hid (below_step HB.out hb)
    clear hb
    by_cases h1 : te = 0
    case neg =>
      have f1 : (te != 0) = true := by simpa using h1
      have HR2 : Hid (r = (0, (a, te))) := Lib.hid (by rw [HR.out, if_pos h1])
      clear HR h1
      have XR2 := Lib.hid (XR.out.set_ 2 (.int .i64 te))
      have HG : Hid (w.grownBy _ (some g)) := Lib.hid (grown_set (g := g) (i := 2) (u := .int .i64 te) HB.out)
      have XR_2 := XR.out.at_ 2 _ rfl
      have XR_l := XR.out.lt
      have XR_z2 := XR.out.frozen 2
      go_wp2_with fail
      go_ret
      exact ⟨by rw [HR2.out]; rfl, by rw [HR2.out]; exact XR2.out, HG.out⟩
    case pos =>
      subst h1
      rw [if_neg (by simp)] at HR
      have C1 := Lib.hid (fun W => stoSeed2 t W)
      have HR2 : Hid (r = (t, (nx, 0))) := Lib.hid (HR.out)
      clear HR
      have XR2 := Lib.hid (XR.out.set_ 1 (.int .i64 nx))
      have HG : Hid (w.grownBy _ (some g)) := Lib.hid (grown_set (g := g) (i := 1) (u := .int .i64 nx) HB.out)
      have XR_1 := XR.out.at_ 1 _ rfl
      have XR_l := XR.out.lt
      have XR_z1 := XR.out.frozen 1
      have XF_1 := XF.out.at_ 1 _ rfl
      go_wp2_with fail
      refine (C1.out _).mono ?_; rintro e w3 ⟨rfl, rfl⟩
      go_wp2_with fail
      go_ret
      exact ⟨by rw [HR2.out]; rfl, by rw [HR2.out]; exact XR2.out, HG.out⟩

end Go.Proofs.YtbgficaboolgiaaGreatDoor

/-
  The laws RatMakes and RatChecks: the walks.
-/
import Derived.Test.YtbaalbmchhgmnaaDoorRatK
import Derived.Test.YtbaalbmchhgmnaaDoorRefC
import Derived.Test.YtbaalbmchhgmnaaDoorOpen
import Derived.OpenShut
namespace Go.Proofs.YtbaalbmchhgmnaaDoor
open Go.RowKit Go.WideShapes Go.ChangeShapes Go.Deep
set_option linter.unusedVariables false
set_option linter.unusedSimpArgs false

set_option maxRecDepth 100000 in
set_option maxHeartbeats 4000000 in
theorem walkRatMakes (n : Int) (hn : I64 n) (d : Int) (hd : I64 d) (w : World) (ht : Tab w) :
    Calls Tryd.prog 3 #[.int .i64 n, .int .i64 d] w fun e w' => e = .returned (.bool true) ∧ Below w.heap.size w w' := by
  have HT := Lib.hid ht
  have C1 := Lib.hid (fun w => ratMake n d w hn.1 hn.2 hd.1 hd.2)
  have C2 := Lib.hid (fun w => refMake n d w hn hd)
  have key : ∀ x y e, mk n d = (x, y, e) → e = 0 → (∀ w, Calls Tryd.prog 12 #[.int .i64 x, .int .i64 y] w fun e w' => e = .returned (.tuple #[.agg #[.int .i64 x, .int .i64 y], .int .i64 0]) ∧ Below w.heap.size w w') ∧
      ∀ w, Calls Tryd.prog 15 #[.agg #[.int .i64 x, .int .i64 y]] w fun e w' => e = .returned (.bool true) ∧ Below w.heap.size w w' := fun x y e h he => by
    subst he
    obtain ⟨_, _, k3, k4⟩ := mk_ok h
    refine ⟨fun w => ?_, fun w => ?_⟩
    · have := ratMake x y w k3.1 k3.2 k4.1 k4.2
      rwa [mk_idem h] at this
    · have := ratValid x y w k3 k4
      rwa [ratV_mk h] at this
  obtain ⟨⟨x, y, er⟩, hm⟩ : ∃ r, r = mk n d := ⟨_, rfl⟩
  have KEY := Lib.hid (key x y er hm.symm)
  rw [← hm] at C1 C2
  simp only [ret3r] at C1 C2
  clear key hm hn hd ht
  by_cases h0 : er = 0
  · subst h0
    obtain ⟨K1, K2⟩ := KEY.out rfl
    have C3 := Lib.hid K1
    have C4 := Lib.hid K2
    clear K1 K2 KEY
    go_enter Tryd.func3, Tryd.ntmps3
    go_wp2_with fail
    refine (C1.out _).mono ?_; rintro e w1 ⟨rfl, hb⟩
    have HB := Lib.hid hb
    clear hb
    go_wp2_with fail
    refine (C2.out _).mono ?_; rintro e w2 ⟨rfl, hb⟩
    have X1 := Lib.hid ((Box.new w1 23 #[.int .i64 x, .int .i64 y]).below hb)
    replace HB := Lib.hid (below_step HB.out (below_step (below_alloc w1 (.cells #[.int .i64 x, .int .i64 y] 23)) hb))
    clear hb
    have x0 := X1.out.at_ 0 _ rfl
    have x1 := X1.out.at_ 1 _ rfl
    have x2 := X1.out.lt
    go_wp2_with fail
    refine (C3.out _).mono ?_; rintro e w3 ⟨rfl, hb⟩
    clear x0 x1 x2
    have hb2 := below_step (below_alloc w2 (.cells #[.int .i64 x, .int .i64 y] 23)) hb
    replace X1 := Lib.hid (X1.out.below hb2); replace HB := Lib.hid (below_step HB.out hb2)
    clear hb hb2
    have x0 := X1.out.at_ 0 _ rfl
    have x1 := X1.out.at_ 1 _ rfl
    have x2 := X1.out.lt
    go_wp2_with fail
    refine (C4.out _).mono ?_; rintro e w4 ⟨rfl, hb⟩
    replace HB := Lib.hid (below_step HB.out (below_step (below_alloc w3 (.cells #[.int .i64 x, .int .i64 y] 23)) hb))
    clear hb x0 x1 x2
    go_wp2_with fail
    refine (awake05 _ (HT.out.below HB.out)).mono ?_; rintro e w5 ⟨rfl, hb⟩
    replace HB := Lib.hid (below_step HB.out hb)
    go_wp2_with fail
    go_ret
    exact ⟨rfl, HB.out⟩
  · have f0 : (er == 0) = false := by simpa using h0
    clear h0 KEY
    go_enter Tryd.func3, Tryd.ntmps3
    go_wp2_with fail
    refine (C1.out _).mono ?_; rintro e w1 ⟨rfl, hb⟩
    have HB := Lib.hid hb
    clear hb
    go_wp2_with fail
    refine (C2.out _).mono ?_; rintro e w2 ⟨rfl, hb⟩
    have X1 := Lib.hid ((Box.new w1 23 #[.int .i64 x, .int .i64 y]).below hb)
    replace HB := Lib.hid (below_step HB.out (below_step (below_alloc w1 (.cells #[.int .i64 x, .int .i64 y] 23)) hb))
    clear hb
    have x0 := X1.out.at_ 0 _ rfl
    have x1 := X1.out.at_ 1 _ rfl
    have x2 := X1.out.lt
    go_wp2_with fail
    refine (awake05 _ ((HT.out.below HB.out).below (below_alloc _ _))).mono ?_; rintro e w5 ⟨rfl, hb⟩
    replace HB := Lib.hid (below_step HB.out (below_step (below_alloc w2 (.cells #[.int .i64 x, .int .i64 y] 23)) hb))
    go_wp2_with fail
    go_ret
    exact ⟨rfl, HB.out⟩

set_option maxRecDepth 100000 in
/-- An argument that is a rational number. -/
theorem arg_rat {H : Type} {enc : TypeId × Value → H} {W : World} {v : Value} {d : DataW H} {p : List MemPlace} {base : Nat} (h : DataW.Trod enc Tryd.prog W 0 (fun _ => true) true 23 v d p) (hv : Value.okWide Tryd.prog W .any base 23 v) :
    ∃ (n m : Int), v = .agg #[.int .i64 n, .int .i64 m] ∧ I64 n ∧ I64 m := by
  obtain ⟨cs, ys, n, rfl, rfl, rfl, hcl, hyl, hf⟩ := open_struct Tryd.underlying23 (by kernel_rfl) (by kernel_rfl) hv h
  obtain ⟨c0, y0, e0, f0, h0⟩ := hf 0 _ rfl
  obtain ⟨c1, y1, e1, f1, h1⟩ := hf 1 _ rfl
  obtain rfl : cs = [c0, c1] := by
    match cs, hcl with
    | [_, _], _ => simp at e0 e1; rw [e0, e1]
  obtain ⟨m1, r1, _, z1⟩ := DataW.trod_int Tryd.underlying3 h0
  obtain ⟨m2, r2, _, z2⟩ := DataW.trod_int Tryd.underlying3 h1
  simp only [List.cons.injEq, and_true] at r1 r2
  subst r1 r2
  exact ⟨m1, m2, rfl, bounds_i64 z1, bounds_i64 z2⟩

set_option maxRecDepth 100000 in
set_option maxHeartbeats 4000000 in
theorem walkRatChecks {H : Type} {enc : TypeId × Value → H} {base : Nat} (v : Value) (d : DataW H) (p : List MemPlace)
    (w : World) (h : DataW.Trod enc Tryd.prog w 0 (fun _ => true) true 23 v d p) (hv : Value.okWide Tryd.prog w .any base 23 v) (ht : Tab w) :
    Calls Tryd.prog 4 #[v] w fun e w' => e = .returned (.bool true) ∧ Below w.heap.size w w' := by
  obtain ⟨n, m, rfl, hn, hm⟩ := arg_rat h hv
  have HT := Lib.hid ht
  have C1 := Lib.hid (fun w => ratValid n m w hn hm)
  have C2 := Lib.hid (fun w => refValid05 n m w hn hm)
  generalize ratV n m = r at *
  clear h hv hn hm ht
  go_enter Tryd.func4, Tryd.ntmps4
  go_wp2_with fail
  have X1 := Lib.hid (Box.new w 23 #[.int .i64 n, .int .i64 m])
  have HB := Lib.hid (below_alloc w (.cells #[.int .i64 n, .int .i64 m] 23))
  generalize w.alloc (.cells #[.int .i64 n, .int .i64 m] 23) = w1 at *
  have AW := Lib.hid (fun p : Lat w1 => awake05 p.w (HT.out.below (HB.out.trans (p.h.mono HB.out.size))))
  have l0 := X1.out.lat 0 _ rfl
  have l1 := X1.out.lat 1 _ rfl
  cases r
  all_goals
    refine wp_region_lat (by kernel_rfl) (by kernel_rfl) ?_
    repeat (go_big_quiet_step (first | (with_reducible exact lat_call (C1.out _)) | (with_reducible exact lat_call (C2.out _)) | (with_reducible exact lat_call (AW.out _))))
    refine wpQuiet_nil ?_; intro w9 hb
    replace HB := Lib.hid (below_step HB.out hb)
    clear hb l0 l1
    go_wp2_with fail
    go_ret
    exact ⟨rfl, HB.out⟩

end Go.Proofs.YtbaalbmchhgmnaaDoor

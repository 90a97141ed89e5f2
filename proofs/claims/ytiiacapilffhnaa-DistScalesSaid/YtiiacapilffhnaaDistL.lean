/-
  The laws DistKinds, DistScales and DistCounts: the walks.
-/
import Derived.Test.YtiiacapilffhnaaDistK
import Derived.Test.YtiiacapilffhnaaDistLaw
import Derived.Deep.AppendLies
namespace Go.Proofs.Ytiiacapilffhnaa
open Go.RowKit Go.WideShapes Go.ChangeShapes Go.Deep
set_option linter.unusedVariables false
set_option linter.unusedSimpArgs false

theorem iwt : (Try.prog.info? 43).map (fun i => (i.zero, i.size, i.bytes)) = some (some (.agg #[.int .i64 0, .int .i64 0, .int .i64 0, .bool false]), 4, 32) := by kernel_rfl
theorem take_map_succ (l : List Rg) (f : Rg → Rg) (k : Nat) (h : k < l.length) : (l.map f).take (k + 1) = (l.map f).take k ++ [f (l.getD k rg0)] := by
  rw [List.take_succ_eq_append_getElem (by simpa using h), List.getD_eq_getElem?_getD, List.getElem?_eq_getElem h]; simp
theorem LF_map {l : List Rg} {f : Rg → Rg} (h : LF l) (hf : ∀ r, r ∈ l → r.fit → (f r).fit) : LF (l.map f) := fun k hk => by
  rw [List.length_map] at hk
  have h1 := h k hk
  have hm : l.getD k rg0 ∈ l := by rw [List.getD_eq_getElem?_getD, List.getElem?_eq_getElem hk]; exact List.getElem_mem hk
  have h2 := hf _ hm h1
  have e : (l.map f).getD k rg0 = f (l.getD k rg0) := by
    simp [List.getD_eq_getElem?_getD, List.getElem?_eq_getElem hk]
  rw [e]; exact h2
theorem flip_yes {lo wt : Int} {ea : Bool} : flip ⟨lo, lo, wt, ea⟩ = ⟨lo, lo, wt, !ea⟩ := by unfold flip; rw [if_pos rfl]
theorem flip_not {lo hi wt : Int} {ea : Bool} (h : lo ≠ hi) : flip ⟨lo, hi, wt, ea⟩ = ⟨lo, hi, wt, ea⟩ := by unfold flip; rw [if_neg h]
theorem news4 {w : World} {o : Obj} {cs : Array Value} {t : TypeId} : ∀ j u, cs.toList[j]? = some u → ((w.alloc o).alloc (.cells cs t)).cell? ((⟨w.heap.size + 1, 0, none⟩ : Addr).add j) = some u := by
  have h := World.news_of_block (heap_alloc_new (w.alloc o) (.cells cs t))
  have hz : (w.alloc o).heap.size = w.heap.size + 1 := by simp
  rw [hz] at h
  exact h
theorem below_grown2 {w w2 w3 : World} {base : Nat} {e : TypeId} {size : Nat} {v : Value} {n : Nat} {xs : List Value} {o o2 : Obj} (h : Below base w w2) (hs : base ≤ w2.heap.size) (hown : w2.ownsRow base e size v n xs) (hg : ((w2.alloc o).alloc o2).grownBy w3 v.ownBlock) : Below base w w3 :=
  ((h.alloc hs _).alloc (Nat.le_trans hs (by simp)) _).grown hg (Nat.le_trans hs (by simp; omega)) (fun q hq => own_block hown q hq)

set_option maxRecDepth 100000 in
set_option maxHeartbeats 8000000 in
theorem walkDistKinds {H : Type} {enc : TypeId × Value → H} {base : Nat} (v : Value) (d : DataW H) (p : List MemPlace) (w : World)
    (h : DataW.Trod enc Try.prog w 0 (fun _ => true) true 22 v d p) (hv : Value.okWide Try.prog w .any base 22 v) (wd : Int) (hw : I64 wd) (x : Int) (hx : I64 x) :
    Calls Try.prog 9 #[v, .int .i64 wd, .int .i64 x] w fun e w' => e = .returned (.bool true) ∧ Below w.heap.size w w' := by
  obtain ⟨i0, hi, hz0, hz1, hz2⟩ := info_parts iwt
  have HI := Lib.hid hi
  have HZ0 := Lib.hid hz0
  have HZ1 := Lib.hid hz1
  have HZ2 := Lib.hid hz2
  obtain ⟨l, hd, hf⟩ := arg_weights h hv
  obtain ⟨w0, w1⟩ := hw
  obtain ⟨x0, x1⟩ := hx
  have hf2 : LF (l.map flip) := LF_map hf fun r _ hr => flip_fit hr
  have C1 := Lib.hid (fun w h => distProb w v l wd x h hf w0 w1 x0 x1)
  have C2 := Lib.hid (fun w v h => distProb w v (l.map flip) wd x h hf2 w0 w1 x0 x1)
  have C3 := Lib.hid (fun w h => distWeightAll w v l x h hf x0 x1)
  have C4 := Lib.hid (fun w v h => distWeightAll w v (l.map flip) x h hf2 x0 x1)
  simp only [flip_prob, flip_wgtE] at C2 C4
  generalize prob l wd x = s at *
  generalize wgtE l x = g at *
  obtain ⟨s1, s2, s3⟩ := s
  obtain ⟨g1, g2⟩ := g
  simp only [ret3r] at C1 C2 C3 C4
  have HD := Lib.hid hd
  obtain ⟨A, c, rfl, hc, hm, hs⟩ := hd
  obtain ⟨N, hN⟩ : ∃ N, N = l.length := ⟨_, rfl⟩
  rw [← hN] at HD C1 C3 ⊢
  have HN := Lib.hid hN
  have HS := Lib.hid hs
  have HC := Lib.hid hc
  clear h hv hf hf2 hi hz0 hz1 hz2 hs hc
  by_cases hn : (30 : Int) < N
  · clear hN
    go_enter Try.func9, Try.ntmps9
    go_wp2_with fail
    refine (awake _).mono ?_; rintro e w1 ⟨rfl, hb⟩
    go_wp2_with fail
    go_ret
    exact ⟨rfl, hb⟩
  clear hN
  go_enter Try.func9, Try.ntmps9
  go_wp2_with fail
  go_loopw [8, 7] (fun c o wr => ∃ (k : Nat) (v0 : Value), k ≤ N ∧ v0 = o ∧ c = .int .i64 k ∧ wr.ownsRow w.heap.size 43 4 v0 k (dcells ((l.map flip).take k)) ∧ Below w.heap.size w wr) (fun c _ _ => N - (intOf c).toNat)
  case atStart => exact ⟨0, _, Nat.zero_le _, rfl, rfl, World.ownsRow_nil _ _ _ _, Below.refl _ _⟩
  case round =>
    obtain ⟨k, v0, hk, rfl, rfl, hown, hb⟩ := hrel
    have HOWN := Lib.hid hown
    have HBL := Lib.hid hb
    clear hown hb
    by_cases hlt : k < N
    · have hlt2 : (k : Int) < N := by omega
      have hltl : k < l.length := by rw [← HN.out]; exact hlt
      obtain ⟨a, rfl, hr⟩ := HS.out (by omega)
      have hsu := take_map_succ l flip k hltl
      obtain ⟨r, hrr⟩ : ∃ r, l.getD k rg0 = r := ⟨_, rfl⟩
      rw [hrr] at hsu
      obtain ⟨lo, hi, wt, ea⟩ := r
      obtain ⟨c0, c1, c2, c3⟩ := hr.at_ HBL.out hltl hrr
      have HBIG : Hid ((k + 1) * 32 ≤ 140737488355328) := Lib.hid (by omega)
      by_cases he : lo = hi
      · subst he
        rw [flip_yes] at hsu
        have HSU := Lib.hid hsu
        clear hr hrr hltl hsu
        go_wp2_with (at_builtin; refine wpList_append_own _ rfl _ _ 22 rfl w.heap.size 43 i0 (.agg #[.int .i64 0, .int .i64 0, .int .i64 0, .bool false]) 4 32 Try.underlying22 HI.out HZ0.out HZ1.out HZ2.out rfl (by decide) v0 k (dcells ((l.map flip).take k)) rfl ((HOWN.out.alloc _).alloc _) ⟨wr.heap.size + 1, 0, none⟩ 1 1 [.int .i64 lo, .int .i64 lo, .int .i64 wt, .bool (!ea)] rfl rfl ?c1 ?c2 ?c3 ?c4 ?c5 ?_)
        case c1 => exact news4
        case c2 => intro u hu; simp at hu; rcases hu with rfl | rfl | rfl | rfl <;> rfl
        case c3 => unfold maxLen; omega
        case c4 => exact HBIG.out
        case c5 => exact Nat.le_trans HBL.out.size (by simp; omega)
        intro v' w5 hown5 hgrow _
        have HOWN5 : Hid (w5.ownsRow w.heap.size 43 4 v' (k + 1) (dcells ((l.map flip).take (k + 1)))) := by
          rw [HSU.out, dcells_append]; exact hown5
        have HBL5 := Lib.hid (below_grown2 HBL.out HBL.out.size HOWN.out hgrow)
        clear hown5 hgrow
        go_wp2_with fail
        go_roundw
        case rel => exact ⟨k + 1, v', by omega, rfl, by go_num, HOWN5.out, HBL5.out⟩
        case measure => simp [intOf]; omega
      · rw [flip_not he] at hsu
        have HSU := Lib.hid hsu
        have f1 : (lo == hi) = false := by simpa using he
        clear hr hrr hltl hsu he
        go_wp2_with (at_builtin; refine wpList_append_own _ rfl _ _ 22 rfl w.heap.size 43 i0 (.agg #[.int .i64 0, .int .i64 0, .int .i64 0, .bool false]) 4 32 Try.underlying22 HI.out HZ0.out HZ1.out HZ2.out rfl (by decide) v0 k (dcells ((l.map flip).take k)) rfl ((HOWN.out.alloc _).alloc _) ⟨wr.heap.size + 1, 0, none⟩ 1 1 [.int .i64 lo, .int .i64 hi, .int .i64 wt, .bool ea] rfl rfl ?c1 ?c2 ?c3 ?c4 ?c5 ?_)
        case c1 => exact news4
        case c2 => intro u hu; simp at hu; rcases hu with rfl | rfl | rfl | rfl <;> rfl
        case c3 => unfold maxLen; omega
        case c4 => exact HBIG.out
        case c5 => exact Nat.le_trans HBL.out.size (by simp; omega)
        intro v' w5 hown5 hgrow _
        have HOWN5 : Hid (w5.ownsRow w.heap.size 43 4 v' (k + 1) (dcells ((l.map flip).take (k + 1)))) := by
          rw [HSU.out, dcells_append]; exact hown5
        have HBL5 := Lib.hid (below_grown2 HBL.out HBL.out.size HOWN.out hgrow)
        clear hown5 hgrow
        go_wp2_with fail
        go_roundw
        case rel => exact ⟨k + 1, v', by omega, rfl, by go_num, HOWN5.out, HBL5.out⟩
        case measure => simp [intOf]; omega
    · have hkn : k = N := by omega
      have hlt2 : ¬ (k : Int) < N := by omega
      subst hkn
      have HDK : Hid (DL wr v0 (l.map flip)) := Lib.hid (by
        have := DL.of_own HOWN.out
        rwa [HN.out, show l.length = (l.map flip).length by simp, List.take_length] at this)
      clear HOWN
      go_wp2_with fail
      refine (C1.out _ (HD.out.below HBL.out)).mono ?_; rintro e w1 ⟨rfl, hb⟩
      have HB1 := Lib.hid (below_step HBL.out hb)
      have HDK1 := Lib.hid (HDK.out.below hb)
      clear hb HDK
      go_wp2_with fail
      refine (C2.out _ _ (HDK1.out.below (below_alloc _ _))).mono ?_; rintro e w2 ⟨rfl, hb⟩
      have Y2 := Lib.hid ((Box.new w1 33 #[.int .i64 s1, .int .i64 s2]).below hb)
      have HB2 := Lib.hid (below_step HB1.out (below_step (below_alloc w1 (.cells #[.int .i64 s1, .int .i64 s2] 33)) hb))
      have HDK2 := Lib.hid ((HDK1.out.below (below_alloc w1 (.cells #[.int .i64 s1, .int .i64 s2] 33))).below hb)
      clear hb HDK1 HB1
      go_wp2_with fail
      refine (C3.out _ ((HD.out.below HB2.out).below (below_alloc _ _))).mono ?_; rintro e w3 ⟨rfl, hb⟩
      have Y3 := Lib.hid ((Y2.out.below (below_alloc w2 (.cells #[.int .i64 s1, .int .i64 s2] 33))).below hb)
      have Z3 := Lib.hid ((Box.new w2 33 #[.int .i64 s1, .int .i64 s2]).below hb)
      have HB3 := Lib.hid (below_step HB2.out (below_step (below_alloc w2 (.cells #[.int .i64 s1, .int .i64 s2] 33)) hb))
      have HDK3 := Lib.hid ((HDK2.out.below (below_alloc w2 (.cells #[.int .i64 s1, .int .i64 s2] 33))).below hb)
      clear hb HDK2 HB2 Y2
      go_wp2_with fail
      refine (C4.out _ _ HDK3.out).mono ?_; rintro e w4 ⟨rfl, hb⟩
      have Y4 := Y3.out.below hb
      have Z4 := Z3.out.below hb
      have HB4 := Lib.hid (below_step HB3.out hb)
      have y0 := Y4.at_ 0 _ rfl
      have y1 := Y4.at_ 1 _ rfl
      have z0 := Z4.at_ 0 _ rfl
      have z1 := Z4.at_ 1 _ rfl
      clear hb HDK3 HB3 Y3 Z3 Y4 Z4
      go_wp2_with fail
      refine (awake _).mono ?_; rintro e w5 ⟨rfl, hb⟩
      have HB5 := Lib.hid (below_step HB4.out hb)
      clear hb
      go_wp2_with fail
      go_ret
      exact ⟨rfl, HB5.out⟩

end Go.Proofs.Ytiiacapilffhnaa

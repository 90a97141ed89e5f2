/-
  Contract of store's Compare.
-/
import Derived.Test.YtbgficaboolgiaaGreatDoorStoN
import Derived.Test.YtbgficaboolgiaaGreatDoorStoG
import Derived.Test.YtbgficaboolgiaaGreatDoorTxA
import Derived.Maps.AppendAt
namespace Go.Proofs.YtbgficaboolgiaaGreatDoor
open Go.RowKit
set_option linter.unusedVariables false
set_option linter.unusedSimpArgs false

/-- Two slices of different blocks. -/
def Ap (p q : Value) : Prop := ∀ b, p.ownBlock = some b → q.ownBlock ≠ some b
theorem Ap.symm {p q : Value} (h : Ap p q) : Ap q p := fun b hb hp => h b hp hb
theorem Ap.or {p q : Value} (h : Ap p q) : q.ownBlock = none ∨ q.ownBlock ≠ p.ownBlock := by
  cases hq : q.ownBlock with
  | none => exact .inl rfl
  | some b => exact .inr fun e => h b e.symm hq
theorem own_ne_box {w : World} {B g n size : Nat} {T T' : TypeId} {v : Value} {xs : List Value} {cs : Array Value} (h : w.ownsRow B T size v n xs) (hx : Box w g cs T') (hT : T' ≠ T) : v.ownBlock ≠ some g := fun e => by
  rcases h.2 with ⟨rfl, _⟩ | ⟨g', cap, cur, rfl, _, hg, _⟩
  · simp [Value.ownBlock] at e
  · simp only [Value.ownBlock, Option.some.injEq] at e
    subst e
    unfold Box at hx
    rw [hg] at hx
    simp only [Option.some.injEq, Obj.cells.injEq] at hx
    exact hT hx.2.1.symm
theorem own_ne_seen {w : World} {B g n size : Nat} {T : TypeId} {v : Value} {xs : List Value} {l : List ByteArray} (h : w.ownsRow B T size v n xs) (hs : Seen w g l) : v.ownBlock ≠ some g := fun e => by
  obtain ⟨m, _, es, clock, hb, _⟩ := hs
  rcases h.2 with ⟨rfl, _⟩ | ⟨g', cap, cur, rfl, _, hg, _⟩
  · simp [Value.ownBlock] at e
  · simp only [Value.ownBlock, Option.some.injEq] at e
    subst e
    rw [hg] at hb
    cases hb
theorem Seen.grown {w w' : World} {g : Nat} {l : List ByteArray} {row : Option Nat} (h : Seen w g l) (hg : w.grownBy w' row) (hne : row ≠ some g) : Seen w' g l := by
  obtain ⟨n, hn, h⟩ := h
  exact ⟨n, hn, h.kept hg (fun e => hne e.symm)⟩
theorem own_apart {w w' : World} {B n m : Nat} {T : TypeId} {p q v' : Value} {xs : List Value} (hq : w.ownsRow B T 1 q m xs) (ha : Ap p q) (hv : v'.ownBlock = p.ownBlock ∨ v'.ownBlock = some w.heap.size) : Ap v' q := fun b hb he => by
  rcases hv with hv | hv
  · exact ha b (hv ▸ hb) he
  · rw [hb] at hv
    simp only [Option.some.injEq] at hv
    have := own_lt hq b he
    omega
/-- What Compare has at hand between two rounds: the three lists in an array, the names seen. -/
structure CI (B : Nat) (w : World) (gA gS : Nat) (p q s : Value) (m : Cm) : Prop where
  bx : Box w gA #[p, q, s] 83
  sn : Seen w gS m.seen
  ra : w.ownsRow B 9 1 p m.a.length (scells m.a)
  rb : w.ownsRow B 9 1 q m.b.length (scells m.b)
  rc : w.ownsRow B 9 1 s m.c.length (scells m.c)
  ab : Ap p q
  ac : Ap p s
  bc : Ap q s
  la : B ≤ gA
  ls : B ≤ gS
section
variable {B : Nat} {w w' : World} {gA gS : Nat} {p q s : Value} {m : Cm}
theorem CI.below (h : CI B w gA gS p q s m) (hb : Below w.heap.size w w') : CI B w' gA gS p q s m :=
  ⟨h.bx.below hb, h.sn.below hb, own_below h.ra hb, own_below h.rb hb, own_below h.rc hb, h.ab, h.ac, h.bc, h.la, h.ls⟩
theorem CI.saw (h : CI B w gA gS p q s m) {x : ByteArray} (hs : Seen w' gS (m.seen ++ [x])) (hg : w.grownBy w' (some gS)) : CI B w' gA gS p q s ⟨m.seen ++ [x], m.a, m.b, m.c⟩ := by
  have hne : some gA ≠ some gS := fun e => by
    simp only [Option.some.injEq] at e
    subst e
    obtain ⟨_, _, es, clock, hb, _⟩ := h.sn
    have := h.bx
    unfold Box at this
    rw [this] at hb
    cases hb
  exact ⟨h.bx.grown hg (fun e => hne (by rw [e])), hs, h.ra.kept hg (.inr (own_ne_seen h.ra h.sn)), h.rb.kept hg (.inr (own_ne_seen h.rb h.sn)), h.rc.kept hg (.inr (own_ne_seen h.rc h.sn)), h.ab, h.ac, h.bc, h.la, h.ls⟩
theorem sc_snoc (l : List ByteArray) (x : ByteArray) : scells l ++ [Value.string x] = scells (l ++ [x]) := by unfold scells; simp
theorem box_grownO {g : Nat} {cs : Array Value} {T : TypeId} {row : Option Nat} (h : Box w g cs T) (hg : w.grownBy w' row) (hne : row ≠ some g) : Box w' g cs T := (hg.block g h.lt fun e => hne e.symm).trans h

theorem CI.push0 (h : CI B w gA gS p q s m) {x : ByteArray} {v' : Value} (hown : w'.ownsRow B 9 1 v' (m.a.length + 1) (scells m.a ++ [.string x])) (hg : w.grownBy w' p.ownBlock) (hv : v'.ownBlock = p.ownBlock ∨ v'.ownBlock = some w.heap.size) :
    CI B (w'.setCell ⟨gA, 0, none⟩ v') gA gS v' q s ⟨m.seen, m.a ++ [x], m.b, m.c⟩ := by
  have bx' := box_grownO h.bx hg (own_ne_box h.ra h.bx (by decide))
  have sn' := h.sn.grown hg (own_ne_seen h.ra h.sn)
  have g2 : w'.grownBy (w'.setCell ⟨gA, 0, none⟩ v') (some gA) := grown_setC (grown_refl (some gA) w')
  have hAS : gA ≠ gS := fun e => by
    subst e
    obtain ⟨_, _, es, clock, hb, _⟩ := h.sn
    have := h.bx
    unfold Box at this
    rw [this] at hb
    cases hb
  exact ⟨bx'.set_ 0 v', sn'.grown g2 (fun e => hAS (Option.some.inj e)), (by rw [List.length_append, ← sc_snoc]; exact hown.kept g2 (.inr (own_ne_box hown bx' (by decide)))), ((h.rb.kept hg h.ab.or).kept g2 (.inr (own_ne_box (h.rb.kept hg h.ab.or) bx' (by decide)))), ((h.rc.kept hg h.ac.or).kept g2 (.inr (own_ne_box (h.rc.kept hg h.ac.or) bx' (by decide)))), (own_apart (w' := w') (n := 0) h.rb h.ab hv), (own_apart (w' := w') (n := 0) h.rc h.ac hv), h.bc, h.la, h.ls⟩
theorem CI.push1 (h : CI B w gA gS p q s m) {x : ByteArray} {v' : Value} (hown : w'.ownsRow B 9 1 v' (m.b.length + 1) (scells m.b ++ [.string x])) (hg : w.grownBy w' q.ownBlock) (hv : v'.ownBlock = q.ownBlock ∨ v'.ownBlock = some w.heap.size) :
    CI B (w'.setCell ⟨gA, 1, none⟩ v') gA gS p v' s ⟨m.seen, m.a, m.b ++ [x], m.c⟩ := by
  have bx' := box_grownO h.bx hg (own_ne_box h.rb h.bx (by decide))
  have sn' := h.sn.grown hg (own_ne_seen h.rb h.sn)
  have g2 : w'.grownBy (w'.setCell ⟨gA, 1, none⟩ v') (some gA) := grown_setC (grown_refl (some gA) w')
  have hAS : gA ≠ gS := fun e => by
    subst e
    obtain ⟨_, _, es, clock, hb, _⟩ := h.sn
    have := h.bx
    unfold Box at this
    rw [this] at hb
    cases hb
  exact ⟨bx'.set_ 1 v', sn'.grown g2 (fun e => hAS (Option.some.inj e)), ((h.ra.kept hg (h.ab.symm).or).kept g2 (.inr (own_ne_box (h.ra.kept hg (h.ab.symm).or) bx' (by decide)))), (by rw [List.length_append, ← sc_snoc]; exact hown.kept g2 (.inr (own_ne_box hown bx' (by decide)))), ((h.rc.kept hg h.bc.or).kept g2 (.inr (own_ne_box (h.rc.kept hg h.bc.or) bx' (by decide)))), (own_apart (w' := w') (n := 0) h.ra h.ab.symm hv).symm, h.ac, (own_apart (w' := w') (n := 0) h.rc h.bc hv), h.la, h.ls⟩
theorem CI.push2 (h : CI B w gA gS p q s m) {x : ByteArray} {v' : Value} (hown : w'.ownsRow B 9 1 v' (m.c.length + 1) (scells m.c ++ [.string x])) (hg : w.grownBy w' s.ownBlock) (hv : v'.ownBlock = s.ownBlock ∨ v'.ownBlock = some w.heap.size) :
    CI B (w'.setCell ⟨gA, 2, none⟩ v') gA gS p q v' ⟨m.seen, m.a, m.b, m.c ++ [x]⟩ := by
  have bx' := box_grownO h.bx hg (own_ne_box h.rc h.bx (by decide))
  have sn' := h.sn.grown hg (own_ne_seen h.rc h.sn)
  have g2 : w'.grownBy (w'.setCell ⟨gA, 2, none⟩ v') (some gA) := grown_setC (grown_refl (some gA) w')
  have hAS : gA ≠ gS := fun e => by
    subst e
    obtain ⟨_, _, es, clock, hb, _⟩ := h.sn
    have := h.bx
    unfold Box at this
    rw [this] at hb
    cases hb
  exact ⟨bx'.set_ 2 v', sn'.grown g2 (fun e => hAS (Option.some.inj e)), ((h.ra.kept hg (h.ac.symm).or).kept g2 (.inr (own_ne_box (h.ra.kept hg (h.ac.symm).or) bx' (by decide)))), ((h.rb.kept hg (h.bc.symm).or).kept g2 (.inr (own_ne_box (h.rb.kept hg (h.bc.symm).or) bx' (by decide)))), (by rw [List.length_append, ← sc_snoc]; exact hown.kept g2 (.inr (own_ne_box hown bx' (by decide)))), h.ab, (own_apart (w' := w') (n := 0) h.ra h.ac.symm hv).symm, (own_apart (w' := w') (n := 0) h.rb h.bc.symm hv).symm, h.la, h.ls⟩
end
theorem below_upS {w w2 w3 : World} {b : Nat} (h : Below w.heap.size w w2) (hg : w2.grownBy w3 (some b)) (hb : w.heap.size ≤ b) : Below w.heap.size w w3 :=
  h.grown hg h.size fun q hq => by simp only [Option.some.injEq] at hq; omega
theorem own_slice {w : World} {B n : Nat} {T : TypeId} {v : Value} {xs : List Value} (h : w.ownsRow B T 1 v n xs) : ∃ A c, v = .slice A n c := by
  rcases h.2 with ⟨rfl, h0⟩ | ⟨g, cap, cur, rfl, _⟩
  · exact ⟨none, 0, by rw [h0]⟩
  · exact ⟨_, cap, rfl⟩
theorem one_cell (w : World) (x : ByteArray) : ∀ (j : Nat) (u : Value), [Value.string x][j]? = some u → (w.alloc (.cells #[.string x] 9)).cell? ((⟨w.heap.size, 0, none⟩ : Addr).add j) = some u := by
  intro j u hj
  obtain rfl : j = 0 := by have := (List.getElem?_eq_some_iff.1 hj).1; simp at this; exact this
  have h1 := (Box.new w 9 #[.string x]).at_ 0 _ rfl
  simp only [List.getElem?_cons_zero, Option.some.injEq] at hj
  rw [add_plain, ← hj]
  exact h1
theorem sl_of_own {w : World} {B : Nat} {v : Value} {l : List ByteArray} (h : w.ownsRow B 9 1 v l.length (scells l)) : SL w v l := (OG.of_scells h).any.sl
theorem iistrS : (Tryz.prog.info? 9).map (fun i => (i.zero, i.size, i.bytes)) = some (some (.string ⟨#[]⟩), 1, 16) := by kernel_rfl
def CMP (w : World) (m : Cm) (e : Ending) (w' : World) : Prop := ∃ p q s, e = .returned (.tuple #[p, q, s]) ∧ SL w' p m.a ∧ SL w' q m.b ∧ SL w' s m.c ∧ Below w.heap.size w w'

set_option maxRecDepth 100000 in
set_option maxHeartbeats 32000000 in
theorem stoCompare (w : World) (v : Value) (l : List Res) (hv : Rs resR w v l anyB) (hn : l.length ≤ 1000000) (hz : ∀ r ∈ l, LabZ r) (old new : ByteArray) (ht : Tab w) :
    Calls Tryz.prog 18 #[v, .string old, .string new] w fun e w' => CMP w (cmpT l old new) e w' := by
  have CLAT := Lib.hid (fun W (hW : Below w.heap.size w W) d t s => stoLatest W v l (hv.below hW) (by omega) d t s)
  have CLAB := Lib.hid (fun W (hW : Below w.heap.size w W) p q r h1 h2 h3 => stoLabel W p q r h1 h2 h3 (ht.below hW))
  have HZ := Lib.hid hz
  have HR : Hid (cmpT l old new = cmpN l old new l.length) := Lib.hid rfl
  have HS : Hid (∀ k, cmpN l old new (k + 1) = cmpStep l old new (cmpN l old new k) (l.getD k res0)) := Lib.hid fun k => rfl
  have H0 : Hid (cmpN l old new 0 = ⟨[], [], [], []⟩) := Lib.hid rfl
  have HLEN := Lib.hid (cmp_len l old new)
  obtain ⟨A, c, rfl, hc, hx⟩ := hv.ress
  have HX := Lib.hid hx
  obtain ⟨i0, hi, hz0, hz1, hz2⟩ := info_parts iistrS
  have JI := Lib.hid hi
  have JZ0 := Lib.hid hz0
  have JZ1 := Lib.hid hz1
  have JZ2 := Lib.hid hz2
  obtain ⟨N, hN⟩ : ∃ N, N = l.length := ⟨_, rfl⟩
  have HN := Lib.hid hN
  rw [← hN] at hc hn HR CLAT ⊢
  generalize cmpT l old new = cr at *
  generalize hf : cmpN l old new = f at *
  clear hx hv hN hz ht hf hi hz0 hz1 hz2
  have hmm := @run_makeMap Tryz.prog
  go_enter Tryz.func18, Tryz.ntmps18
  go_upto_region 2 with fail
  have XA := Lib.hid (box_new (W := w) (g := w.heap.size) 83 #[.slice none 0 0, .slice none 0 0, .slice none 0 0] (by simp))
  have HB := Lib.hid (below_alloc w (.cells #[.slice none 0 0, .slice none 0 0, .slice none 0 0] 83))
  generalize w.alloc (.cells #[.slice none 0 0, .slice none 0 0, .slice none 0 0] 83) = w1 at *
  have hl1 := XA.out.lt
  go_upto_region 3 with fail
  have hsz1 : (w1.alloc (.map #[] 0)).heap.size = w1.heap.size + 1 := by simp
  have XA' := Lib.hid (XA.out.below (below_alloc w1 (.map #[] 0)))
  have SN := Lib.hid (Seen.new w1)
  have HB' := Lib.hid (below_step HB.out (below_alloc w1 (.map #[] 0)))
  obtain ⟨gS, hgS⟩ : ∃ g, g = w1.heap.size := ⟨_, rfl⟩
  obtain ⟨gA, hgA⟩ : ∃ g, g = w.heap.size := ⟨_, rfl⟩
  have hgA' := hgA
  have CI0 : Hid (CI w.heap.size (w1.alloc (.map #[] 0)) gA gS (.slice none 0 0) (.slice none 0 0) (.slice none 0 0) ⟨[], [], [], []⟩) := Lib.hid ⟨by rw [hgA]; exact XA'.out, by rw [hgS]; exact SN.out, World.ownsRow_nil _ _ _ _, World.ownsRow_nil _ _ _ _, World.ownsRow_nil _ _ _ _, fun b hb => by simp [Value.ownBlock] at hb, fun b hb => by simp [Value.ownBlock] at hb, fun b hb => by simp [Value.ownBlock] at hb, by omega, by omega⟩
  rw [← hgS, ← hgA']
  generalize w1.alloc (.map #[] 0) = w2 at *
  clear XA XA' SN HB hl1 hsz1 hgS hmm hgA hgA'
  go_wp2_with fail
  go_loopw [23] (fun i wr => ∃ (k : Nat) (p q s : Value), k ≤ N ∧ i = .int .i64 k ∧ Hid (CI w.heap.size wr gA gS p q s (f k)) ∧ Below w.heap.size w wr) (fun i _ => N - (intOf i).toNat)
  case atStart => exact ⟨0, _, _, _, Nat.zero_le _, rfl, by rw [H0.out]; exact CI0, HB'.out⟩
  case round =>
    obtain ⟨k, p, q, s, hk, rfl, CIk, hb⟩ := hrel
    have HB := Lib.hid hb
    clear hb HB' CI0
    have hgA1 := CIk.out.bx.lt
    have hgS1 := CIk.out.sn.lt
    have hla := CIk.out.la
    have hls := CIk.out.ls
    by_cases hlt : k < N
    · have hlt2 : (k : Int) < N := by omega
      have hk0 : (0 : Int) ≤ (k : Int) := by omega
      have hkl : k < l.length := by rw [← HN.out]; exact hlt
      obtain ⟨b, o, pp, qq, rfl, hbl, hcl, ⟨hp, -⟩, hq, -⟩ := HX.out k hkl
      have HSG := Lib.hid (fun i (hi : i < l.length) W (hW : Below w.heap.size w W) => show W.cell? ⟨b, o + i * 11 + 3, none⟩ = some (.string (l.getD i res0).sign) from by
        obtain ⟨b', o', p', q', e, hbl', hcl', -⟩ := HX.out i hi
        obtain ⟨rfl, rfl⟩ : b = b' ∧ o = o' := by simpa using e
        exact (hW.cell (p := ⟨b, o + i * 11 + 3, none⟩) hbl').trans (hcl' 3 _ rfl))
      have hzk := HZ.out _ (getD_mem (l := l) (k := k) res0 hkl)
      have hml := HLEN.out k
      have CLB := Lib.hid (fun W hW => CLAB.out W hW pp qq (l.getD k res0) (res_slices hp hq).1 (res_slices hp hq).2 hzk)
      have hlsz : (labS (l.getD k res0)).size ≤ maxLen := by have := labS_size _ hzk.2; have := hzk.1; unfold maxLen; omega
      have HUP := Lib.hid (fun W (h : Seen W gS (f k).seen) => h.update (labS (l.getD k res0)) hlsz (by unfold maxLen; omega))
      have HLK := Lib.hid (fun W (h : Seen W gS (f k).seen) => h.lookup (labS (l.getD k res0)) hlsz rfl)
      have C1 := Lib.hid (fun W hW => CLAT.out W hW old (l.getD k res0).test (l.getD k res0).seed)
      have C2 := Lib.hid (fun W hW => CLAT.out W hW new (l.getD k res0).test (l.getD k res0).seed)
      have HSKIP : Hid ((!decide ((l.getD k res0).design = new) || Lib.containsS (f k).seen (labS (l.getD k res0))) = true → f (k + 1) = f k) := Lib.hid fun h => by
        rw [HS.out]; unfold cmpStep; exact if_pos h
      have HADD : Hid ((!decide ((l.getD k res0).design = new) || Lib.containsS (f k).seen (labS (l.getD k res0))) = false → f (k + 1) = ⟨(f k).seen ++ [labS (l.getD k res0)], addIf ((latT l old (l.getD k res0).test (l.getD k res0).seed).2 && fA (sgB l (latT l old (l.getD k res0).test (l.getD k res0).seed).1) (sgB l (latT l new (l.getD k res0).test (l.getD k res0).seed).1)) (f k).a (labS (l.getD k res0)),
          addIf ((latT l old (l.getD k res0).test (l.getD k res0).seed).2 && fB (sgB l (latT l old (l.getD k res0).test (l.getD k res0).seed).1) (sgB l (latT l new (l.getD k res0).test (l.getD k res0).seed).1)) (f k).b (labS (l.getD k res0)),
          addIf ((latT l old (l.getD k res0).test (l.getD k res0).seed).2 && fC (sgB l (latT l old (l.getD k res0).test (l.getD k res0).seed).1) (sgB l (latT l new (l.getD k res0).test (l.getD k res0).seed).1)) (f k).c (labS (l.getD k res0))⟩) := Lib.hid fun h => by
        rw [HS.out]; unfold cmpStep
        exact if_neg (fun h2 => by unfold skB at h2; rw [h] at h2; cases h2)
      have hia := latT_lt (l := l) (d := old) (t := (l.getD k res0).test) (s := (l.getD k res0).seed) (by omega)
      have hib := latT_lt (l := l) (d := new) (t := (l.getD k res0).test) (s := (l.getD k res0).seed) (by omega)
      generalize latT l old (l.getD k res0).test (l.getD k res0).seed = La at *
      generalize latT l new (l.getD k res0).test (l.getD k res0).seed = Lb at *
      obtain ⟨ia, oka⟩ := La
      obtain ⟨ib, okb⟩ := Lb
      simp only [ret2ib] at C1 C2 HADD hia hib
      have CA := Lib.hid (HSG.out ia hia)
      have CB := Lib.hid (HSG.out ib hib)
      have HWA : Hid ((l.getD ia res0).sign.toList.isEmpty = !(sgB l ia)) := Lib.hid (by unfold sgB; rw [Lib.toList_data, Bool.not_not])
      have HWB : Hid ((l.getD ib res0).sign.toList.isEmpty = !(sgB l ib)) := Lib.hid (by unfold sgB; rw [Lib.toList_data, Bool.not_not])
      rw [← HN.out] at hia hib
      generalize sgB l ia = was at *
      generalize sgB l ib = is at *
      generalize (l.getD ia res0).sign = sa at *
      generalize (l.getD ib res0).sign = sb at *
      obtain ⟨A1, c1, rfl, -⟩ := hp.slice
      obtain ⟨A2, c2, rfl, -⟩ := hq.slice
      have hcell : ∀ i u, (resL (.slice A1 (l.getD k res0).pts.length c1) (.slice A2 (l.getD k res0).crs.length c2) (l.getD k res0))[i]? = some u → wr.cell? ⟨b, o + k * 11 + i, none⟩ = some u := fun i u h => (HB.out.cell (p := ⟨b, o + k * 11 + i, none⟩) hbl).trans (hcl i u h)
      clear hcl hp hq hbl HSG hlsz hzk hkl
      generalize labS (l.getD k res0) = name at *
      generalize l.getD k res0 = x at *
      obtain ⟨te, se, de, si, cy, sn, gt, ps, cs, sm, il⟩ := x
      simp only [resV] at hcell CLB C1 C2 HSKIP HADD
      generalize ps.length = M1 at *
      generalize cs.length = M2 at *
      generalize f k = m at *
      obtain ⟨m', hm'⟩ : ∃ z, z = f (k + 1) := ⟨_, rfl⟩
      rw [← hm'] at HSKIP HADD
      have HFM := Lib.hid hm'
      clear hm'
      have g0 := hcell 0 _ rfl
      have g1 := hcell 1 _ rfl
      have g2 := hcell 2 _ rfl
      have g3 := hcell 3 _ rfl
      have g4 := hcell 4 _ rfl
      have g5 := hcell 5 _ rfl
      have g6 := hcell 6 _ rfl
      have g7 := hcell 7 _ rfl
      have g8 := hcell 8 _ rfl
      have g9 := hcell 9 _ rfl
      have g10 := hcell 10 _ rfl
      simp only [Nat.add_zero] at g0
      clear hcell
      go_upto_region 6 with fail
      have XR := Lib.hid (box_new (W := wr) (g := wr.heap.size) 28 #[.string te, .int .u64 se, .string de, .string si, .int .i64 cy, .int .i64 sn, .int .i64 gt, .slice A1 M1 c1, .slice A2 M2 c2, .int .i64 sm, .int .i64 il] (by simp))
      have hba := (below_alloc wr (.cells #[.string te, .int .u64 se, .string de, .string si, .int .i64 cy, .int .i64 sn, .int .i64 gt, .slice A1 M1 c1, .slice A2 M2 c2, .int .i64 sm, .int .i64 il] 28))
      replace CIk := Lib.hid (CIk.out.below hba)
      replace HB := Lib.hid (below_step HB.out hba)
      clear hba
      generalize wr.alloc (.cells #[.string te, .int .u64 se, .string de, .string si, .int .i64 cy, .int .i64 sn, .int .i64 gt, .slice A1 M1 c1, .slice A2 M2 c2, .int .i64 sm, .int .i64 il] 28) = w3 at *
      clear g0 g1 g2 g3 g4 g5 g6 g7 g8 g9 g10
      obtain ⟨gR, hgR⟩ : ∃ g, g = wr.heap.size := ⟨_, rfl⟩
      rw [← hgR] at XR hgA1 hgS1 ⊢
      clear hgR
      have XR_0 := XR.out.at_ 0 _ rfl
      have XR_1 := XR.out.at_ 1 _ rfl
      have XR_2 := XR.out.at_ 2 _ rfl
      have XR_3 := XR.out.at_ 3 _ rfl
      have XR_4 := XR.out.at_ 4 _ rfl
      have XR_5 := XR.out.at_ 5 _ rfl
      have XR_6 := XR.out.at_ 6 _ rfl
      have XR_7 := XR.out.at_ 7 _ rfl
      have XR_8 := XR.out.at_ 8 _ rfl
      have XR_9 := XR.out.at_ 9 _ rfl
      have XR_a := XR.out.at_ 10 _ rfl
      go_wp2_with fail
      refine (CLB.out _ HB.out).mono ?_; rintro e w4 ⟨rfl, hb⟩
      clear XR_0 XR_1 XR_2 XR_3 XR_4 XR_5 XR_6 XR_7 XR_8 XR_9 XR_a
      replace CIk := Lib.hid (CIk.out.below hb)
      replace XR := Lib.hid (XR.out.below hb)
      replace HB := Lib.hid (below_step HB.out hb)
      clear hb
      clear CLB
      by_cases hd : de = new
      case neg =>
        obtain ⟨e1, e2⟩ := str_neq hd
        have HM : Hid (m' = m) := Lib.hid (HSKIP.out (by rw [decide_eq_false hd]; rfl))
        clear HSKIP HADD hd HUP HLK
        have XR_2 := XR.out.at_ 2 _ rfl
        go_wp2_with fail
        clear XR_2
        go_roundw
        case rel => exact ⟨k + 1, p, q, s, by omega, by go_num, by rw [← HFM.out, HM.out]; exact CIk, HB.out⟩
        case measure => simp [intOf] <;> omega
      subst hd
      obtain ⟨e1, e2⟩ := str_eq de
      have hlk := HLK.out _ CIk.out.sn
      cases hdup : Lib.containsS m.seen name
      case true =>
        rw [hdup] at hlk
        have HM : Hid (m' = m) := Lib.hid (HSKIP.out (by rw [hdup, Bool.or_true]))
        clear HSKIP HADD hdup HUP HLK
        have XR_2 := XR.out.at_ 2 _ rfl
        go_wp2_with fail
        clear XR_2
        go_roundw
        case rel => exact ⟨k + 1, p, q, s, by omega, by go_num, by rw [← HFM.out, HM.out]; exact CIk, HB.out⟩
        case measure => simp [intOf] <;> omega
      rw [hdup] at hlk
      have HADD2 := Lib.hid (HADD.out (by rw [hdup, decide_eq_true rfl]; rfl))
      obtain ⟨w5, hu, hs5, hg5⟩ := HUP.out _ CIk.out.sn
      have CI5 := Lib.hid (CIk.out.saw hs5 hg5)
      have HB5 := Lib.hid (below_upS HB.out hg5 (by omega))
      have XR5 := Lib.hid (XR.out.grown hg5 (by omega))
      have y0 := XR5.out.at_ 0 _ rfl
      have y1 := XR5.out.at_ 1 _ rfl
      clear HSKIP HADD hdup HUP HLK hs5 hg5
      have XR_2 := XR.out.at_ 2 _ rfl
      go_wp2_with fail
      clear XR_2
      refine (C1.out _ HB5.out).mono ?_; rintro e w6 ⟨rfl, hb⟩
      clear CIk HB XR y0 y1 hu hlk e1 e2 C1
      have CIk := CI5
      have HB := HB5
      have XR := XR5
      clear CI5 HB5 XR5
      replace CIk := Lib.hid (CIk.out.below hb)
      replace XR := Lib.hid (XR.out.below hb)
      replace HB := Lib.hid (below_step HB.out hb)
      clear hb
      cases oka
      case false =>
        have HM : Hid (m' = ⟨m.seen ++ [name], m.a, m.b, m.c⟩) := Lib.hid (by rw [HADD2.out]; rfl)
        clear HADD2
        go_wp2_with fail
        go_roundw
        case rel => exact ⟨k + 1, p, q, s, by omega, by go_num, by rw [← HFM.out, HM.out]; exact CIk, HB.out⟩
        case measure => simp [intOf] <;> omega
      have XR_0 := XR.out.at_ 0 _ rfl
      have XR_1 := XR.out.at_ 1 _ rfl
      go_wp2_with fail
      refine (C2.out _ HB.out).mono ?_; rintro e w7 ⟨rfl, hb⟩
      clear XR_0 XR_1
      replace CIk := Lib.hid (CIk.out.below hb)
      replace XR := Lib.hid (XR.out.below hb)
      replace HB := Lib.hid (below_step HB.out hb)
      clear hb
      clear C2 XR
      have m1 : ∀ x : Lat w7, x.w.cell? ⟨b, o + ia * 11 + 3, none⟩ = _ := fun x => CA.out x.w (below_step HB.out x.h)
      have m2 : ∀ x : Lat w7, x.w.cell? ⟨b, o + ib * 11 + 3, none⟩ = _ := fun x => CB.out x.w (below_step HB.out x.h)
      have j1 : (ia : Int) < N := by omega
      have j2 : (ib : Int) < N := by omega
      have j3 : (0 : Int) ≤ (ia : Int) := by omega
      have j4 : (0 : Int) ≤ (ib : Int) := by omega
      go_wp2_with fail
      refine wp_region_lat (by kernel_rfl) (by kernel_rfl) ?_
      repeat (go_big_quiet_step (fail))
      refine wpQuiet_nil ?_; intro w8 hb
      clear m1 m2 j1 j2 j3 j4 CA CB
      replace CIk := Lib.hid (CIk.out.below hb)
      replace HB := Lib.hid (below_step HB.out hb)
      clear hb
      have hwa := HWA.out
      have hwb := HWB.out
      clear HWA HWB
      cases was <;> cases is
      · skip
        have HM : Hid (m' = ⟨m.seen ++ [name], m.a, m.b, m.c⟩) := Lib.hid (by rw [HADD2.out]; rfl)
        clear HADD2
        have hwa2 := hwa
        have hwb2 := hwb
        simp only [Bool.not_true, Bool.not_false] at hwa hwb
        clear hwa2 hwb2
        go_wp2_with fail
        go_roundw
        case rel => exact ⟨k + 1, p, q, s, by omega, by go_num, by rw [← HFM.out, HM.out]; exact CIk, HB.out⟩
        case measure => simp [intOf] <;> omega
      · skip
        have HM : Hid (m' = ⟨m.seen ++ [name], m.a ++ [name], m.b, m.c⟩) := Lib.hid (by rw [HADD2.out]; rfl)
        clear HADD2
        have hwa2 := hwa
        have hwb2 := hwb
        simp only [Bool.not_true, Bool.not_false] at hwa hwb
        clear hwa2 hwb2
        obtain ⟨P1, pc, rfl⟩ := own_slice CIk.out.ra
        have z0 := CIk.out.bx.at_ 0 _ rfl
        have zl := CIk.out.bx.lt
        go_upto_region 14 with fail
        have hbl := below_alloc w8 (.cells #[.string name] 9)
        have CI9 := Lib.hid (CIk.out.below hbl)
        have HB9 := Lib.hid (below_step HB.out hbl)
        have hsz9 := HB9.out.size
        have HN1 := Lib.hid (one_cell w8 name)
        clear hbl
        go_wp2_with (at_builtin; refine wpList_append_own_at _ rfl _ _ 22 rfl w.heap.size 9 i0 (.string ⟨#[]⟩) 1 16 Tryz.underlying22 JI.out JZ0.out JZ1.out JZ2.out rfl (by decide) _ _ _ rfl CI9.out.ra ⟨w8.heap.size, 0, none⟩ 1 1 [.string name] rfl rfl HN1.out ?n2 ?c1 ?c2 ?c3 ?_)
        case n2 => first | rfl | (intro u hu; simp only [List.mem_singleton] at hu; rw [hu]; rfl)
        case c1 => unfold maxLen; omega
        case c2 => omega
        case c3 => first | exact hsz9 | simpa using hsz9
        intro v' w10 hown hg _ hblk
        rw [show w8.heap.size + 1 = (w8.alloc (.cells #[.string name] 9)).heap.size by simp] at hblk
        have CI10 := Lib.hid (CI9.out.push0 hown hg hblk)
        have HBX := Lib.hid (((HB9.out.grown hg hsz9 (own_block CI9.out.ra)).setCell (p := ⟨gA, 0, none⟩) (by show w.heap.size ≤ gA; omega) v'))
        have bx := box_grownO CI9.out.bx hg (own_ne_box CI9.out.ra CI9.out.bx (by decide))
        have y0 := bx.at_ 0 _ rfl
        have yl := bx.lt
        have yz := bx.frozen 0
        obtain ⟨P2, pc2, rfl⟩ := own_slice hown
        clear hown hg hblk bx z0 zl hsz9 HN1 CI9 HB9 CIk HB
        go_wp2_with fail
        go_roundw
        case rel => exact ⟨k + 1, _, q, s, by omega, by go_num, by rw [← HFM.out, HM.out]; exact CI10, HBX.out⟩
        case measure => simp [intOf] <;> omega
      · skip
        have HM : Hid (m' = ⟨m.seen ++ [name], m.a, m.b ++ [name], m.c⟩) := Lib.hid (by rw [HADD2.out]; rfl)
        clear HADD2
        have hwa2 := hwa
        have hwb2 := hwb
        simp only [Bool.not_true, Bool.not_false] at hwa hwb
        clear hwa2 hwb2
        obtain ⟨P1, pc, rfl⟩ := own_slice CIk.out.rb
        have z0 := CIk.out.bx.at_ 1 _ rfl
        have zl := CIk.out.bx.lt
        go_upto_region 16 with fail
        have hbl := below_alloc w8 (.cells #[.string name] 9)
        have CI9 := Lib.hid (CIk.out.below hbl)
        have HB9 := Lib.hid (below_step HB.out hbl)
        have hsz9 := HB9.out.size
        have HN1 := Lib.hid (one_cell w8 name)
        clear hbl
        go_wp2_with (at_builtin; refine wpList_append_own_at _ rfl _ _ 22 rfl w.heap.size 9 i0 (.string ⟨#[]⟩) 1 16 Tryz.underlying22 JI.out JZ0.out JZ1.out JZ2.out rfl (by decide) _ _ _ rfl CI9.out.rb ⟨w8.heap.size, 0, none⟩ 1 1 [.string name] rfl rfl HN1.out ?n2 ?c1 ?c2 ?c3 ?_)
        case n2 => first | rfl | (intro u hu; simp only [List.mem_singleton] at hu; rw [hu]; rfl)
        case c1 => unfold maxLen; omega
        case c2 => omega
        case c3 => first | exact hsz9 | simpa using hsz9
        intro v' w10 hown hg _ hblk
        rw [show w8.heap.size + 1 = (w8.alloc (.cells #[.string name] 9)).heap.size by simp] at hblk
        have CI10 := Lib.hid (CI9.out.push1 hown hg hblk)
        have HBX := Lib.hid (((HB9.out.grown hg hsz9 (own_block CI9.out.rb)).setCell (p := ⟨gA, 1, none⟩) (by show w.heap.size ≤ gA; omega) v'))
        have bx := box_grownO CI9.out.bx hg (own_ne_box CI9.out.rb CI9.out.bx (by decide))
        have y0 := bx.at_ 1 _ rfl
        have yl := bx.lt
        have yz := bx.frozen 1
        obtain ⟨P2, pc2, rfl⟩ := own_slice hown
        clear hown hg hblk bx z0 zl hsz9 HN1 CI9 HB9 CIk HB
        go_wp2_with fail
        go_roundw
        case rel => exact ⟨k + 1, p, _, s, by omega, by go_num, by rw [← HFM.out, HM.out]; exact CI10, HBX.out⟩
        case measure => simp [intOf] <;> omega
      · skip
        have HM : Hid (m' = ⟨m.seen ++ [name], m.a, m.b, m.c ++ [name]⟩) := Lib.hid (by rw [HADD2.out]; rfl)
        clear HADD2
        have hwa2 := hwa
        have hwb2 := hwb
        simp only [Bool.not_true, Bool.not_false] at hwa hwb
        clear hwa2 hwb2
        obtain ⟨P1, pc, rfl⟩ := own_slice CIk.out.rc
        have z0 := CIk.out.bx.at_ 2 _ rfl
        have zl := CIk.out.bx.lt
        go_upto_region 18 with fail
        have hbl := below_alloc w8 (.cells #[.string name] 9)
        have CI9 := Lib.hid (CIk.out.below hbl)
        have HB9 := Lib.hid (below_step HB.out hbl)
        have hsz9 := HB9.out.size
        have HN1 := Lib.hid (one_cell w8 name)
        clear hbl
        go_wp2_with (at_builtin; refine wpList_append_own_at _ rfl _ _ 22 rfl w.heap.size 9 i0 (.string ⟨#[]⟩) 1 16 Tryz.underlying22 JI.out JZ0.out JZ1.out JZ2.out rfl (by decide) _ _ _ rfl CI9.out.rc ⟨w8.heap.size, 0, none⟩ 1 1 [.string name] rfl rfl HN1.out ?n2 ?c1 ?c2 ?c3 ?_)
        case n2 => first | rfl | (intro u hu; simp only [List.mem_singleton] at hu; rw [hu]; rfl)
        case c1 => unfold maxLen; omega
        case c2 => omega
        case c3 => first | exact hsz9 | simpa using hsz9
        intro v' w10 hown hg _ hblk
        rw [show w8.heap.size + 1 = (w8.alloc (.cells #[.string name] 9)).heap.size by simp] at hblk
        have CI10 := Lib.hid (CI9.out.push2 hown hg hblk)
        have HBX := Lib.hid (((HB9.out.grown hg hsz9 (own_block CI9.out.rc)).setCell (p := ⟨gA, 2, none⟩) (by show w.heap.size ≤ gA; omega) v'))
        have bx := box_grownO CI9.out.bx hg (own_ne_box CI9.out.rc CI9.out.bx (by decide))
        have y0 := bx.at_ 2 _ rfl
        have yl := bx.lt
        have yz := bx.frozen 2
        obtain ⟨P2, pc2, rfl⟩ := own_slice hown
        clear hown hg hblk bx z0 zl hsz9 HN1 CI9 HB9 CIk HB
        go_wp2_with fail
        go_roundw
        case rel => exact ⟨k + 1, p, q, _, by omega, by go_num, by rw [← HFM.out, HM.out]; exact CI10, HBX.out⟩
        case measure => simp [intOf] <;> omega
    · have hlt2 : ¬ (k : Int) < N := by omega
      have hkN : k = N := by omega
      rw [hkN, ← HR.out] at CIk
      clear hkN
      obtain ⟨P1, pc1, rfl⟩ := own_slice CIk.out.ra
      obtain ⟨P2, pc2, rfl⟩ := own_slice CIk.out.rb
      obtain ⟨P3, pc3, rfl⟩ := own_slice CIk.out.rc
      have m0 := CIk.out.bx.at_ 0 _ rfl
      have m1 := CIk.out.bx.at_ 1 _ rfl
      have m2 := CIk.out.bx.at_ 2 _ rfl
      go_wp2_with fail
      go_quiet (fail)
      go_wp2_with fail
      go_ret3
      exact ⟨_, _, _, rfl, sl_of_own (own_below CIk.out.ra (below_drewN (Below.refl _ _) _)), sl_of_own (own_below CIk.out.rb (below_drewN (Below.refl _ _) _)), sl_of_own (own_below CIk.out.rc (below_drewN (Below.refl _ _) _)), below_drewN HB.out _⟩

end Go.Proofs.YtbgficaboolgiaaGreatDoor

/-
  Stored results, found and compared: what Find, Latest and Compare return. No program in sight.
-/
import Derived.Test.YtbgficaboolgiaaGreatDoorStoSpec
import Derived.Lib.SlicesS
import Derived.Lib.ItoaNum
namespace Go.Proofs.YtbgficaboolgiaaGreatDoor
open Go.RowKit
set_option linter.unusedVariables false
set_option linter.unusedSimpArgs false

def hitB (r : Res) (d t : ByteArray) (s : Nat) : Bool := (decide (r.design = d) && decide (r.test = t)) && decide (r.seed = s)
theorem hitB_iff {r : Res} {d t : ByteArray} {s : Nat} : hitB r d t s = true ↔ r.design = d ∧ r.test = t ∧ r.seed = s := by unfold hitB; simp [and_assoc]
/-- The latest one of the first n. -/
def latN (l : List Res) (d t : ByteArray) (s : Nat) : Nat → Nat × Bool
  | 0 => (0, false)
  | k + 1 => if hitB (l.getD k res0) d t s = true then (k, true) else latN l d t s k
def latT (l : List Res) (d t : ByteArray) (s : Nat) : Nat × Bool := latN l d t s l.length
theorem latN_hit {l : List Res} {d t : ByteArray} {s : Nat} : ∀ n, (latN l d t s n).2 = true → (latN l d t s n).1 < n ∧ hitB (l.getD (latN l d t s n).1 res0) d t s = true
  | 0, h => by cases h
  | n + 1, h => by
    unfold latN at h ⊢
    split
    · rename_i h1; exact ⟨Nat.lt_succ_self _, h1⟩
    · rename_i h1
      rw [if_neg h1] at h
      obtain ⟨a, b⟩ := latN_hit n h
      exact ⟨by omega, b⟩
theorem latN_miss {l : List Res} {d t : ByteArray} {s : Nat} : ∀ n, (latN l d t s n).2 = false → ∀ k, k < n → hitB (l.getD k res0) d t s = false
  | 0, _, k, hk => by omega
  | n + 1, h, k, hk => by
    unfold latN at h
    split at h
    · cases h
    · rename_i h1
      by_cases e : k = n
      · subst e; simpa using h1
      · exact latN_miss n h k (by omega)
theorem latN_zero {l : List Res} {d t : ByteArray} {s : Nat} : ∀ n, (latN l d t s n).2 = false → (latN l d t s n).1 = 0
  | 0, _ => rfl
  | n + 1, h => by
    unfold latN at h ⊢
    split
    · rename_i h1; rw [if_pos h1] at h; cases h
    · rename_i h1; rw [if_neg h1] at h; exact latN_zero n h
theorem latT_of {l : List Res} {d t : ByteArray} {s : Nat} {k : Nat} (hk : k < l.length) (h : hitB (l.getD k res0) d t s = true) : (latT l d t s).2 = true := by
  cases hq : (latT l d t s).2
  · rw [latN_miss _ hq k hk] at h; cases h
  · rfl
theorem latT_lt {l : List Res} {d t : ByteArray} {s : Nat} (h : 0 < l.length) : (latT l d t s).1 < l.length := by
  cases hq : (latT l d t s).2
  · have := latN_zero (l := l) (d := d) (t := t) (s := s) _ hq
    unfold latT; omega
  · exact (latN_hit _ hq).1
def fndB (r : Res) (d t : ByteArray) : Bool := (decide (d.size = 0) || decide (r.design = d)) && (decide (t.size = 0) || decide (r.test = t))
def fndN (l : List Res) (d t : ByteArray) : Nat → List Int
  | 0 => []
  | k + 1 => if fndB (l.getD k res0) d t = true then fndN l d t k ++ [(k : Int)] else fndN l d t k
def fndT (l : List Res) (d t : ByteArray) : List Int := fndN l d t l.length

/-! Labels. -/
def labS (r : Res) : ByteArray := r.test ++ mkS (32 :: Lib.decDigits r.seed)
theorem dec_inj : ∀ {u v : Nat}, Lib.decDigits u = Lib.decDigits v → u = v := by
  intro u
  induction u using Nat.strongRecOn with
  | _ u ih =>
    intro v h
    have dig : ∀ a b : Nat, a < 10 → b < 10 → UInt8.ofNat (48 + a) = UInt8.ofNat (48 + b) → a = b := by
      intro a b ha hb he
      have := congrArg UInt8.toNat he
      simp only [UInt8.toNat_ofNat'] at this
      omega
    have ne : ∀ x, Lib.decDigits x ≠ [] := fun x hx => by
      have := congrArg List.length hx
      rw [Lib.decDigits_length, List.length_nil] at this
      have := Lib.nDigits_pos x
      omega
    by_cases hu : u < 10 <;> by_cases hv : v < 10
    · rw [Lib.decDigits_one hu, Lib.decDigits_one hv, List.cons.injEq] at h
      exact dig u v hu hv h.1
    · rw [Lib.decDigits_one hu, Lib.decDigits, dif_neg hv] at h
      have h2 := List.append_inj_left' (s₁ := []) (t₁ := [UInt8.ofNat (48 + u)]) h rfl
      exact absurd h2.symm (ne _)
    · rw [Lib.decDigits_one hv, Lib.decDigits, dif_neg hu] at h
      have h2 := List.append_inj_left' (s₂ := []) (t₂ := [UInt8.ofNat (48 + v)]) h rfl
      exact absurd h2 (ne _)
    · rw [Lib.decDigits, dif_neg hu] at h
      conv at h => rhs; rw [Lib.decDigits, dif_neg hv]
      have h1 := List.append_inj' h rfl
      have h2 := ih (u / 10) (by omega) h1.1
      have h3 := dig (u % 10) (v % 10) (by omega) (by omega) (List.cons.inj h1.2).1
      omega
theorem dec_ge : ∀ (u : Nat), ∀ c ∈ Lib.decDigits u, 48 ≤ c.toNat := by
  intro u
  induction u using Nat.strongRecOn with
  | _ u ih =>
    intro c hc
    have dig : ∀ a : Nat, a < 10 → 48 ≤ (UInt8.ofNat (48 + a)).toNat := fun a ha => by simp only [UInt8.toNat_ofNat']; omega
    by_cases hu : u < 10
    · rw [Lib.decDigits_one hu, List.mem_singleton] at hc
      rw [hc]; exact dig u hu
    · rw [Lib.decDigits, dif_neg hu, List.mem_append, List.mem_singleton] at hc
      rcases hc with hc | rfl
      · exact ih _ (by omega) c hc
      · exact dig _ (by omega)
theorem split_space : ∀ {a b x y : List UInt8}, (∀ c ∈ x, 48 ≤ c.toNat) → (∀ c ∈ y, 48 ≤ c.toNat) → a ++ 32 :: x = b ++ 32 :: y → a = b ∧ x = y := by
  intro a
  have no : ∀ {y : List UInt8}, (∀ c ∈ y, 48 ≤ c.toNat) → (32 : UInt8) ∉ y := fun h hm => absurd (h _ hm) (by decide)
  induction a with
  | nil =>
    intro b x y hx hy h
    cases b with
    | nil => exact ⟨rfl, (List.cons.inj h).2⟩
    | cons c b =>
      have := (List.cons.inj h).2
      exact absurd (this ▸ List.mem_append_right b (List.mem_cons_self)) (no hx)
  | cons c a ih =>
    intro b x y hx hy h
    cases b with
    | nil =>
      have := (List.cons.inj h).2
      exact absurd (this.symm ▸ List.mem_append_right a (List.mem_cons_self)) (no hy)
    | cons d b =>
      obtain ⟨h1, h2⟩ := List.cons.inj h
      obtain ⟨h3, h4⟩ := ih hx hy h2
      exact ⟨by rw [h1, h3], h4⟩
theorem labS_bl (r : Res) : bl (labS r) = bl r.test ++ 32 :: Lib.decDigits r.seed := by
  unfold labS
  show (r.test ++ mkS _).data.toList = _
  rw [ByteArray.data_append, Array.toList_append, mkS_data]; rfl
theorem labS_inj {r r' : Res} (h : labS r = labS r') : r.test = r'.test ∧ r.seed = r'.seed := by
  have h1 := congrArg bl h
  rw [labS_bl, labS_bl] at h1
  obtain ⟨h2, h3⟩ := split_space (dec_ge _) (dec_ge _) h1
  exact ⟨bytes_eq h2, dec_inj h3⟩
theorem labS_of {r r' : Res} (h : r.test = r'.test) (h' : r.seed = r'.seed) : labS r = labS r' := by unfold labS; rw [h, h']
theorem labS_size (r : Res) (h : r.seed < 18446744073709551616) : (labS r).size ≤ r.test.size + 21 := by
  unfold labS
  have : (Lib.decDigits r.seed).length ≤ 20 := by
    rw [Lib.decDigits_length]
    by_cases h1 : 1 ≤ r.seed
    · have := Lib.numDigits_eq r.seed h1 h; split at this <;> omega
    · rw [show r.seed = 0 by omega, Lib.nDigits_small (by decide)]; decide
  rw [ByteArray.size_append, mkS_size, List.length_cons]
  omega

/-! Compare. -/
def sgB (l : List Res) (i : Nat) : Bool := !(l.getD i res0).sign.data.toList.isEmpty
structure Cm where
  seen : List ByteArray
  a : List ByteArray
  b : List ByteArray
  c : List ByteArray
def addIf (q : Bool) (l : List ByteArray) (x : ByteArray) : List ByteArray := if q = true then l ++ [x] else l
def fA (was is : Bool) : Bool := is && !was
def fB (was is : Bool) : Bool := was && !is
def fC (was is : Bool) : Bool := was && is
def wasB (l : List Res) (old : ByteArray) (r : Res) : Bool := sgB l (latT l old r.test r.seed).1
def pk (f : Bool → Bool → Bool) (l : List Res) (old new : ByteArray) (r : Res) : Bool := (latT l old r.test r.seed).2 && f (wasB l old r) (wasB l new r)
def skB (m : Cm) (new : ByteArray) (r : Res) : Bool := !decide (r.design = new) || Lib.containsS m.seen (labS r)
def cmpStep (l : List Res) (old new : ByteArray) (m : Cm) (r : Res) : Cm :=
  if skB m new r = true then m
  else ⟨m.seen ++ [labS r], addIf (pk fA l old new r) m.a (labS r), addIf (pk fB l old new r) m.b (labS r), addIf (pk fC l old new r) m.c (labS r)⟩
def cmpN (l : List Res) (old new : ByteArray) : Nat → Cm
  | 0 => ⟨[], [], [], []⟩
  | k + 1 => cmpStep l old new (cmpN l old new k) (l.getD k res0)
theorem cmpN_succ (l : List Res) (old new : ByteArray) (k : Nat) : cmpN l old new (k + 1) = cmpStep l old new (cmpN l old new k) (l.getD k res0) := rfl
def cmpT (l : List Res) (old new : ByteArray) : Cm := cmpN l old new l.length
theorem addIf_len (q : Bool) (l : List ByteArray) (x : ByteArray) : (addIf q l x).length ≤ l.length + 1 := by unfold addIf; split <;> simp
theorem cmp_len (l : List Res) (old new : ByteArray) : ∀ k, (cmpN l old new k).seen.length ≤ k ∧ (cmpN l old new k).a.length ≤ k ∧ (cmpN l old new k).b.length ≤ k ∧ (cmpN l old new k).c.length ≤ k
  | 0 => by simp [cmpN]
  | k + 1 => by
    obtain ⟨h1, h2, h3, h4⟩ := cmp_len l old new k
    rw [cmpN_succ]
    unfold cmpStep
    split
    · omega
    · refine ⟨by simp; omega, ?_, ?_, ?_⟩ <;> exact Nat.le_trans (addIf_len _ _ _) (by omega)
theorem mem_addIf {q : Bool} {l : List ByteArray} {x y : ByteArray} : y ∈ addIf q l x ↔ y ∈ l ∨ (q = true ∧ y = x) := by
  unfold addIf
  split
  · rename_i h; simp [h]
  · rename_i h; simp [h]
/-- A name of one of the first k results of the new design, with a property. -/
def Nm (l : List Res) (new : ByteArray) (p : Res → Bool) (k : Nat) (x : ByteArray) : Prop := ∃ i, i < k ∧ (l.getD i res0).design = new ∧ labS (l.getD i res0) = x ∧ p (l.getD i res0) = true
theorem pk_lab {f : Bool → Bool → Bool} {l : List Res} {old new : ByteArray} {r r' : Res} (h : labS r = labS r') : pk f l old new r = pk f l old new r' := by
  obtain ⟨h1, h2⟩ := labS_inj h
  unfold pk wasB
  rw [h1, h2]
theorem nm_succ {l : List Res} {new : ByteArray} {p : Res → Bool} {k : Nat} {x : ByteArray} : Nm l new p (k + 1) x ↔ Nm l new p k x ∨ ((l.getD k res0).design = new ∧ labS (l.getD k res0) = x ∧ p (l.getD k res0) = true) := by
  constructor
  · rintro ⟨i, hi, h⟩
    by_cases e : i = k
    · subst e; exact .inr h
    · exact .inl ⟨i, by omega, h⟩
  · rintro (⟨i, hi, h⟩ | h)
    · exact ⟨i, by omega, h⟩
    · exact ⟨k, by omega, h⟩
theorem cmp_seen (l : List Res) (old new : ByteArray) : ∀ k x, x ∈ (cmpN l old new k).seen ↔ Nm l new (fun _ => true) k x
  | 0, x => ⟨fun h => by simp [cmpN] at h, fun ⟨i, hi, _⟩ => by omega⟩
  | k + 1, x => by
    have ih := cmp_seen l old new k
    rw [nm_succ, ← ih]
    rw [cmpN_succ]
    unfold cmpStep skB
    split
    · rename_i h
      rw [Bool.or_eq_true, Bool.not_eq_true', decide_eq_false_iff_not, Lib.containsS_iff] at h
      constructor
      · exact .inl
      · rintro (h1 | ⟨h1, h2, _⟩)
        · exact h1
        · rcases h with h | h
          · exact absurd h1 h
          · rw [← h2]; exact h
    · rename_i h
      rw [Bool.or_eq_true, Bool.not_eq_true', decide_eq_false_iff_not, Lib.containsS_iff, not_or, Classical.not_not] at h
      simp only [List.mem_append, List.mem_singleton]
      constructor
      · rintro (h1 | h1)
        · exact .inl h1
        · exact .inr ⟨h.1, h1.symm, trivial⟩
      · rintro (h1 | ⟨_, h1, _⟩)
        · exact .inl h1
        · exact .inr h1.symm
theorem cmp_one (f : Bool → Bool → Bool) (l : List Res) (old new : ByteArray) (g : Cm → List ByteArray) (h0 : g ⟨[], [], [], []⟩ = []) (hg : ∀ m r, g (cmpStep l old new m r) = if skB m new r = true then g m else addIf (pk f l old new r) (g m) (labS r)) :
    ∀ k x, x ∈ g (cmpN l old new k) ↔ Nm l new (pk f l old new) k x
  | 0, x => ⟨fun h => (by unfold cmpN at h; rw [h0] at h; cases h), fun ⟨i, hi, _⟩ => by omega⟩
  | k + 1, x => by
    have ih := cmp_one f l old new g h0 hg k
    have hs := cmp_seen l old new k
    rw [nm_succ]
    rw [cmpN_succ, hg, ← ih]
    unfold skB
    split
    · rename_i h
      rw [Bool.or_eq_true, Bool.not_eq_true', decide_eq_false_iff_not, Lib.containsS_iff] at h
      constructor
      · exact .inl
      · rintro (h1 | ⟨h1, h2, h3⟩)
        · exact h1
        · rcases h with h | h
          · exact absurd h1 h
          · obtain ⟨i, hi, hd, hl, _⟩ := (hs _).1 h
            rw [ih]
            exact ⟨i, hi, hd, hl.trans h2, by rw [pk_lab hl]; exact h3⟩
    · rename_i h
      rw [Bool.or_eq_true, Bool.not_eq_true', decide_eq_false_iff_not, Lib.containsS_iff, not_or, Classical.not_not] at h
      rw [mem_addIf]
      constructor
      · rintro (h1 | ⟨h1, h2⟩)
        · exact .inl h1
        · exact .inr ⟨h.1, h2.symm, h1⟩
      · rintro (h1 | ⟨_, h1, h2⟩)
        · exact .inl h1
        · exact .inr ⟨h2, h1.symm⟩
theorem step_a (l : List Res) (old new : ByteArray) (m : Cm) (r : Res) : (cmpStep l old new m r).a = if skB m new r = true then m.a else addIf (pk fA l old new r) m.a (labS r) := by unfold cmpStep; split <;> rfl
theorem step_b (l : List Res) (old new : ByteArray) (m : Cm) (r : Res) : (cmpStep l old new m r).b = if skB m new r = true then m.b else addIf (pk fB l old new r) m.b (labS r) := by unfold cmpStep; split <;> rfl
theorem step_c (l : List Res) (old new : ByteArray) (m : Cm) (r : Res) : (cmpStep l old new m r).c = if skB m new r = true then m.c else addIf (pk fC l old new r) m.c (labS r) := by unfold cmpStep; split <;> rfl
theorem cmp_a (l : List Res) (old new : ByteArray) (k : Nat) (x : ByteArray) : x ∈ (cmpN l old new k).a ↔ Nm l new (pk fA l old new) k x := cmp_one fA l old new Cm.a rfl (step_a l old new) k x
theorem cmp_b (l : List Res) (old new : ByteArray) (k : Nat) (x : ByteArray) : x ∈ (cmpN l old new k).b ↔ Nm l new (pk fB l old new) k x := cmp_one fB l old new Cm.b rfl (step_b l old new) k x
theorem cmp_c (l : List Res) (old new : ByteArray) (k : Nat) (x : ByteArray) : x ∈ (cmpN l old new k).c ↔ Nm l new (pk fC l old new) k x := cmp_one fC l old new Cm.c rfl (step_c l old new) k x
theorem nm_seen {l : List Res} {new : ByteArray} {p : Res → Bool} {k : Nat} {x : ByteArray} (h : Nm l new p k x) : Nm l new (fun _ => true) k x := by
  obtain ⟨i, h1, h2, h3, _⟩ := h; exact ⟨i, h1, h2, h3, rfl⟩
/-- No name is in one list twice, or in two. -/
theorem nodup_addIf {q : Bool} {l : List ByteArray} {x : ByteArray} (h : l.Nodup) (hx : x ∉ l) : (addIf q l x).Nodup := by
  unfold addIf
  split
  · rw [List.nodup_append]
    refine ⟨h, by simp, fun a ha b hb => ?_⟩
    rw [List.mem_singleton] at hb
    rintro rfl
    exact hx (hb ▸ ha)
  · exact h
theorem cmp_nodup (l : List Res) (old new : ByteArray) : ∀ k, (cmpN l old new k).a.Nodup ∧ (cmpN l old new k).b.Nodup ∧ (cmpN l old new k).c.Nodup
  | 0 => by simp [cmpN]
  | k + 1 => by
    obtain ⟨h1, h2, h3⟩ := cmp_nodup l old new k
    have hs := cmp_seen l old new k
    have ha := cmp_a l old new k
    have hb := cmp_b l old new k
    have hc := cmp_c l old new k
    rw [cmpN_succ]
    unfold cmpStep
    split
    · exact ⟨h1, h2, h3⟩
    · rename_i h
      unfold skB at h
      rw [Bool.or_eq_true, not_or, Lib.containsS_iff, hs] at h
      exact ⟨nodup_addIf h1 fun x => h.2 (nm_seen ((ha _).1 x)), nodup_addIf h2 fun x => h.2 (nm_seen ((hb _).1 x)), nodup_addIf h3 fun x => h.2 (nm_seen ((hc _).1 x))⟩
theorem nm_apart {f f' : Bool → Bool → Bool} {l : List Res} {old new x : ByteArray} {k : Nat} (hf : ∀ a b, f a b = true → f' a b = true → False) (h : Nm l new (pk f l old new) k x) (h' : Nm l new (pk f' l old new) k x) : False := by
  obtain ⟨i, _, _, h1, h2⟩ := h
  obtain ⟨j, _, _, h3, h4⟩ := h'
  rw [pk_lab (h3.trans h1.symm)] at h4
  unfold pk at h2 h4
  rw [Bool.and_eq_true] at h2 h4
  exact hf _ _ h2.2 h4.2
theorem cmp_all (l : List Res) (old new : ByteArray) : (((cmpT l old new).a ++ (cmpT l old new).b) ++ (cmpT l old new).c).Nodup := by
  obtain ⟨h1, h2, h3⟩ := cmp_nodup l old new l.length
  rw [List.nodup_append, List.nodup_append]
  refine ⟨⟨h1, h2, ?_⟩, h3, ?_⟩
  · rintro x hx y hy rfl
    exact nm_apart (f := fA) (f' := fB) (by decide) ((cmp_a _ _ _ _ _).1 hx) ((cmp_b _ _ _ _ _).1 hy)
  · rintro x hx y hy rfl
    rw [List.mem_append] at hx
    rcases hx with hx | hx
    · exact nm_apart (f := fA) (f' := fC) (by decide) ((cmp_a _ _ _ _ _).1 hx) ((cmp_c _ _ _ _ _).1 hy)
    · exact nm_apart (f := fB) (f' := fC) (by decide) ((cmp_b _ _ _ _ _).1 hx) ((cmp_c _ _ _ _ _).1 hy)
/-- The designs exchanged. -/
theorem nm_swap {f f' : Bool → Bool → Bool} (hf : ∀ a b, f a b = f' b a) {l : List Res} {old new x : ByteArray} (h : Nm l new (pk f l old new) l.length x) : Nm l old (pk f' l new old) l.length x := by
  obtain ⟨i, h1, h2, h3, h4⟩ := h
  unfold pk at h4
  rw [Bool.and_eq_true] at h4
  obtain ⟨g1, g2⟩ := latN_hit _ h4.1
  obtain ⟨e1, e2, e3⟩ := hitB_iff.1 g2
  refine ⟨_, g1, e1, (labS_of e2 e3).trans h3, ?_⟩
  unfold pk wasB
  rw [e2, e3, Bool.and_eq_true]
  refine ⟨latT_of h1 (hitB_iff.2 ⟨h2, rfl, rfl⟩), ?_⟩
  rw [← hf]
  exact h4.2
theorem swap_ab (l : List Res) (old new x : ByteArray) : x ∈ (cmpT l old new).a ↔ x ∈ (cmpT l new old).b := by
  unfold cmpT
  rw [cmp_a, cmp_b]
  exact ⟨nm_swap (by decide), nm_swap (by decide)⟩
theorem swap_ba (l : List Res) (old new x : ByteArray) : x ∈ (cmpT l old new).b ↔ x ∈ (cmpT l new old).a := (swap_ab l new old x).symm
theorem swap_cc (l : List Res) (old new x : ByteArray) : x ∈ (cmpT l old new).c ↔ x ∈ (cmpT l new old).c := by
  unfold cmpT
  rw [cmp_c, cmp_c]
  exact ⟨nm_swap (by decide), nm_swap (by decide)⟩
theorem len_of_mem {a b : List ByteArray} (ha : a.Nodup) (hb : b.Nodup) (h : ∀ x, x ∈ a ↔ x ∈ b) : a.length = b.length := ((List.perm_ext_iff_of_nodup ha hb).2 h).length_eq
theorem cmp_lens (l : List Res) (old new : ByteArray) : (cmpT l old new).a.length = (cmpT l new old).b.length ∧ (cmpT l old new).b.length = (cmpT l new old).a.length ∧ (cmpT l old new).c.length = (cmpT l new old).c.length := by
  obtain ⟨h1, h2, h3⟩ := cmp_nodup l old new l.length
  obtain ⟨g1, g2, g3⟩ := cmp_nodup l new old l.length
  exact ⟨len_of_mem h1 g2 (swap_ab l old new), len_of_mem h2 g1 (swap_ba l old new), len_of_mem h3 g3 (swap_cc l old new)⟩
theorem cmp_self (l : List Res) (d : ByteArray) : (cmpT l d d).a = [] ∧ (cmpT l d d).b = [] := by
  constructor
  · cases h : (cmpT l d d).a with
    | nil => rfl
    | cons x r =>
      have h1 : x ∈ (cmpT l d d).a := by rw [h]; exact List.mem_cons_self
      obtain ⟨i, _, _, _, h2⟩ := (cmp_a _ _ _ _ _).1 h1
      unfold pk fA at h2
      cases hw : wasB l d (l.getD i res0) <;> rw [hw] at h2 <;> simp at h2
  · cases h : (cmpT l d d).b with
    | nil => rfl
    | cons x r =>
      have h1 : x ∈ (cmpT l d d).b := by rw [h]; exact List.mem_cons_self
      obtain ⟨i, _, _, _, h2⟩ := (cmp_b _ _ _ _ _).1 h1
      unfold pk fB at h2
      cases hw : wasB l d (l.getD i res0) <;> rw [hw] at h2 <;> simp at h2
/-! The chapter's comparison: the same, without a set of names. -/
def earB (l : List Res) (new : ByteArray) (r : Res) : Nat → Bool
  | 0 => false
  | k + 1 => earB l new r k || hitB (l.getD k res0) new r.test r.seed
theorem earB_iff {l : List Res} {new : ByteArray} {r : Res} : ∀ {k}, earB l new r k = true ↔ Nm l new (fun _ => true) k (labS r)
  | 0 => ⟨fun h => (by cases h), fun ⟨i, hi, _⟩ => by omega⟩
  | k + 1 => by
    unfold earB
    rw [Bool.or_eq_true, earB_iff, nm_succ, hitB_iff]
    constructor
    · rintro (h | ⟨h1, h2, h3⟩)
      · exact .inl h
      · exact .inr ⟨h1, labS_of h2 h3, rfl⟩
    · rintro (h | ⟨h1, h2, _⟩)
      · exact .inl h
      · exact .inr ⟨h1, labS_inj h2⟩
theorem skB_ear (l : List Res) (old new : ByteArray) (k : Nat) (r : Res) : skB (cmpN l old new k) new r = (!decide (r.design = new) || earB l new r k) := by
  unfold skB
  congr 1
  rw [Bool.eq_iff_iff, Lib.containsS_iff, cmp_seen, earB_iff]

end Go.Proofs.YtbgficaboolgiaaGreatDoor

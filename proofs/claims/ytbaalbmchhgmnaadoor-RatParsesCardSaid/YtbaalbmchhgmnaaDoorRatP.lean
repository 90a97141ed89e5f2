/-
  Contracts of the reference's Format and Parse of rational numbers.
-/
import Derived.Test.YtbaalbmchhgmnaaDoorTextR
import Derived.Test.YtbaalbmchhgmnaaDoorRefC
import Derived.Test.YtbaalbmchhgmnaaDoorRefParse
namespace Go.Proofs.YtbaalbmchhgmnaaDoor
open Go.RowKit
set_option linter.unusedVariables false
set_option linter.unusedSimpArgs false

theorem sl_unique (l : List UInt8) (k : Nat) (h : k ≤ l.length) (h1 : ∀ j, j < k → l.getD j 0 ≠ 47) (h2 : k < l.length → l.getD k 0 = 47) : sl l = k := by
  have e1 := sl_le l
  rcases Nat.lt_trichotomy (sl l) k with hl | hl | hl
  · exact absurd (sl_at l (by omega)) (h1 _ hl)
  · exact hl
  · exact absurd (h2 (by omega)) (sl_ne l k hl)
theorem parR_I64 (s : ByteArray) : I64 (parR s).1 ∧ I64 (parR s).2.1 := by
  have z : I64 0 := by unfold I64; omega
  unfold parR
  split
  · exact ⟨z, z⟩
  · split
    · exact ⟨z, z⟩
    · split
      · refine ⟨par_I64 _, ?_⟩
        unfold parD; split
        · exact par_I64 _
        · show I64 1; unfold I64; omega
      · exact ⟨z, z⟩
theorem parF_codes (s : ByteArray) : parF s = 0 ∨ parF s = 3 ∨ parF s = 5 := by
  unfold parF; split
  · split
    · exact .inr (.inr rfl)
    · exact par_codes _
  · exact .inl rfl
theorem str_ne {a b : ByteArray} (h : a ≠ b) : (a.toList == b.toList) = false ∧ (a.toList != b.toList) = true := by
  have h2 : (a.toList == b.toList) = false := by
    have : ¬ a.toList = b.toList := fun e => h (by
      have e2 : a.data.toList = b.data.toList := by rw [← Lib.toList_data, ← Lib.toList_data]; exact e
      exact bytes_eq e2)
    simpa using this
  exact ⟨h2, by simp [bne, h2]⟩
/-- The ways of Parse. -/
theorem parR_ways (s : ByteArray) : (parE (pPart s) = 5 ∧ parR s = (0, 0, 5)) ∨ (parE (pPart s) = 0 ∧ parF s = 5 ∧ parR s = (0, 0, 5)) ∨ (parE (pPart s) = 3 ∧ parF s = 5 ∧ parR s = (0, 0, 5)) ∨ (parE (pPart s) = 3 ∧ (parF s == 5) = false ∧ parR s = (0, 0, 3)) ∨
    (parE (pPart s) = 0 ∧ parF s = 3 ∧ parR s = (0, 0, 3)) ∨ (parE (pPart s) = 0 ∧ parF s = 0 ∧ ratFmt (parV (pPart s)) (parD s) = s ∧ parR s = (parV (pPart s), parD s, 0)) ∨
    (parE (pPart s) = 0 ∧ parF s = 0 ∧ ratFmt (parV (pPart s)) (parD s) ≠ s ∧ parR s = (0, 0, 5)) := by
  unfold parR
  rcases par_codes (pPart s) with h | h | h <;> rcases parF_codes s with h2 | h2 | h2 <;> simp [h, h2]
  by_cases hf : ratFmt (parV (pPart s)) (parD s) = s
  · exact .inl hf
  · exact .inr hf

set_option maxRecDepth 100000 in
set_option maxHeartbeats 4000000 in
theorem refFormat05 (n d : Int) (w : World) (hn : I64 n) (hd : I64 d) :
    Calls Tryd.prog 31 #[.agg #[.int .i64 n, .int .i64 d]] w fun e w' => e = .returned (.string (ratFmt n d)) ∧ Below w.heap.size w w' := by
  have CV := Lib.hid (fun w => refValid05 n d w hn hd)
  have F1 := Lib.hid (fun w => refFormat n w hn.1 hn.2)
  have F2 := Lib.hid (fun w => refFormat d w hd.1 hd.2)
  have HE : Hid (ratFmt n d = if ratV n d = true then (if d = 1 then fmtS n else fmtS n ++ ⟨#[47]⟩ ++ fmtS d) else ⟨#[]⟩) := Lib.hid rfl
  have z1 := fmt_size n hn.1 hn.2
  have z2 := fmt_size d hd.1 hd.2
  generalize ratFmt n d = res at *
  generalize fmtS n = sn at *
  generalize fmtS d = sd at *
  obtain ⟨r, hr⟩ : ∃ r, r = ratV n d := ⟨_, rfl⟩
  rw [← hr] at CV HE
  clear hr hn hd
  cases r
  · go_enter Tryd.func31, Tryd.ntmps31
    go_wp2_with fail
    refine (CV.out _).mono ?_; rintro e w1 ⟨rfl, hb⟩
    have HB := Lib.hid (below_step (below_alloc _ _) hb)
    go_wp2_with fail
    go_ret
    exact ⟨by rw [HE.out, if_neg (by decide)]; rfl, HB.out⟩
  · by_cases h1 : d = 1
    · have HE2 : Hid (res = sn) := Lib.hid (by rw [HE.out, if_pos rfl, if_pos h1])
      subst h1
      clear HE
      go_enter Tryd.func31, Tryd.ntmps31
      go_wp2_with fail
      have X1 := Lib.hid (box_new (W := w) (g := w.heap.size) 23 #[.int .i64 n, .int .i64 1] (by simp))
      have HB := Lib.hid (below_alloc w (.cells #[.int .i64 n, .int .i64 1] 23))
      generalize w.alloc (.cells #[.int .i64 n, .int .i64 1] 23) = w0 at *
      refine (CV.out _).mono ?_; rintro e w1 ⟨rfl, hb⟩
      replace X1 := Lib.hid (X1.out.below hb)
      replace HB := Lib.hid (below_step HB.out hb)
      clear hb
      have X1_0 := X1.out.at_ 0 _ rfl
      have X1_1 := X1.out.at_ 1 _ rfl
      go_wp2_with fail
      refine (F1.out _).mono ?_; rintro e w2 ⟨rfl, hb⟩
      clear X1_0 X1_1
      replace X1 := Lib.hid (X1.out.below hb)
      replace HB := Lib.hid (below_step HB.out hb)
      clear hb
      go_wp2_with fail
      go_ret
      exact ⟨by rw [HE2.out]; rfl, HB.out⟩
    · have HE2 : Hid (res = sn ++ ⟨#[47]⟩ ++ sd) := Lib.hid (by rw [HE.out, if_pos rfl, if_neg h1])
      have f1 : (d == 1) = false := by simpa using h1
      clear HE h1
      go_enter Tryd.func31, Tryd.ntmps31
      go_wp2_with fail
      have X1 := Lib.hid (box_new (W := w) (g := w.heap.size) 23 #[.int .i64 n, .int .i64 d] (by simp))
      have HB := Lib.hid (below_alloc w (.cells #[.int .i64 n, .int .i64 d] 23))
      generalize w.alloc (.cells #[.int .i64 n, .int .i64 d] 23) = w0 at *
      refine (CV.out _).mono ?_; rintro e w1 ⟨rfl, hb⟩
      replace X1 := Lib.hid (X1.out.below hb)
      replace HB := Lib.hid (below_step HB.out hb)
      clear hb
      have X1_1 := X1.out.at_ 1 _ rfl
      go_wp2_with fail
      clear X1_1
      have l0 := X1.out.lat 0 _ rfl
      have l1 := X1.out.lat 1 _ rfl
      refine wp_region_lat (by kernel_rfl) (by kernel_rfl) ?_
      repeat (go_big_quiet_step (first | (with_reducible exact lat_call (F1.out _)) | (with_reducible exact lat_call (F2.out _))))
      refine wpQuiet_nil ?_; intro w2 hb
      replace X1 := Lib.hid (X1.out.below hb)
      replace HB := Lib.hid (below_step HB.out hb)
      clear hb
      clear l0 l1
      go_wp2_with fail
      go_ret
      exact ⟨by rw [HE2.out]; rfl, HB.out⟩

set_option maxRecDepth 100000 in
set_option maxHeartbeats 4000000 in
theorem refSlash (s : ByteArray) (w : World) (hs : s.size ≤ maxLen) :
    Calls Tryd.prog 52 #[.string s] w fun e w' => e = .returned (.int .i64 (sl s.data.toList)) ∧ w = w' := by
  unfold maxLen at hs
  go_enter Tryd.func52, Tryd.ntmps52
  go_wp2_with fail
  go_loop [3] (fun c => ∃ k : Nat, k ≤ s.size ∧ Hid (∀ j, j < k → s.data.toList.getD j 0 ≠ 47) ∧ c = .int .i64 k) (fun c => s.size - (intOf c).toNat)
  case atStart => exact ⟨0, Nat.zero_le _, (fun j h => by omega), rfl⟩
  case round =>
    obtain ⟨k, hk, hd, rfl⟩ := hrel
    by_cases hlt : k < s.size
    · have hbk := byt_at s k hlt
      unfold byt at hbk
      have e47 : s.data.toList.getD k 0 = 47 ↔ (s[k].toNat : Int) = 47 := by
        rw [← hbk]
        constructor
        · intro h; rw [h]; rfl
        · intro h; exact UInt8.toNat_inj.1 (by simpa using (by omega : (s.data.toList.getD k 0).toNat = 47))
      have E47 := Lib.hid e47
      clear hbk e47
      by_cases hg : (s[k].toNat : Int) = 47
      · have HE := Lib.hid (sl_unique s.data.toList k (by rw [← Lib.size_eq]; exact hk) hd.out (fun _ => E47.out.2 hg))
        have f1 : ((s[k].toNat : Int) == 47) = true := by simpa using hg
        clear hg hd E47
        go_wp2_with fail
        go_ret
        exact ⟨ret1 (by rw [HE.out]), rfl⟩
      · have HD : Hid (∀ j, j < k + 1 → s.data.toList.getD j 0 ≠ 47) := fun j h => by
          by_cases e : j = k
          · rw [e]; exact fun h2 => hg (E47.out.1 h2)
          · exact hd.out j (by omega)
        have f1 : ((s[k].toNat : Int) == 47) = false := by simpa using hg
        clear hg hd E47
        go_wp2_with fail
        go_round
        case rel => exact ⟨k + 1, by omega, HD, by go_num⟩
        case measure => simp [intOf]; omega
    · obtain rfl : k = s.size := by omega
      have HE := Lib.hid (sl_unique s.data.toList s.size (by rw [← Lib.size_eq]; exact hk) hd.out (fun h => by rw [← Lib.size_eq] at h; omega))
      clear hd
      go_wp2_with fail
      go_ret
      exact ⟨ret1 (by rw [HE.out]), rfl⟩

theorem extract_p (s : ByteArray) : s.extract 0 (sl s.data.toList) = pPart s := bytes_eq (by
  unfold pPart; simp [Lib.extract_data])
theorem extract_q (s : ByteArray) : s.extract (sl s.data.toList + 1) s.size = qPart s := bytes_eq (by
  rw [Lib.extract_to_end]; rfl)

end Go.Proofs.YtbaalbmchhgmnaaDoor

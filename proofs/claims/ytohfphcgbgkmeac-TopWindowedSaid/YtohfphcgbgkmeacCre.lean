/- Contracts of the package credit; and of the law's own 'far'. -/
import Derived.Test.YtohfphcgbgkmeacWin
namespace Go.Proofs.Ytohfphcgbgkmeac
open Go.RowKit

/-- How far it is, nothing if half round and more: what the law reckons. -/
def farV (a b : Int) : Int := if 2147483648 ≤ (a - b) % 4294967296 then 0 else (a - b) % 4294967296
theorem farV_bd (a b : Int) : 0 ≤ farV a b ∧ farV a b ≤ 2147483647 := by unfold farV; split <;> omega
theorem outOf_eq (no en most : Int) (h : 0 ≤ most) : outOf no en most = min (farV en no) most := by
  unfold outOf lessB far farV
  by_cases h1 : 2147483648 ≤ (en - no) % 4294967296
  · rw [if_pos h1, if_neg (by simp; omega)]; omega
  · rw [if_neg h1]
    by_cases h0 : 0 < (en - no) % 4294967296
    · rw [if_pos (by simp; omega)]
    · rw [if_neg (by simp; omega)]; omega

theorem farf_any (a b : Int) (w : World) :
    Calls Try.prog 5 #[.int .u32 a, .int .u32 b] w fun e w' => e = .returned (.int .u32 (farV a b)) ∧ w = w' := by
  go_enter Try.func5, Try.ntmps5
  go_wp2
  all_goals
    go_ret
    exact ⟨ret_int (by unfold farV; split <;> first | rfl | (simp; omega) | omega), rfl⟩

section
variable {w : World} {b : Nat} {n l : Int} {d : Bool}
/-- take. -/
theorem ctake_any (x : Int) (h : Str w b 48 (creC n l d)) (x0 : 0 ≤ x) (x1 : x ≤ 4294967295) (l1 : l ≤ 4294967295) (hx : x ≤ l) :
    Calls Try.prog 23 #[.pointer (some ⟨b, 0, none⟩), .int .u32 x] w fun e w' => e = .returned (.tuple #[]) ∧ Wrote w w' b 48 (creC ((n + x) % 4294967296) (l - x) d) := by
  have H := Lib.hid h
  obtain ⟨c0, c1, c2, f0, f1, f2⟩ := creC_facts h
  clear h
  go_enter Try.func23, Try.ntmps23
  go_wp2_with (go_at_call 21; refine (add_any n x _).mono ?_; rintro e w' ⟨rfl, rfl⟩)
  go_end0
  exact ⟨rfl, (((Wrote.refl H.out).set 0 _).set 1 _)⟩

theorem take_no (h : Str w b 48 (creC n l d)) (hl : l = 0) :
    Calls Try.prog 13 #[.pointer (some ⟨b, 0, none⟩)] w fun e w' => e = .returned (.bool false) ∧ w = w' := by
  subst hl
  obtain ⟨c0, c1, c2, f0, f1, f2⟩ := creC_facts h
  clear h
  go_enter Try.func13, Try.ntmps13
  go_wp2
  go_ret
  exact ⟨rfl, rfl⟩

theorem take_yes (h : Str w b 48 (creC n l d)) (hl : 0 < l) (l1 : l ≤ 4294967295) :
    Calls Try.prog 13 #[.pointer (some ⟨b, 0, none⟩)] w fun e w' => e = .returned (.bool true) ∧ Wrote w w' b 48 (creC ((n + 1) % 4294967296) (l - 1) d) := by
  have H := Lib.hid h
  obtain ⟨c0, c1, c2, f0, f1, f2⟩ := creC_facts h
  clear h
  have hz : (l == 0) = false := by simp; omega
  go_enter Try.func13, Try.ntmps13
  go_wp2_with (go_at_call 23; refine (ctake_any 1 H.out (by omega) (by omega) l1 (by omega)).mono ?_; rintro e w' ⟨rfl, hw⟩; have HW := Lib.hid hw; clear hw)
  go_ret
  exact ⟨rfl, HW.out⟩

theorem dry_no (h : Str w b 48 (creC n l false)) :
    Calls Try.prog 14 #[.pointer (some ⟨b, 0, none⟩)] w fun e w' => e = .returned (.tuple #[.int .u32 0, .bool false]) ∧ w = w' := by
  obtain ⟨c0, c1, c2, f0, f1, f2⟩ := creC_facts h
  clear h
  go_enter Try.func14, Try.ntmps14
  go_wp2
  go_ret2
  exact ⟨rfl, rfl⟩

theorem dry_yes (h : Str w b 48 (creC n l true)) (l0 : 0 ≤ l) (l1 : l ≤ 4294967295) :
    Calls Try.prog 14 #[.pointer (some ⟨b, 0, none⟩)] w fun e w' => e = .returned (.tuple #[.int .u32 l, .bool true]) ∧ Wrote w w' b 48 (creC ((n + l) % 4294967296) 0 false) := by
  have H := Lib.hid h
  obtain ⟨c0, c1, c2, f0, f1, f2⟩ := creC_facts h
  clear h
  go_enter Try.func14, Try.ntmps14
  go_wp2_with (go_at_call 23; refine (ctake_any l H.out l0 l1 l1 (Int.le_refl _)).mono ?_; rintro e w' ⟨rfl, hw⟩; obtain ⟨-, -, c2', -, -, f2'⟩ := creC_facts hw.str; have HW := Lib.hid hw; clear hw)
  go_ret2
  have hfin := HW.out.set 2 (.bool false)
  rw [show (creC ((n + l) % 4294967296) (l - l) true).setIfInBounds 2 (.bool false) = creC ((n + l) % 4294967296) 0 false by rw [Int.sub_self]; rfl] at hfin
  exact ⟨rfl, hfin⟩

set_option maxHeartbeats 1600000 in
theorem ctold_any (a x : Int) (dr : Bool) (h : Str w b 48 (creC n l d)) (x0 : 0 ≤ x) (x1 : x ≤ 4294967295) (n0 : 0 ≤ n) (n1 : n ≤ 4294967295) (m : Int)
    (hm : Hid (m = outOf n ((a + x) % 4294967296) 1000)) :
    Calls Try.prog 12 #[.pointer (some ⟨b, 0, none⟩), .int .u32 a, .int .u32 x, .bool dr] w fun e w' => e = .returned (.tuple #[]) ∧ Wrote w w' b 48 (creC n m dr) := by
  have H := Lib.hid h
  obtain ⟨c0, c1, c2, f0, f1, f2⟩ := creC_facts h
  clear h
  obtain ⟨en, hen⟩ : ∃ en, en = (a + x) % 4294967296 := ⟨_, rfl⟩
  have hen0 : 0 ≤ en ∧ en ≤ 4294967295 := by rw [hen]; omega
  obtain ⟨en0, en1⟩ := hen0
  have hA : ∀ W, Calls Try.prog 21 #[.int .u32 a, .int .i64 x] W fun e w' => e = .returned (.int .u32 en) ∧ W = w' := fun W => by rw [hen]; exact add_any _ _ _
  have HA := Lib.hid hA
  have HEN := Lib.hid hen
  clear hA hen
  obtain ⟨f, hf⟩ : ∃ f, (en - n) % 4294967296 = f := ⟨_, rfl⟩
  have hfar : far n en = f := hf
  have HFAR := Lib.hid hfar
  have hfb : 0 ≤ f ∧ f ≤ 4294967295 := by omega
  obtain ⟨g0, g1⟩ := hfb
  clear hfar
  obtain ⟨L, hL⟩ : ∃ L, L = lessB n en := ⟨_, rfl⟩
  have hLess : ∀ W, Calls Try.prog 22 #[.int .u32 n, .int .u32 en] W fun e w' => e = .returned (.bool L) ∧ W = w' := fun W => by rw [hL]; exact less_any n en W n0 n1 en0 en1
  have HLESS := Lib.hid hLess
  have HL := Lib.hid hL
  clear hLess hL
  have hmo : m = if L then min f 1000 else 0 := by rw [hm.out, ← HEN.out, outOf, ← HL.out, HFAR.out]
  have HMO := Lib.hid hmo
  clear hmo
  cases L <;> by_cases h256 : 1000 < f
  all_goals
    go_enter Try.func12, Try.ntmps12
    go_wp2_with (first
      | (go_at_call 21; refine (HA.out _).mono ?_; rintro e w' ⟨rfl, rfl⟩)
      | (go_at_call 22; refine (HLESS.out _).mono ?_; rintro e w' ⟨rfl, rfl⟩))
    go_end0
    have hz2 := HMO.out
    simp only [Bool.false_eq_true, ↓reduceIte] at hz2
    subst hz2
    first
    | exact ⟨rfl, ((((Wrote.refl H.out).set 1 _).set 2 _).set 1 _).eq (by first | rfl | (unfold creC; simp; omega))⟩
    | exact ⟨rfl, (((Wrote.refl H.out).set 1 _).set 2 _).eq (by first | rfl | (unfold creC; simp; omega))⟩

theorem cgrant_any (x : Int) (dr : Bool) (h : Str w b 48 (creC n l d)) (x0 : 0 ≤ x) (m : Int) (hm : Hid (m = min x 1000)) :
    Calls Try.prog 15 #[.pointer (some ⟨b, 0, none⟩), .int .u32 x, .bool dr] w fun e w' => e = .returned (.int .u32 n) ∧ Wrote w w' b 48 (creC n m dr) := by
  have H := Lib.hid h
  obtain ⟨c0, c1, c2, f0, f1, f2⟩ := creC_facts h
  clear h
  go_enter Try.func15, Try.ntmps15
  go_wp2
  all_goals
    go_ret
    exact ⟨rfl, (((Wrote.refl H.out).set 1 _).set 2 _).eq (by have := hm.out; unfold creC; simp; omega)⟩

theorem cleft_any (h : Str w b 48 (creC n l d)) :
    Calls Try.prog 18 #[.pointer (some ⟨b, 0, none⟩)] w fun e w' => e = .returned (.tuple #[.int .u32 n, .int .u32 l, .bool d]) ∧ w.drew = w' := by
  obtain ⟨c0, c1, c2, f0, f1, f2⟩ := creC_facts h
  clear h
  go_enter Try.func18, Try.ntmps18
  go_wp2
  go_region
  go_wp2
  go_ret3
  exact ⟨rfl, rfl⟩

/-- Heard: of more than is left. -/
theorem heard_no (x : Int) (h : Str w b 48 (creC n l d)) (hx : l < (x - n) % 4294967296) :
    Calls Try.prog 16 #[.pointer (some ⟨b, 0, none⟩), .int .u32 x] w fun e w' => e = .returned (.tuple #[]) ∧ w = w' := by
  obtain ⟨c0, c1, c2, f0, f1, f2⟩ := creC_facts h
  clear h
  go_enter Try.func16, Try.ntmps16
  go_wp2
  first | go_end0 | refine bodyPost_ret (results_none rfl _ _ _) rfl ?_
  exact ⟨rfl, rfl⟩

/-- Heard: of no more. -/
theorem heard_yes (x : Int) (h : Str w b 48 (creC n l d)) (hx : (x - n) % 4294967296 ≤ l) (l1 : l ≤ 4294967295) (d' : Bool) (m : Int) (hm : Hid (m = l - (x - n) % 4294967296)) (hd : Hid (d' = (d && decide (0 < m)))) (n' : Int) (hn : Hid (n' = (n + (x - n) % 4294967296) % 4294967296)) :
    Calls Try.prog 16 #[.pointer (some ⟨b, 0, none⟩), .int .u32 x] w fun e w' => e = .returned (.tuple #[]) ∧ Wrote w w' b 48 (creC n' m d') := by
  have H := Lib.hid h
  obtain ⟨c0, c1, c2, f0, f1, f2⟩ := creC_facts h
  clear h
  obtain ⟨f, hf⟩ : ∃ f, (x - n) % 4294967296 = f := ⟨_, rfl⟩
  rw [hf] at hx
  have hf0 : 0 ≤ f := by omega
  have hml : m = l - f := by rw [hm.out, hf]
  have hnl : n' = (n + f) % 4294967296 := by rw [hn.out, hf]
  have HML := Lib.hid hml
  have HNL := Lib.hid hnl
  clear hml hnl
  cases d <;> by_cases hp : 0 < l - f
  all_goals
    go_enter Try.func16, Try.ntmps16
    go_wp2_with (go_at_call 23; refine (ctake_any f H.out hf0 (by omega) l1 hx).mono ?_; rintro e w' ⟨rfl, hw⟩; obtain ⟨-, e1, e2, -, -, f2'⟩ := creC_facts hw.str; have HW := Lib.hid hw; clear hw)
    go_end0
    exact ⟨rfl, (HW.out.set 2 _).eq (by have h1 := HML.out; have h2 := HNL.out; have h3 := hd.out; subst h1; subst h2; subst h3; unfold creC; first | rfl | (simp [hp]; done) | (simp; omega))⟩
end
end Go.Proofs.Ytohfphcgbgkmeac

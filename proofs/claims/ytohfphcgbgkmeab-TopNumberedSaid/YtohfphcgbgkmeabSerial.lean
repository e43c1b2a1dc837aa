/- Contracts of the package serial. -/
import Derived.Test.YtohfphcgbgkmeabProg
import Derived.Test.YtohfphcgbgkmeabKit
import Derived.WalkLawsBesides
import Derived.WalkSpells
import Derived.KernelRfl
namespace Go.Proofs.Ytohfphcgbgkmeab
open Go.RowKit

/-- How far it is from one number to another, going round. -/
def far (a b : Int) : Int := (b - a) % 4294967296
theorem far_bd (a b : Int) : 0 ≤ far a b ∧ far a b ≤ 4294967295 := by unfold far; omega

theorem steps_any (a b : Int) (w : World) :
    Calls Try.prog 18 #[.int .u32 a, .int .u32 b] w fun e w' => e = .returned (.int .u32 (far a b)) ∧ w = w' := by
  go_enter Try.func18, Try.ntmps18
  go_wp2
  go_ret
  exact ⟨rfl, rfl⟩

theorem near_any (n : Int) (w : World) :
    Calls Try.prog 19 #[.int .u32 n] w fun e w' => e = .returned (.bool (decide (n ≤ 2147483647))) ∧ w = w' := by
  go_enter Try.func19, Try.ntmps19
  go_wp2
  go_ret
  exact ⟨rfl, rfl⟩

/-- Does a number stand ahead of another one? -/
def lessB (a b : Int) : Bool := decide (0 < far a b ∧ far a b ≤ 2147483647)

theorem less_any (a b : Int) (w : World) (a0 : 0 ≤ a) (a1 : a ≤ 4294967295) (b0 : 0 ≤ b) (b1 : b ≤ 4294967295) :
    Calls Try.prog 14 #[.int .u32 a, .int .u32 b] w fun e w' => e = .returned (.bool (lessB a b)) ∧ w = w' := by
  by_cases h : a = b
  · subst h
    go_enter Try.func14, Try.ntmps14
    go_wp2
    go_ret
    exact ⟨ret_bool (by simp [lessB, far]), rfl⟩
  · have hne : (a != b) = true := by simpa using h
    have hf : 0 < far a b := by unfold far; omega
    have HF := Lib.hid hf
    clear hf h
    go_enter Try.func14, Try.ntmps14
    go_wp2_with (first | (go_at_call 18; refine (steps_any _ _ _).mono ?_; rintro e w' ⟨rfl, rfl⟩) | (go_at_call 19; refine (near_any _ _).mono ?_; rintro e w' ⟨rfl, rfl⟩))
    go_ret
    exact ⟨ret_bool (by simp [lessB, HF.out]), rfl⟩

theorem add_any (a n : Int) (w : World) :
    Calls Try.prog 15 #[.int .u32 a, .int .i64 n] w fun e w' => e = .returned (.int .u32 ((a + n) % 4294967296)) ∧ w = w' := by
  go_enter Try.func15, Try.ntmps15
  go_wp2
  go_ret
  exact ⟨ret_int (by simp), rfl⟩
/- Span, In -/
theorem span_any (a b : Int) (w : World) :
    Calls Try.prog 13 #[.int .u32 a, .int .u32 b] w fun e w' => e = .returned (.tuple #[.int .i64 (if far a b ≤ 2147483647 then far a b + 1 else 0), .bool (decide (far a b ≤ 2147483647))]) ∧ w = w' := by
  obtain ⟨f0, f1⟩ := far_bd a b
  obtain ⟨f, hf⟩ : ∃ f, f = far a b := ⟨_, rfl⟩
  have HF := Lib.hid hf
  rw [← hf] at f0 f1 ⊢
  clear hf
  by_cases h : f ≤ 2147483647
  · rw [if_pos h]
    go_enter Try.func13, Try.ntmps13
    go_wp2_with (first | (go_at_call 18; refine (steps_any _ _ _).mono ?_; rw [← HF.out]; rintro e w' ⟨rfl, rfl⟩) | (go_at_call 19; refine (near_any _ _).mono ?_; rintro e w' ⟨rfl, rfl⟩))
    go_ret2
    exact ⟨ret_two rfl (by simp [h]), rfl⟩
  · rw [if_neg h]
    have hd : decide (f ≤ 2147483647) = false := by simpa using h
    go_enter Try.func13, Try.ntmps13
    go_wp2_with (first | (go_at_call 18; refine (steps_any _ _ _).mono ?_; rw [← HF.out]; rintro e w' ⟨rfl, rfl⟩) | (go_at_call 19; refine (near_any _ _).mono ?_; rintro e w' ⟨rfl, rfl⟩))
    go_ret2
    exact ⟨by rw [hd]; rfl, rfl⟩
theorem in_any (x a n : Int) (w : World) :
    Calls Try.prog 16 #[.int .u32 x, .int .u32 a, .int .i64 n] w fun e w' => e = .returned (.bool (decide (far a x < n))) ∧ w = w' := by
  obtain ⟨f0, f1⟩ := far_bd a x
  go_enter Try.func16, Try.ntmps16
  go_wp2_with (first | (go_at_call 18; refine (steps_any _ _ _).mono ?_; rintro e w' ⟨rfl, rfl⟩))
  go_ret
  exact ⟨rfl, rfl⟩
end Go.Proofs.Ytohfphcgbgkmeab

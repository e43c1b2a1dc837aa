/- Contracts of the package serial. -/
import Derived.Test.YtohfphcgbgkmeacProg
import Derived.Test.YtohfphcgbgkmeacKit
import Derived.WalkLawsBesides
import Derived.WalkSpells
import Derived.KernelRfl
namespace Go.Proofs.Ytohfphcgbgkmeac
open Go.RowKit

/-- How far it is from one number to another, going round. -/
def far (a b : Int) : Int := (b - a) % 4294967296
theorem far_bd (a b : Int) : 0 ≤ far a b ∧ far a b ≤ 4294967295 := by unfold far; omega

theorem steps_any (a b : Int) (w : World) :
    Calls Try.prog 25 #[.int .u32 a, .int .u32 b] w fun e w' => e = .returned (.int .u32 (far a b)) ∧ w = w' := by
  go_enter Try.func25, Try.ntmps25
  go_wp2
  go_ret
  exact ⟨rfl, rfl⟩

theorem near_any (n : Int) (w : World) :
    Calls Try.prog 24 #[.int .u32 n] w fun e w' => e = .returned (.bool (decide (n ≤ 2147483647))) ∧ w = w' := by
  go_enter Try.func24, Try.ntmps24
  go_wp2
  go_ret
  exact ⟨rfl, rfl⟩

/-- Does a number stand ahead of another one? -/
def lessB (a b : Int) : Bool := decide (0 < far a b ∧ far a b ≤ 2147483647)

theorem less_any (a b : Int) (w : World) (a0 : 0 ≤ a) (a1 : a ≤ 4294967295) (b0 : 0 ≤ b) (b1 : b ≤ 4294967295) :
    Calls Try.prog 22 #[.int .u32 a, .int .u32 b] w fun e w' => e = .returned (.bool (lessB a b)) ∧ w = w' := by
  by_cases h : a = b
  · subst h
    go_enter Try.func22, Try.ntmps22
    go_wp2
    go_ret
    exact ⟨ret_bool (by simp [lessB, far]), rfl⟩
  · have hne : (a != b) = true := by simpa using h
    have hf : 0 < far a b := by unfold far; omega
    have HF := Lib.hid hf
    clear hf h
    go_enter Try.func22, Try.ntmps22
    go_wp2_with (first | (go_at_call 25; refine (steps_any _ _ _).mono ?_; rintro e w' ⟨rfl, rfl⟩) | (go_at_call 24; refine (near_any _ _).mono ?_; rintro e w' ⟨rfl, rfl⟩))
    go_ret
    exact ⟨ret_bool (by simp [lessB, HF.out]), rfl⟩

theorem add_any (a n : Int) (w : World) :
    Calls Try.prog 21 #[.int .u32 a, .int .i64 n] w fun e w' => e = .returned (.int .u32 ((a + n) % 4294967296)) ∧ w = w' := by
  go_enter Try.func21, Try.ntmps21
  go_wp2
  go_ret
  exact ⟨ret_int (by simp), rfl⟩
end Go.Proofs.Ytohfphcgbgkmeac

import Derived.Test.YtohfphcgbgkmeaaProg
import Derived.WalkKit
import Derived.WalkLawsBesides
import Derived.WalkSpells
import Derived.KernelRfl
import Derived.Lib.Hide
import Derived.Laws.EntriesVeiled
namespace Go.Proofs.Ytohfphcgbgkmeaa
open Go.RowKit

theorem ret_int {k : IntKind} {a b : Int} (h : a = b) : Ending.returned (.int k a) = .returned (.int k b) := by rw [h]
theorem ret_bool {a b : Bool} (h : a = b) : Ending.returned (.bool a) = .returned (.bool b) := by rw [h]
theorem ret_two {k : IntKind} {a b : Int} {p q : Bool} (h : a = b) (g : p = q) : Ending.returned (.tuple #[.int k a, .bool p]) = .returned (.tuple #[.int k b, .bool q]) := by rw [h, g]

/-- A moment that may be, at or behind what was told. -/
def mom (n told : Int) : Int := min (max n told) 2305843009213693952

theorem moment_any (b : Nat) (n told : Int) (w : World) (hc : w.cell? ⟨b, 4, none⟩ = some (.int .i64 told)) :
    Calls Try.prog 11 #[.pointer (some ⟨b, 0, none⟩), .int .i64 n] w fun e w' => e = .returned (.int .i64 (mom n told)) ∧ w = w' := by
  go_enter Try.func11, Try.ntmps11
  go_wp2
  all_goals (go_ret; exact ⟨ret_int (by unfold mom; omega), rfl⟩)

theorem mom_any (n : Int) (w : World) :
    Calls Try.prog 4 #[.int .i64 n] w fun e w' => e = .returned (.int .i64 (mom n 0)) ∧ w = w' := by
  go_enter Try.func4, Try.ntmps4
  go_wp2
  all_goals (go_ret; exact ⟨ret_int (by unfold mom; omega), rfl⟩)

theorem lateAt_any (b : Nat) (own got : Int) (w : World) (h0 : w.cell? ⟨b, 0, none⟩ = some (.int .i64 own)) (h2 : w.cell? ⟨b, 2, none⟩ = some (.int .i64 got)) (o0 : 0 ≤ own) (o1 : own ≤ 1048576) (g0 : 0 ≤ got) (g1 : got ≤ 2305843009213693952) :
    Calls Try.prog 12 #[.pointer (some ⟨b, 0, none⟩)] w fun e w' => e = .returned (.tuple #[.int .i64 (got + own), .bool (decide (0 < own))]) ∧ w.drew = w' := by
  go_enter Try.func12, Try.ntmps12
  go_wp2
  go_region
  go_wp2
  go_ret2
  exact ⟨rfl, rfl⟩

theorem dueAt_any (b : Nat) (peer sent half : Int) (w : World) (h0 : w.cell? ⟨b, 1, none⟩ = some (.int .i64 peer)) (h2 : w.cell? ⟨b, 3, none⟩ = some (.int .i64 sent)) (o0 : 0 ≤ peer) (o1 : peer ≤ 1048576) (g0 : 0 ≤ sent) (g1 : sent ≤ 2305843009213693952)
    (hh : half = max (peer / 2) 1) :
    Calls Try.prog 13 #[.pointer (some ⟨b, 0, none⟩)] w fun e w' => e = .returned (.tuple #[.int .i64 (sent + half), .bool (decide (0 < peer))]) ∧ w.drew = w' := by
  have HH := Lib.hid hh
  clear hh
  go_enter Try.func13, Try.ntmps13
  go_wp2
  go_region
  go_wp2
  all_goals
    go_ret2
    exact ⟨ret_two (by have := HH.out; omega) rfl, rfl⟩

theorem got_any (b : Nat) (n told : Int) (w : World) (g : Int) (h2 : w.cell? ⟨b, 2, none⟩ = some (.int .i64 g)) (hc : w.cell? ⟨b, 4, none⟩ = some (.int .i64 told)) (hf : w.frozen? ⟨b, 4, none⟩ = false) (hf2 : w.frozen? ⟨b, 2, none⟩ = false) :
    Calls Try.prog 6 #[.pointer (some ⟨b, 0, none⟩), .int .i64 n] w fun e w' => e = .returned (.tuple #[]) ∧ (w.setCell ⟨b, 4, none⟩ (.int .i64 (mom n told))).setCell ⟨b, 2, none⟩ (.int .i64 (mom n told)) = w' := by
  go_enter Try.func6, Try.ntmps6
  go_wp2_with (go_at_call 11; refine (moment_any b n told _ hc).mono ?_; rintro e w' ⟨rfl, rfl⟩)
  go_end0
  exact ⟨rfl, rfl⟩

theorem sent_any (b : Nat) (n told : Int) (w : World) (g : Int) (h2 : w.cell? ⟨b, 3, none⟩ = some (.int .i64 g)) (hc : w.cell? ⟨b, 4, none⟩ = some (.int .i64 told)) (hf : w.frozen? ⟨b, 4, none⟩ = false) (hf2 : w.frozen? ⟨b, 3, none⟩ = false) :
    Calls Try.prog 7 #[.pointer (some ⟨b, 0, none⟩), .int .i64 n] w fun e w' => e = .returned (.tuple #[]) ∧ (w.setCell ⟨b, 4, none⟩ (.int .i64 (mom n told))).setCell ⟨b, 3, none⟩ (.int .i64 (mom n told)) = w' := by
  go_enter Try.func7, Try.ntmps7
  go_wp2_with (go_at_call 11; refine (moment_any b n told _ hc).mono ?_; rintro e w' ⟨rfl, rfl⟩)
  go_end0
  exact ⟨rfl, rfl⟩

theorem late_any (b : Nat) (own got told n : Int) (w : World) (h0 : w.cell? ⟨b, 0, none⟩ = some (.int .i64 own)) (h2 : w.cell? ⟨b, 2, none⟩ = some (.int .i64 got)) (h4 : w.cell? ⟨b, 4, none⟩ = some (.int .i64 told)) (o0 : 0 ≤ own) (o1 : own ≤ 1048576) (g0 : 0 ≤ got) (g1 : got ≤ 2305843009213693952) :
    Calls Try.prog 9 #[.pointer (some ⟨b, 0, none⟩), .int .i64 n] w fun e w' => e = .returned (.bool (decide (0 < own) && decide (got + own ≤ mom n told))) ∧ w.drew = w' := by
  by_cases hp : 0 < own
  all_goals
    go_enter Try.func9, Try.ntmps9
    go_wp2_with (first | (go_at_call 12; refine (lateAt_any b own got _ h0 h2 o0 o1 g0 g1).mono ?_; rintro e w' ⟨rfl, rfl⟩) | (go_at_call 11; refine (moment_any b n told _ ?_).mono ?_; (simpa using h4); rintro e w' ⟨rfl, rfl⟩))
    go_ret
    exact ⟨ret_bool (by first | (simp [hp]; done) | (simp; omega)), rfl⟩

theorem due_any (b : Nat) (peer sent told n half : Int) (w : World) (h0 : w.cell? ⟨b, 1, none⟩ = some (.int .i64 peer)) (h2 : w.cell? ⟨b, 3, none⟩ = some (.int .i64 sent)) (h4 : w.cell? ⟨b, 4, none⟩ = some (.int .i64 told)) (o0 : 0 ≤ peer) (o1 : peer ≤ 1048576) (g0 : 0 ≤ sent) (g1 : sent ≤ 2305843009213693952) (hh : Hid (half = max (peer / 2) 1)) :
    Calls Try.prog 10 #[.pointer (some ⟨b, 0, none⟩), .int .i64 n] w fun e w' => e = .returned (.bool (decide (0 < peer) && decide (sent + half ≤ mom n told))) ∧ w.drew = w' := by
  by_cases hp : 0 < peer
  all_goals
    go_enter Try.func10, Try.ntmps10
    go_wp2_with (first | (go_at_call 13; refine (dueAt_any b peer sent half _ h0 h2 o0 o1 g0 g1 hh.out).mono ?_; rintro e w' ⟨rfl, rfl⟩) | (go_at_call 11; refine (moment_any b n told _ ?_).mono ?_; (simpa using h4); rintro e w' ⟨rfl, rfl⟩))
    go_ret
    exact ⟨ret_bool (by first | (simp [hp]; done) | (simp; omega)), rfl⟩

theorem alloc_two {w : World} {a b a' b' : Int} {x y z : Value} (h : a = a') (g : b = b') : w.alloc (.cells #[.int .i64 a, .int .i64 b, x, y, z] 34) = w.alloc (.cells #[.int .i64 a', .int .i64 b', x, y, z] 34) := by rw [h, g]

/-- New. -/
theorem new_any (own peer now : Int) (w : World) (o0 : 0 ≤ own) (o1 : own ≤ 4294967295) (p0 : 0 ≤ peer) (p1 : peer ≤ 4294967295) :
    Calls Try.prog 5 #[.int .u32 own, .int .u32 peer, .int .i64 now] w fun e w' => e = .returned (.pointer (some ⟨w.heap.size, 0, none⟩)) ∧
      w.alloc (.cells #[.int .i64 (min own 1048576), .int .i64 (min peer 1048576), .int .i64 (mom now 0), .int .i64 (mom now 0), .int .i64 (mom now 0)] 34) = w' := by
  have hmm : mom now (mom now 0) = mom now 0 := by unfold mom; omega
  go_enter Try.func5, Try.ntmps5
  go_wp2_with (first | (go_at_call 6; refine (got_any _ _ 0 _ 0 ?_ ?_ ?_ ?_).mono ?_; (simp [go_sem]); (simp [go_sem]); (simp [go_sem]); (simp [go_sem]); rintro e w' ⟨rfl, rfl⟩) | (go_at_call 7; refine (sent_any _ _ (mom now 0) _ 0 ?_ ?_ ?_ ?_).mono ?_; (simp [go_sem]); (simp [go_sem]); (simp [go_sem]); (simp [go_sem]); rintro e w' ⟨rfl, rfl⟩))
  all_goals (go_ret; exact ⟨rfl, alloc_two (by omega) (by omega)⟩)


/-- The first of two moments, of those that are. -/
def firstOf (own peer a b : Int) : Int := if 0 < own then (if 0 < peer then min a b else a) else if 0 < peer then b else 0

set_option maxHeartbeats 1600000 in
theorem when_any (b : Nat) (own peer got sent half : Int) (w : World) (h0 : w.cell? ⟨b, 0, none⟩ = some (.int .i64 own)) (h1 : w.cell? ⟨b, 1, none⟩ = some (.int .i64 peer)) (h2 : w.cell? ⟨b, 2, none⟩ = some (.int .i64 got)) (h3 : w.cell? ⟨b, 3, none⟩ = some (.int .i64 sent))
    (o0 : 0 ≤ own) (o1 : own ≤ 1048576) (p0 : 0 ≤ peer) (p1 : peer ≤ 1048576) (g0 : 0 ≤ got) (g1 : got ≤ 2305843009213693952) (s0 : 0 ≤ sent) (s1 : sent ≤ 2305843009213693952) (hh : Hid (half = max (peer / 2) 1)) :
    Calls Try.prog 8 #[.pointer (some ⟨b, 0, none⟩)] w fun e w' => e = .returned (.tuple #[.int .i64 (firstOf own peer (got + own) (sent + half)), .bool (decide (0 < own) || decide (0 < peer))]) ∧
      (w.alloc (.cells #[.func (.func 12) #[.pointer (some ⟨b, 0, none⟩)] #[], .func (.func 13) #[.pointer (some ⟨b, 0, none⟩)] #[]] 30)).drew.drew = w' := by
  have hb0 : b < w.heap.size := World.block_lt_of_cell? _ _ h0
  have hne : ¬ b = w.heap.size := by omega
  have hmf : ∀ (fn : Fn) (first cap : Array Value) (w : World), (Instr.makeFunc fn first cap).run Try.prog w = .ok (.func fn first cap) w := fun _ _ _ _ => rfl
  by_cases hp : 0 < own <;> by_cases hq : 0 < peer
  all_goals
    go_enter Try.func8, Try.ntmps8
    go_wp2_with fail
    refine wp_loop_rounds 3 ?_
    rw [rounds_succ]
    go_wp2_with (first | (go_at_call 12; refine (lateAt_any b own got _ ?_ ?_ o0 o1 g0 g1).mono ?_; (simpa [World.cell?_alloc_old, hne] using h0); (simpa [World.cell?_alloc_old, hne] using h2); rintro e w' ⟨rfl, rfl⟩))
    rw [rounds_succ]
    go_wp2_with (first | (go_at_call 13; refine (dueAt_any b peer sent half _ ?_ ?_ p0 p1 s0 s1 hh.out).mono ?_; (simpa [World.cell?_alloc_old, hne] using h1); (simpa [World.cell?_alloc_old, hne] using h3); rintro e w' ⟨rfl, rfl⟩))
    all_goals
      rw [rounds_succ]
      go_wp2_with fail
      go_ret2
      exact ⟨ret_two (by unfold firstOf; split <;> (first | omega | (split <;> omega))) (by first | (simp; done) | (simp; omega)), rfl⟩
end Go.Proofs.Ytohfphcgbgkmeaa

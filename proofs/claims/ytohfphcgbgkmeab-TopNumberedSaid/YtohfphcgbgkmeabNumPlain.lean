/- The plain laws of numbers told by bytes. -/
import Derived.Test.YtohfphcgbgkmeabOctet
import Derived.Test.YtohfphcgbgkmeabSerial
namespace Go.Proofs.Ytohfphcgbgkmeab
open Go.RowKit

/-- The lowest digits, as a number. -/
def lowV (x : Int) (k : Nat) : Int := if k < 8 then x % 2 ^ (8 * k) else x
/-- What the law reckons of a width with a sign. -/
def sgnV (x : Int) (k : Nat) : Int := if 1 ≤ k ∧ k ≤ 7 then sgn x (8 * (8 - k)) else x

theorem mask_of (x : Int) (j : Nat) (m : Int) (x0 : 0 ≤ x) (x1 : x ≤ 18446744073709551615) (hm : m = ((2 ^ j - 1 : Nat) : Int)) (h64 : m < 18446744073709551616) : bits .and .u64 x m = x % ((2 ^ j : Nat) : Int) := by
  subst hm
  rw [u64_and x _ x0 (by omega) (by omega) h64, Int.toNat_natCast, Nat.and_two_pow_sub_one_eq_mod]
  obtain ⟨y, rfl⟩ := Int.eq_ofNat_of_zero_le x0
  simp

theorem low_and (x : Int) (k : Nat) (x0 : 0 ≤ x) (x1 : x ≤ 18446744073709551615) (hk : k < 8) : bits BinOp.and IntKind.u64 x (IntKind.u64.wrap (IntKind.u64.wrap (2 ^ (8 * k)) - 1)) = lowV x k := by
  unfold lowV
  rw [if_pos hk]
  have e : (2 : Int) ^ (8 * k) = ((2 ^ (8 * k) : Nat) : Int) := by simp
  rw [mask_of x (8 * k) _ x0 x1 ?_ ?_, e]
  · match k, hk with
    | 0, _ => decide
    | 1, _ => decide
    | 2, _ => decide
    | 3, _ => decide
    | 4, _ => decide
    | 5, _ => decide
    | 6, _ => decide
    | 7, _ => decide
  · match k, hk with
    | 0, _ => decide
    | 1, _ => decide
    | 2, _ => decide
    | 3, _ => decide
    | 4, _ => decide
    | 5, _ => decide
    | 6, _ => decide
    | 7, _ => decide

theorem num_wide (x : Int) (k : Nat) (x0 : 0 ≤ x) (x1 : x ≤ 18446744073709551615) (hk : k ≤ 8) : num (wideL x k) = lowV x k := by
  match k, hk with
  | 0, _ => simp [wideL, wideK, num, lowV]
  | 1, _ => simp [wideL, wideK, List.range_succ, num, lowV, dig]
  | 2, _ => simp [wideL, wideK, List.range_succ, num, lowV, dig]; omega
  | 3, _ => simp [wideL, wideK, List.range_succ, num, lowV, dig]; omega
  | 4, _ => simp [wideL, wideK, List.range_succ, num, lowV, dig]; omega
  | 5, _ => simp [wideL, wideK, List.range_succ, num, lowV, dig]; omega
  | 6, _ => simp [wideL, wideK, List.range_succ, num, lowV, dig]; omega
  | 7, _ => simp [wideL, wideK, List.range_succ, num, lowV, dig]; omega
  | 8, _ => simp [wideL, wideK, List.range_succ, num, lowV, dig]; omega

/-- octet.Signed. -/
theorem signed_any (x : Int) (k : Nat) (w : World) (hk : k ≤ 9) :
    Calls Try.prog 9 #[.int .u64 x, .int .i64 k] w fun e w' => e = .returned (.int .u64 (sgnV x k)) ∧ w = w' := by
  by_cases h : 1 ≤ k ∧ k ≤ 7
  · unfold sgnV; rw [if_pos h]; exact signed_mid x k w h.1 h.2
  · unfold sgnV; rw [if_neg h]; exact signed_out x k w (by omega) (by omega)

theorem less_at (a b : Int) (r : Bool) (w : World) (a0 : 0 ≤ a) (a1 : a ≤ 4294967295) (b0 : 0 ≤ b) (b1 : b ≤ 4294967295) (hr : Hid (r = lessB a b)) :
    Calls Try.prog 14 #[.int .u32 a, .int .u32 b] w fun e w' => e = .returned (.bool r) ∧ w = w' := by
  rw [hr.out]; exact less_any a b w a0 a1 b0 b1
theorem span_at (a b m : Int) (r : Bool) (w : World) (hm : Hid (m = if far a b ≤ 2147483647 then far a b + 1 else 0)) (hr : Hid (r = decide (far a b ≤ 2147483647))) :
    Calls Try.prog 13 #[.int .u32 a, .int .u32 b] w fun e w' => e = .returned (.tuple #[.int .i64 m, .bool r]) ∧ w = w' := by
  rw [hr.out, hm.out]; exact span_any a b w
theorem in_at (x a n : Int) (r : Bool) (w : World) (hr : Hid (r = decide (far a x < n))) :
    Calls Try.prog 16 #[.int .u32 x, .int .u32 a, .int .i64 n] w fun e w' => e = .returned (.bool r) ∧ w = w' := by
  rw [hr.out]; exact in_any x a n w

theorem bytes_app {a b : List Int} (ha : Bytes a) (hb : Bytes b) : Bytes (a ++ b) := by
  intro y hy
  rcases List.mem_append.1 hy with h | h
  · exact ha y h
  · exact hb y h
theorem bytes_take {a : List Int} (ha : Bytes a) (n : Nat) : Bytes (a.take n) := fun y hy => ha y (List.mem_of_mem_take hy)
theorem bytes_drop {a : List Int} (ha : Bytes a) (n : Nat) : Bytes (a.drop n) := fun y hy => ha y (List.mem_of_mem_drop hy)

/-- A length that a width can tell is what is told. -/
theorem low_len (len u : Nat) (hm : mayB u len = true) : num (wideL len u) = len := by
  have h := mayB_le hm
  have hu : u ≤ 8 := by omega
  rw [num_wide _ u (by omega) (by omega) hu]
  rcases h with ⟨h1, h2⟩ | ⟨h1, h2⟩
  · obtain rfl : u = 1 := by omega
    show (if 1 < 8 then _ else _) = _
    rw [if_pos (by decide)]
    omega
  · obtain rfl : u = 4 := by omega
    show (if 4 < 8 then _ else _) = _
    rw [if_pos (by decide)]
    omega

/-- A piece, and two bytes behind it. -/
theorem piece_back (v : Value) (q z : List Int) (u : Nat) (w : World) (hm : mayB u q.length = true) (h : Rd .u8 w v (wideL q.length u ++ q ++ z)) (hq : Bytes q) (hz : Bytes z) (hzl : z.length ≤ 1000) :
    Calls Try.prog 11 #[v, .int .i64 u] w fun e w' => ∃ v1 v2, e = .returned (.tuple #[v1, v2, .int .i64 0]) ∧ Own .u8 5 w' w.heap.size v1 q ∧ Own .u8 5 w' w.heap.size v2 z ∧ Below w.heap.size w w' := by
  have htk : (wideL q.length u ++ q ++ z).take u = wideL q.length u := by
    rw [List.append_assoc, List.take_append_of_le_length (by simp [wideL_len]), List.take_of_length_le (by simp [wideL_len])]
  have hn := low_len q.length u hm
  have h0 : mayB u 0 = true := by
    have := mayB_le hm
    unfold mayB
    rcases this with ⟨h, _⟩ | ⟨h, _⟩ <;> rw [h] <;> decide
  have e1 : ((wideL q.length u ++ q ++ z).drop u).take q.length = q := by
    rw [List.append_assoc, List.drop_append_of_le_length (by simp [wideL_len]), List.drop_of_length_le (by simp [wideL_len]), List.nil_append, List.take_left]
  have e2 : (wideL q.length u ++ q ++ z).drop (u + q.length) = z := by
    rw [List.drop_left' (by simp [wideL_len])]
  have := piece_ok v (wideL q.length u ++ q ++ z) u q.length w h (bytes_app (bytes_app (wideL_bytes _ _) hq) hz) h0 (by simp [wideL_len]) (by rw [htk, hn]; exact hm) (by rw [htk, hn]; simp [wideL_len]; omega) (by rw [e2]; omega) (by rw [htk, hn])
  rw [e1, e2] at this
  exact this

/-- A piece without its last byte. -/
theorem piece_less (v : Value) (q : List Int) (u : Nat) (w : World) (hm : mayB u q.length = true) (h : Rd .u8 w v ((wideL q.length u ++ q).take (u + q.length - 1))) (hq : Bytes q) :
    Calls Try.prog 11 #[v, .int .i64 u] w fun e w' => e = .returned (.tuple #[.slice none 0 0, .slice none 0 0, .int .i64 7]) ∧ w = w' := by
  have h0 : mayB u 0 = true := by
    have := mayB_le hm
    unfold mayB
    rcases this with ⟨h, _⟩ | ⟨h, _⟩ <;> rw [h] <;> decide
  have hu : 1 ≤ u := by have := mayB_le hm; omega
  have hl : ((wideL q.length u ++ q).take (u + q.length - 1)).length = u + q.length - 1 := by simp [wideL_len]
  rcases Nat.eq_zero_or_pos q.length with hq0 | hq0
  · obtain ⟨a, c, rfl⟩ := h.slice
    exact piece_few a _ c u w h0 (by rw [hl]; omega)
  · have htk : ((wideL q.length u ++ q).take (u + q.length - 1)).take u = wideL q.length u := by
      rw [List.take_take, Nat.min_eq_left (by omega), List.take_append_of_le_length (by simp [wideL_len]), List.take_of_length_le (by simp [wideL_len])]
    have hn := low_len q.length u hm
    exact piece_short v _ u w h (bytes_take (bytes_app (wideL_bytes _ _) hq) _) h0 (by rw [hl]; omega) (.inr ⟨by rw [htk, hn]; exact hm, by rw [htk, hn, hl]; omega⟩)
end Go.Proofs.Ytohfphcgbgkmeab

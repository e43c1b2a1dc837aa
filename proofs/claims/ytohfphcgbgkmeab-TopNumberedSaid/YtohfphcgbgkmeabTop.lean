/- The walk of TopNumbered. -/
import Derived.Test.YtohfphcgbgkmeabWalk
import Derived.Lib.SlBytesConst
namespace Go.Proofs.Ytohfphcgbgkmeab
open Go.RowKit

set_option maxHeartbeats 1600000 in
set_option maxRecDepth 100000 in
theorem top_any (x width : Int) (pv : Value) (q : List Int) (a b n : Int) (w : World) (x0 : 0 ≤ x) (x1 : x ≤ 18446744073709551615) (w0 : 0 ≤ width) (w1 : width ≤ 255) (hq : Rd .u8 w pv q) (hqb : Bytes q)
    (a0 : 0 ≤ a) (a1 : a ≤ 4294967295) (b0 : 0 ≤ b) (b1 : b ≤ 4294967295) (n0 : -2147483648 ≤ n) (n1 : n ≤ 2147483647) :
    Calls Try.prog 3 #[.int .u64 x, .int .u8 width, pv, .int .u32 a, .int .u32 b, .int .i32 n] w fun e w' => e = .returned (.bool true) ∧ Below w.heap.size w w' := by
  have hab : Rd .u8 (w.alloc (.cells #[.int .u8 97, .int .u8 98] 5 (2, 3))) (.slice (some ⟨w.heap.size, 0, none⟩) 2 2) [97, 98] := by
    refine Rd.mk (l := [97, 98]) w.heap.size 0 2 (by simp) (by simp [maxLen]) (fun j hj => ?_)
    rw [Nat.zero_add, World.cell?_alloc_mark]
    match j, hj with
    | 0, _ => rfl
    | 1, _ => rfl
  have hbb : Bytes [97, 98] := by intro y hy; simp at hy; omega
  have HAB := Lib.hid hab
  have HBB := Lib.hid hbb
  have HQ := Lib.hid hq
  have HQB := Lib.hid hqb
  clear hab hbb
  have kc := fun (w : World) (C : Array Value) (n c : Nat) => Lib.run_convert_bytes_const (P := Try.prog) w 23 5 C n c Try.underlying23 Try.underlying5
  rcases hq with ⟨rfl, rfl⟩ | ⟨ad, c, rfl, hlc, hcm, hc⟩
  · clear hqb
    go_enter Try.func3, Try.ntmps3
    go_wp2_with (first
      | (go_at_call_of 4 (Value.int IntKind.u64 x); refine (numbered_any x width _ [] a b n _ x0 x1 w0 w1 (Rd.nil _ _) HQB.out (by simp) a0 a1 b0 b1 n0 n1).mono ?_; rintro e w4 ⟨rfl, hb4⟩; have HB4 := Lib.hid (HB3.out.trans (hb4.mono HB3.out.size)); clear hb4)
      | (go_at_call_of 4 (Value.int IntKind.u64 9223372036854775813); refine (numbered_any 9223372036854775813 9 _ [] 0 2147483648 3 _ (by omega) (by omega) (by omega) (by omega) (Rd.nil _ _) HQB.out (by simp) (by omega) (by omega) (by omega) (by omega) (by omega) (by omega)).mono ?_; rintro e w3 ⟨rfl, hb3⟩; have HB3 := Lib.hid (HB2.out.trans (hb3.mono HB2.out.size)); clear hb3)
      | (go_at_call_of 4 (Value.int IntKind.u64 383); refine (numbered_any 383 1 _ [97, 98] 4294967295 1 (-3) _ (by omega) (by omega) (by omega) (by omega) HAB.out HBB.out (by simp) (by omega) (by omega) (by omega) (by omega) (by omega) (by omega)).mono ?_; rintro e w2 ⟨rfl, hb2⟩; have HB2 := Lib.hid (((Below.refl w.heap.size w).alloc (Nat.le_refl _) _).trans (hb2.mono (by simp))); clear hb2))
    go_ret
    exact ⟨rfl, HB4.out⟩
  · have HC := Lib.hid hc
    clear hc hqb
    by_cases h300 : q.length ≤ 300
    · go_enter Try.func3, Try.ntmps3
      go_wp2_with (first
        | (go_at_call_of 4 (Value.int IntKind.u64 x); refine (numbered_any x width _ q a b n _ x0 x1 w0 w1 (HQ.out.below HB3.out) HQB.out (by omega) a0 a1 b0 b1 n0 n1).mono ?_; rintro e w4 ⟨rfl, hb4⟩; have HB4 := Lib.hid (HB3.out.trans (hb4.mono HB3.out.size)); clear hb4)
        | (go_at_call_of 4 (Value.int IntKind.u64 9223372036854775813); refine (numbered_any 9223372036854775813 9 _ [] 0 2147483648 3 _ (by omega) (by omega) (by omega) (by omega) (Rd.nil _ _) (by intro y hy; cases hy) (by simp) (by omega) (by omega) (by omega) (by omega) (by omega) (by omega)).mono ?_; rintro e w3 ⟨rfl, hb3⟩; have HB3 := Lib.hid (HB2.out.trans (hb3.mono HB2.out.size)); clear hb3)
        | (go_at_call_of 4 (Value.int IntKind.u64 383); refine (numbered_any 383 1 _ [97, 98] 4294967295 1 (-3) _ (by omega) (by omega) (by omega) (by omega) HAB.out HBB.out (by simp) (by omega) (by omega) (by omega) (by omega) (by omega) (by omega)).mono ?_; rintro e w2 ⟨rfl, hb2⟩; have HB2 := Lib.hid (((Below.refl w.heap.size w).alloc (Nat.le_refl _) _).trans (hb2.mono (by simp))); clear hb2))
      go_ret
      exact ⟨rfl, HB4.out⟩
    · go_enter Try.func3, Try.ntmps3
      go_wp2_with (first
        | (go_at_call_of 4 (Value.int IntKind.u64 x); refine (numbered_any x width _ (q.take 300) a b n _ x0 x1 w0 w1 ((HQ.out.take 300 (by omega)).below HB3.out) (bytes_take HQB.out 300) (by simp; omega) a0 a1 b0 b1 n0 n1).mono ?_; rintro e w4 ⟨rfl, hb4⟩; have HB4 := Lib.hid (HB3.out.trans (hb4.mono HB3.out.size)); clear hb4)
        | (go_at_call_of 4 (Value.int IntKind.u64 9223372036854775813); refine (numbered_any 9223372036854775813 9 _ [] 0 2147483648 3 _ (by omega) (by omega) (by omega) (by omega) (Rd.nil _ _) (by intro y hy; cases hy) (by simp) (by omega) (by omega) (by omega) (by omega) (by omega) (by omega)).mono ?_; rintro e w3 ⟨rfl, hb3⟩; have HB3 := Lib.hid (HB2.out.trans (hb3.mono HB2.out.size)); clear hb3)
        | (go_at_call_of 4 (Value.int IntKind.u64 383); refine (numbered_any 383 1 _ [97, 98] 4294967295 1 (-3) _ (by omega) (by omega) (by omega) (by omega) HAB.out HBB.out (by simp) (by omega) (by omega) (by omega) (by omega) (by omega) (by omega)).mono ?_; rintro e w2 ⟨rfl, hb2⟩; have HB2 := Lib.hid (((Below.refl w.heap.size w).alloc (Nat.le_refl _) _).trans (hb2.mono (by simp))); clear hb2))
      go_ret
      exact ⟨rfl, HB4.out⟩
end Go.Proofs.Ytohfphcgbgkmeab

/- Contracts of bytes.Equal, slices.Clone of []byte, and of the law's own 'wide'. -/
import Derived.Test.YtohfphcgbgkmeabProg
import Derived.Test.YtohfphcgbgkmeabKit
import Derived.WalkLawsBesides
import Derived.WalkSpells
import Derived.KernelRfl
import Derived.Deep.LoopGhost
import Derived.Deep.DeepCutAuto
import Derived.Deep.CutBlock
import Derived.Deep.DeepMust
namespace Go.Proofs.Ytohfphcgbgkmeab
open Go.RowKit

theorem nilB (v : Option Addr) (n c n' c' : Nat) (w : World) : (binOp .eql 23 (.slice v n c) (.slice none n' c')).run Try.prog w = .ok (.bool v.isNone) w := Lib.run_eql_slice_nil w _ _ v n c n' c' Try.underlying23
theorem infoB : (Try.prog.info? 5).map (fun i => (i.zero, i.size, i.bytes)) = some (some (.int .u8 0), 1, 1) := by kernel_rfl

/-- bytes.Equal. -/
theorem equal_any (v1 v2 : Value) (l1 l2 : List Int) (r : Bool) (w : World) (h1 : Rd .u8 w v1 l1) (h2 : Rd .u8 w v2 l2) (b1 : Bytes l1) (b2 : Bytes l2) (hr : r = true ↔ l1 = l2) :
    Calls Try.prog 7 #[v1, v2] w fun e w' => e = .returned (.bool r) ∧ w = w' := by
  have c1 := h1.conv (P := Try.prog) 23 5 9 Try.underlying23 Try.underlying5 Try.underlying9
  have c2 := h2.conv (P := Try.prog) 23 5 9 Try.underlying23 Try.underlying5 Try.underlying9
  have e := strOfNums_eq b1 b2 r hr
  clear hr b1 b2 h1 h2
  go_enter Try.func7, Try.ntmps7
  go_wp2
  go_ret
  exact ⟨rfl, rfl⟩

/-- The digits of a number, the highest first. -/
def dig (x : Int) (i : Nat) : Int := x / 2 ^ (8 * i) % 256
def wideK (x : Int) (n k : Nat) : List Int := (List.range k).map fun j => dig x (n - 1 - j)
def wideL (x : Int) (n : Nat) : List Int := wideK x n n
theorem wideK_succ (x : Int) (n k : Nat) : wideK x n (k + 1) = wideK x n k ++ [dig x (n - 1 - k)] := by simp [wideK, List.range_succ]
theorem wideK_len (x : Int) (n k : Nat) : (wideK x n k).length = k := by simp [wideK]
theorem wideL_len (x : Int) (n : Nat) : (wideL x n).length = n := wideK_len x n n
theorem dig_bd (x : Int) (i : Nat) : 0 ≤ dig x i ∧ dig x i ≤ 255 := by unfold dig; omega
theorem wideL_bytes (x : Int) (n : Nat) : Bytes (wideL x n) := by
  intro y hy
  simp only [wideL, wideK, List.mem_map, List.mem_range] at hy
  obtain ⟨j, _, rfl⟩ := hy
  exact dig_bd _ _

set_option maxHeartbeats 800000 in
/-- wide. -/
theorem wide_any (x : Int) (n : Nat) (w : World) (hn : n ≤ 8) :
    Calls Try.prog 5 #[.int .u64 x, .int .i64 n] w fun e w' => ∃ v, e = .returned v ∧ Own .u8 5 w' w.heap.size v (wideL x n) ∧ Below w.heap.size w w' := by
  obtain ⟨i5, hi, hz0, hz1, hz2⟩ := info_parts infoB
  go_enter Try.func5, Try.ntmps5
  go_wp2
  go_loopg [5, 6] n (fun g s5 s6 wr => ∃ (k : Nat), g + k = n ∧ s6 = .int .i64 ((n : Int) - 1 - k) ∧ Own .u8 5 wr w.heap.size s5 (wideK x n k) ∧ Below w.heap.size w wr)
  case atStart => exact ⟨0, by omega, int_eq (by omega), Own.nil _ _ _ _, Below.refl _ _⟩
  case round =>
    obtain ⟨k, hk, rfl, hown, hbel⟩ := hrel
    have HK := Lib.hid hk
    have hO := hown.shape
    clear hk
    by_cases hlt : k < n
    · go_wp2_with (at_builtin; go_must (refine wpList_append_src _ rfl (.tmp 13) (.tmp 20) 23 rfl w.heap.size 5 i5 (.int .u8 0) 1 1 Try.underlying23 hi hz0 hz1 hz2 rfl (by decide) _ _ _ rfl (World.ownsRow.alloc hown _) _ 1 ([dig x (n - 1 - k)].map (Value.int .u8)) rfl (lit_src _ _ _ _ _ rfl _ _ rfl rfl (by simp [maxLen])) rfl (ints_oneCell _ _) (by simp [wideK_len, maxLen]; omega) (by simp [wideK_len]; omega) (by have := hbel.size; simp; omega) ?_))
      intro v' w1 hown1 hgrow
      have H1 := Lib.hid (Own.appN (l2 := [dig x (n - 1 - k)]) hown1)
      have HB := Lib.hid ((hbel.alloc hbel.size _).grown hgrow (by have := hbel.size; simp; omega) (fun g hg => (hown.lt g hg).1))
      clear hown1 hgrow hown hbel hO
      go_wp2_with fail
      go_roundg (n - 1 - k)
      case measure => have := HK.out; omega
      case rel => exact ⟨k + 1, by have := HK.out; omega, int_eq (by omega), by rw [wideK_succ]; exact H1.out, HB.out⟩
    · have hk : k = n := by have := HK.out; omega
      have H1 := Lib.hid hown
      have HE := Lib.hid hk
      clear hk hown hO
      go_wp2_with fail
      go_ret
      exact ⟨_, rfl, by have := H1.out; rw [HE.out] at this; exact this, hbel⟩

set_option maxHeartbeats 800000 in
/-- slices.Clone of []byte. -/
theorem clone_any (v : Value) (l : List Int) (w : World) (h : Rd .u8 w v l) (hl : l.length ≤ 140737488355328) :
    Calls Try.prog 12 #[v] w fun e w' => ∃ v', e = .returned v' ∧ Own .u8 5 w' w.heap.size v' l ∧ Below w.heap.size w w' := by
  obtain ⟨i5, hi, hz0, hz1, hz2⟩ := info_parts infoB
  have qT := fun (w : World) (a : Option Addr) (n c n' c' : Nat) => nilB a n c n' c' w
  rcases h with ⟨rfl, rfl⟩ | ⟨x, c, rfl, h1, h2, hc⟩
  · go_enter Try.func12, Try.ntmps12
    go_wp2
    go_ret
    exact ⟨_, rfl, Own.nil _ _ _ _, Below.refl _ _⟩
  · have HC := Lib.hid (show Rd .u8 w (.slice (some x) l.length c) l from .inr ⟨x, c, rfl, h1, h2, hc⟩)
    clear hc
    go_enter Try.func12, Try.ntmps12
    go_wp2_with (at_builtin; go_must (refine wpList_append_src _ rfl (.tmp 5) (.tmp 6) 23 rfl w.heap.size 5 i5 (.int .u8 0) 1 1 Try.underlying23 hi hz0 hz1 hz2 rfl (by decide) _ 0 (([] : List Int).map (Value.int .u8)) rfl (Own.lit _ .u8 _ _ [] rfl _ _ _ rfl rfl (Nat.le_refl _) (by decide)) _ l.length (l.map (Value.int .u8)) rfl (HC.out.below ((Below.refl _ _).alloc (Nat.le_refl _) _)).src (by simp) (ints_oneCell _ _) (by simp [maxLen]; omega) (by simp; omega) (by simp) ?_))
    intro v' w1 hown1 hgrow
    have H1 := Lib.hid (Own.appN (l := []) (l2 := l) hown1)
    have HB := Lib.hid ((((Below.refl _ _).alloc (Nat.le_refl _) _).grown hgrow (by simp) (fun g hg => by simp [Value.ownBlock] at hg; omega)))
    clear hown1 hgrow
    go_wp2_with fail
    go_ret
    exact ⟨_, rfl, by simpa using H1.out, HB.out⟩
end Go.Proofs.Ytohfphcgbgkmeab

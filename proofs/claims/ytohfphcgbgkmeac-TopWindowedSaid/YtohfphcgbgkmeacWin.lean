/- Contracts of the packages window and credit. -/
import Derived.Test.YtohfphcgbgkmeacSerial
import Derived.BigQuiet
import Derived.Deep.QuietTactic
namespace Go.Proofs.Ytohfphcgbgkmeac
open Go.RowKit

/-- A window's cells. -/
def winC (g no ni : Int) (k : Bool) (o i : Int) : Array Value := #[.int .u32 g, .int .u32 no, .int .u32 ni, .bool k, .int .u32 o, .int .u32 i]
/-- A credit's. -/
def creC (n l : Int) (d : Bool) : Array Value := #[.int .u32 n, .int .u32 l, .bool d]

theorem alloc_eq {w : World} {t : TypeId} {a b : Array Value} (h : a = b) : w.alloc (.cells a t) = w.alloc (.cells b t) := by rw [h]

section
variable {w : World} {b : Nat} {g no ni o i : Int} {k : Bool}
theorem winC_facts (h : Str w b 46 (winC g no ni k o i)) :
    w.cell? ⟨b, 0, none⟩ = some (.int .u32 g) ∧ w.cell? ⟨b, 1, none⟩ = some (.int .u32 no) ∧ w.cell? ⟨b, 2, none⟩ = some (.int .u32 ni) ∧ w.cell? ⟨b, 3, none⟩ = some (.bool k) ∧ w.cell? ⟨b, 4, none⟩ = some (.int .u32 o) ∧ w.cell? ⟨b, 5, none⟩ = some (.int .u32 i) ∧
    w.frozen? ⟨b, 1, none⟩ = false ∧ w.frozen? ⟨b, 2, none⟩ = false ∧ w.frozen? ⟨b, 3, none⟩ = false ∧ w.frozen? ⟨b, 4, none⟩ = false ∧ w.frozen? ⟨b, 5, none⟩ = false :=
  ⟨h.cell 0 rfl, h.cell 1 rfl, h.cell 2 rfl, h.cell 3 rfl, h.cell 4 rfl, h.cell 5 rfl, h.free 1, h.free 2, h.free 3, h.free 4, h.free 5⟩
theorem creC_facts {n l : Int} {d : Bool} (h : Str w b 48 (creC n l d)) :
    w.cell? ⟨b, 0, none⟩ = some (.int .u32 n) ∧ w.cell? ⟨b, 1, none⟩ = some (.int .u32 l) ∧ w.cell? ⟨b, 2, none⟩ = some (.bool d) ∧ w.frozen? ⟨b, 0, none⟩ = false ∧ w.frozen? ⟨b, 1, none⟩ = false ∧ w.frozen? ⟨b, 2, none⟩ = false :=
  ⟨h.cell 0 rfl, h.cell 1 rfl, h.cell 2 rfl, h.free 0, h.free 1, h.free 2⟩

theorem winC_eq {a a' c c' : Int} (h : a = a') (h' : c = c') : winC a 0 0 false 0 c = winC a' 0 0 false 0 c' := by rw [h, h']

theorem wnew_any (n : Int) (w : World) (n0 : 0 ≤ n) (n1 : n ≤ 4294967295) :
    Calls Try.prog 4 #[.int .u32 n] w fun e w' => e = .returned (.pointer (some ⟨w.heap.size, 0, none⟩)) ∧ w.alloc (.cells (winC (min (max n 1) 256) 0 0 false 0 (min (max n 1) 256)) 46) = w' := by
  go_enter Try.func4, Try.ntmps4
  go_wp2
  all_goals
    have hh : (if n < 1 then 1 else n) = max n 1 := by split <;> omega
    go_ret
    exact ⟨rfl, alloc_eq (winC_eq (by omega) (by omega))⟩

theorem cnew_any (n : Int) (w : World) :
    Calls Try.prog 6 #[.int .u32 n] w fun e w' => e = .returned (.pointer (some ⟨w.heap.size, 0, none⟩)) ∧ w.alloc (.cells (creC n 0 false) 48) = w' := by
  go_enter Try.func6, Try.ntmps6
  go_wp2
  go_ret
  exact ⟨rfl, rfl⟩

theorem learn_any (x : Int) (h : Str w b 46 (winC g no ni k o i)) :
    Calls Try.prog 20 #[.pointer (some ⟨b, 0, none⟩), .int .u32 x] w fun e w' => e = .returned (.tuple #[]) ∧ Wrote w w' b 46 (winC g no x true o i) := by
  have H := Lib.hid h
  obtain ⟨c0, c1, c2, c3, c4, c5, f1, f2, f3, f4, f5⟩ := winC_facts h
  clear h
  go_enter Try.func20, Try.ntmps20
  go_wp2
  go_end0
  exact ⟨rfl, (((Wrote.refl H.out).set 2 _).set 3 _)⟩

theorem begun_any (x n : Int) (h : Str w b 46 (winC g no ni k o i)) (m : Int) (hm : Hid (m = min n 256)) :
    Calls Try.prog 7 #[.pointer (some ⟨b, 0, none⟩), .int .u32 x, .int .u32 n] w fun e w' => e = .returned (.tuple #[]) ∧ Wrote w w' b 46 (winC g no x true m i) := by
  have H := Lib.hid h
  clear h
  go_enter Try.func7, Try.ntmps7
  go_wp2_with (go_at_call 20; refine (learn_any x H.out).mono ?_; rintro e w' ⟨rfl, hw⟩; have c4 := hw.str.cell 4 rfl; have f4 := hw.str.free 4; have HW := Lib.hid hw; clear hw)
  all_goals
    go_end0
    exact ⟨rfl, (HW.out.set 4 _).eq (by unfold winC; simp; have := hm.out; omega)⟩

theorem sent_no (h : Str w b 46 (winC g no ni k o i)) (ho : o = 0) :
    Calls Try.prog 8 #[.pointer (some ⟨b, 0, none⟩)] w fun e w' => e = .returned (.tuple #[.int .u32 0, .bool false]) ∧ w = w' := by
  subst ho
  obtain ⟨c0, c1, c2, c3, c4, c5, f1, f2, f3, f4, f5⟩ := winC_facts h
  clear h
  go_enter Try.func8, Try.ntmps8
  go_wp2
  go_ret2
  exact ⟨rfl, rfl⟩

theorem sent_yes (h : Str w b 46 (winC g no ni k o i)) (ho : 0 < o) (ho1 : o ≤ 256) :
    Calls Try.prog 8 #[.pointer (some ⟨b, 0, none⟩)] w fun e w' => e = .returned (.tuple #[.int .u32 no, .bool true]) ∧ Wrote w w' b 46 (winC g ((no + 1) % 4294967296) ni k (o - 1) i) := by
  have H := Lib.hid h
  obtain ⟨c0, c1, c2, c3, c4, c5, f1, f2, f3, f4, f5⟩ := winC_facts h
  clear h
  have hz : (o == 0) = false := by simp; omega
  go_enter Try.func8, Try.ntmps8
  go_wp2_with (go_at_call 21; refine (add_any no 1 _).mono ?_; rintro e w' ⟨rfl, rfl⟩)
  go_ret2
  exact ⟨rfl, (((Wrote.refl H.out).set 1 _).set 4 _)⟩

theorem got_no (h : Str w b 46 (winC g no ni k o i)) (hi : i = 0 ∨ k = false) :
    Calls Try.prog 10 #[.pointer (some ⟨b, 0, none⟩)] w fun e w' => e = .returned (.bool false) ∧ w = w' := by
  obtain ⟨c0, c1, c2, c3, c4, c5, f1, f2, f3, f4, f5⟩ := winC_facts h
  clear h
  by_cases h0 : i = 0
  · subst h0
    go_enter Try.func10, Try.ntmps10
    go_wp2
    go_ret
    exact ⟨rfl, rfl⟩
  · obtain rfl : k = false := hi.resolve_left h0
    have hz : (i == 0) = false := by simpa using h0
    clear hi
    go_enter Try.func10, Try.ntmps10
    go_wp2
    go_ret
    exact ⟨rfl, rfl⟩

theorem got_yes (h : Str w b 46 (winC g no ni true o i)) (hi : 0 < i) (hi1 : i ≤ 256) :
    Calls Try.prog 10 #[.pointer (some ⟨b, 0, none⟩)] w fun e w' => e = .returned (.bool true) ∧ Wrote w w' b 46 (winC g no ((ni + 1) % 4294967296) true o (i - 1)) := by
  have H := Lib.hid h
  obtain ⟨c0, c1, c2, c3, c4, c5, f1, f2, f3, f4, f5⟩ := winC_facts h
  clear h
  have hz : (i == 0) = false := by simp; omega
  go_enter Try.func10, Try.ntmps10
  go_wp2_with (go_at_call 21; refine (add_any ni 1 _).mono ?_; rintro e w' ⟨rfl, rfl⟩)
  go_ret
  exact ⟨rfl, (((Wrote.refl H.out).set 2 _).set 5 _)⟩

theorem wgrant_any (h : Str w b 46 (winC g no ni k o i)) :
    Calls Try.prog 11 #[.pointer (some ⟨b, 0, none⟩)] w fun e w' => e = .returned (.tuple #[.int .u32 ni, .int .u32 g, .int .u32 no]) ∧ Wrote w w' b 46 (winC g no ni k o g) := by
  have H := Lib.hid h
  obtain ⟨c0, c1, c2, c3, c4, c5, f1, f2, f3, f4, f5⟩ := winC_facts h
  clear h
  go_enter Try.func11, Try.ntmps11
  go_wp2
  go_region
  go_wp2
  go_ret3
  exact ⟨rfl, ((Wrote.refl H.out).set 5 _).drew⟩

theorem wleft_any (h : Str w b 46 (winC g no ni k o i)) :
    Calls Try.prog 17 #[.pointer (some ⟨b, 0, none⟩)] w fun e w' => e = .returned (.tuple #[.int .u32 o, .int .u32 i]) ∧ w.drew = w' := by
  obtain ⟨c0, c1, c2, c3, c4, c5, f1, f2, f3, f4, f5⟩ := winC_facts h
  clear h
  go_enter Try.func17, Try.ntmps17
  go_wp2
  go_region
  go_wp2
  go_ret2
  exact ⟨rfl, rfl⟩

theorem need_any (h : Str w b 46 (winC g no ni k o i)) (g0 : 0 ≤ g) (g1 : g ≤ 256) :
    Calls Try.prog 19 #[.pointer (some ⟨b, 0, none⟩)] w fun e w' => e = .returned (.bool (decide (i ≤ g / 2))) ∧ w.drew = w' := by
  obtain ⟨c0, c1, c2, c3, c4, c5, f1, f2, f3, f4, f5⟩ := winC_facts h
  clear h
  go_enter Try.func19, Try.ntmps19
  go_wp2
  go_region
  go_wp2
  go_ret
  exact ⟨rfl, rfl⟩

/-- How much is left out, of an end that is told. -/
def outOf (no en most : Int) : Int := if lessB no en then min (far no en) most else 0

set_option maxHeartbeats 1600000 in
theorem wtold_any (t a n x : Int) (h : Str w b 46 (winC g no ni k o i)) (ht : t = a ∨ t = -1 ∧ a = 0) (a0 : 0 ≤ a) (a1 : a ≤ 4294967295) (n0 : 0 ≤ n) (n1 : n ≤ 4294967295) (no0 : 0 ≤ no) (no1 : no ≤ 4294967295) (m ni' en : Int)
    (he : Hid (en = (a + n) % 4294967296)) (hm : Hid (m = outOf no en 256)) (hni : Hid (ni' = if k then ni else x)) :
    Calls Try.prog 9 #[.pointer (some ⟨b, 0, none⟩), .int .i64 t, .int .u32 n, .int .u32 x] w fun e w' => e = .returned (.tuple #[]) ∧ Wrote w w' b 46 (winC g no ni' true m i) := by
  have H := Lib.hid h
  obtain ⟨c0, c1, c2, c3, c4, c5, f1, f2, f3, f4, f5⟩ := winC_facts h
  clear h
  have hen0 : 0 ≤ en ∧ en ≤ 4294967295 := by rw [he.out]; omega
  obtain ⟨en0, en1⟩ := hen0
  have hA : ∀ W, Calls Try.prog 21 #[.int .u32 a, .int .i64 n] W fun e w' => e = .returned (.int .u32 en) ∧ W = w' := fun W => by rw [he.out]; exact add_any _ _ _
  have HA := Lib.hid hA
  clear hA
  obtain ⟨f, hf⟩ : ∃ f, (en - no) % 4294967296 = f := ⟨_, rfl⟩
  have hfar : far no en = f := hf
  have HFAR := Lib.hid hfar
  have hfb : 0 ≤ f ∧ f ≤ 4294967295 := by omega
  obtain ⟨f0, fb1⟩ := hfb
  clear hfar
  obtain ⟨L, hL⟩ : ∃ L, L = lessB no en := ⟨_, rfl⟩
  have hLess : ∀ W, Calls Try.prog 22 #[.int .u32 no, .int .u32 en] W fun e w' => e = .returned (.bool L) ∧ W = w' := fun W => by
    rw [hL]; exact less_any no en W no0 no1 en0 en1
  have HLESS := Lib.hid hLess
  have HL := Lib.hid hL
  clear hLess hL
  have hmo : m = if L then min f 256 else 0 := by rw [hm.out, outOf, ← HL.out, HFAR.out]
  have HMO := Lib.hid hmo
  clear hmo
  rcases ht with rfl | ⟨rfl, rfl⟩ <;> cases L <;> cases k <;> by_cases h256 : 256 < f
  all_goals
    go_enter Try.func9, Try.ntmps9
    go_wp2_with (first
      | (go_at_call 21; refine (HA.out _).mono ?_; rintro e w' ⟨rfl, rfl⟩)
      | (go_at_call 22; refine (HLESS.out _).mono ?_; rintro e w' ⟨rfl, rfl⟩)
      | (go_at_call 20; refine (learn_any (o := 256) x (((Wrote.refl H.out).set 4 _).set 4 _).str).mono ?_; rintro e w' ⟨rfl, hw⟩; have HW := Lib.hid ((((Wrote.refl H.out).set 4 _).set 4 _).trans hw); clear hw)
      | (go_at_call 20; refine (learn_any (o := f) x (((Wrote.refl H.out).set 4 _).set 4 _).str).mono ?_; rintro e w' ⟨rfl, hw⟩; have HW := Lib.hid ((((Wrote.refl H.out).set 4 _).set 4 _).trans hw); clear hw)
      | (go_at_call 20; refine (learn_any (o := 0) x ((Wrote.refl H.out).set 4 _).str).mono ?_; rintro e w' ⟨rfl, hw⟩; have HW := Lib.hid (((Wrote.refl H.out).set 4 _).trans hw); clear hw))
    go_end0
    have hz1 := hni.out
    have hz2 := HMO.out
    simp only [Bool.false_eq_true, ↓reduceIte] at hz1 hz2
    subst hz1 hz2
    first
    | exact ⟨rfl, HW.out.eq (by first | rfl | (unfold winC; simp; omega))⟩
    | exact ⟨rfl, (((Wrote.refl H.out).set 4 _).set 4 _).eq (by first | rfl | (unfold winC; simp; omega))⟩
    | exact ⟨rfl, ((Wrote.refl H.out).set 4 _).eq (by first | rfl | (unfold winC; simp; omega))⟩
end
end Go.Proofs.Ytohfphcgbgkmeac

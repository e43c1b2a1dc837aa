/- Contracts of the package octet. -/
import Derived.Test.YtohfphcgbgkmeabBytes
import Derived.Laws.EntriesVeiled
import Derived.Deep.RegionWith
import Derived.Deep.TreeCalls
namespace Go.Proofs.Ytohfphcgbgkmeab
open Go.RowKit

/-- What Lay lays. -/
def layL (l : List Int) (x : Int) (n : Nat) : List Int := l ++ if n ≤ 8 then wideL x n else []

set_option maxHeartbeats 800000 in
/-- octet.Lay. -/
theorem lay_any (v : Value) (l : List Int) (x : Int) (n : Nat) (w : World) (h : Rd .u8 w v l) (hl : l.length ≤ 70368744177664) (hn : n ≤ 1000) :
    Calls Try.prog 6 #[v, .int .u64 x, .int .i64 n] w fun e w' => ∃ v', e = .returned v' ∧ Own .u8 5 w' w.heap.size v' (layL l x n) ∧ Below w.heap.size w w' := by
  obtain ⟨i5, hi, hz0, hz1, hz2⟩ := info_parts infoB
  have HR := Lib.hid h
  clear h
  by_cases h8 : 8 < n
  · go_enter Try.func6, Try.ntmps6
    go_wp2_with (go_at_call 12; refine (clone_any v l _ HR.out (by omega)).mono ?_; rintro e w' ⟨v', rfl, hown, hbel⟩; have HO := Lib.hid hown; have HB := Lib.hid hbel; clear hown hbel)
    go_ret
    refine ⟨_, rfl, ?_, HB.out⟩
    have : layL l x n = l := by unfold layL; rw [if_neg (by omega)]; simp
    rw [this]; exact HO.out
  · go_enter Try.func6, Try.ntmps6
    go_wp2_with (go_at_call 12; refine (clone_any v l _ HR.out (by omega)).mono ?_; rintro e w' ⟨v', rfl, hown, hbel⟩; have HO := Lib.hid hown; have HB := Lib.hid hbel; clear hown hbel)
    go_loopg [7, 8] n (fun g s7 s8 wr => ∃ (k : Nat), g + k = n ∧ s8 = .int .i64 (8 * ((n : Int) - 1 - k)) ∧ Own .u8 5 wr w.heap.size s7 (l ++ wideK x n k) ∧ Below w.heap.size w wr)
    case atStart => exact ⟨0, by omega, int_eq (by omega), by simpa [wideK] using HO.out, HB.out⟩
    case round =>
      obtain ⟨k, hk, rfl, hown, hbel⟩ := hrel
      have HK := Lib.hid hk
      clear hk
      by_cases hlt : k < n
      · go_wp2_with (at_builtin; go_must (refine wpList_append_src _ rfl (.tmp 21) (.tmp 26) 23 rfl w.heap.size 5 i5 (.int .u8 0) 1 1 Try.underlying23 hi hz0 hz1 hz2 rfl (by decide) _ _ _ rfl (World.ownsRow.alloc hown _) _ 1 ([dig x (n - 1 - k)].map (Value.int .u8)) rfl (lit_src _ _ _ _ _ rfl _ _ rfl rfl (by simp [maxLen])) rfl (ints_oneCell _ _) (by simp [wideK_len, maxLen]; omega) (by simp [wideK_len]; omega) (by have := hbel.size; simp; omega) ?_))
        intro v' w1 hown1 hgrow
        have H1 := Lib.hid (Own.of (k := .u8) hown1 (l ++ wideK x n k ++ [dig x (n - 1 - k)]) (by simp))
        have HB2 := Lib.hid ((hbel.alloc hbel.size _).grown hgrow (by have := hbel.size; simp; omega) (fun g hg => (hown.lt g hg).1))
        clear hown1 hgrow hown hbel
        go_wp2_with fail
        go_roundg (n - 1 - k)
        case measure => have := HK.out; omega
        case rel => exact ⟨k + 1, by have := HK.out; omega, int_eq (by omega), by rw [wideK_succ, ← List.append_assoc]; exact H1.out, HB2.out⟩
      · have hk : k = n := by have := HK.out; omega
        have H1 := Lib.hid hown
        have HE := Lib.hid hk
        clear hk hown
        go_wp2_with fail
        go_ret
        refine ⟨_, rfl, ?_, hbel⟩
        have h1 := H1.out
        rw [HE.out] at h1
        unfold layL
        rw [if_pos (by omega)]
        exact h1

/-- The number that bytes are. -/
def num (l : List Int) : Int := l.foldl (fun a c => a * 256 + c) 0
theorem num_snoc (l : List Int) (c : Int) : num (l ++ [c]) = num l * 256 + c := by simp [num]
theorem num_take (l : List Int) (k : Nat) (hk : k < l.length) : num (l.take (k + 1)) = num (l.take k) * 256 + l.getD k 0 := by
  rw [List.take_succ_eq_append_getElem hk, num_snoc]; simp [hk]
theorem num_take_bd (l : List Int) (h : Bytes l) (k : Nat) (hk : k ≤ l.length) : 0 ≤ num (l.take k) ∧ num (l.take k) < 256 ^ k := by
  induction k with
  | zero => simp [num]
  | succ k ih =>
    have h1 := ih (by omega)
    have h2 := h (l.getD k 0) (by simp [List.getD, show k < l.length by omega])
    rw [num_take l k (by omega), Int.pow_succ]
    omega
theorem num_bd (l : List Int) (h : Bytes l) : 0 ≤ num l ∧ num l < 256 ^ l.length := by
  have := num_take_bd l h l.length (Nat.le_refl _)
  rwa [List.take_length] at this
theorem pow_le_7 (k : Nat) (hk : k ≤ 7) : (256 : Int) ^ k ≤ 72057594037927936 := by
  match k, hk with
  | 0, _ => decide
  | 1, _ => decide
  | 2, _ => decide
  | 3, _ => decide
  | 4, _ => decide
  | 5, _ => decide
  | 6, _ => decide
  | 7, _ => decide
theorem num_small (l : List Int) (h : Bytes l) (k : Nat) (hk : k ≤ l.length) (h7 : k ≤ 7) : 0 ≤ num (l.take k) ∧ num (l.take k) ≤ 72057594037927935 := by
  have h1 := num_take_bd l h k hk
  have h2 := pow_le_7 k h7
  omega

set_option maxHeartbeats 800000 in
/-- octet.Tell, of at most eight bytes. -/
theorem tell_any (v : Value) (l : List Int) (w : World) (h : Rd .u8 w v l) (hb : Bytes l) (hl : l.length ≤ 8) :
    Calls Try.prog 8 #[v] w fun e w' => e = .returned (.tuple #[.int .u64 (num l), .bool true]) ∧ w = w' := by
  rcases Nat.eq_zero_or_pos l.length with h0 | h0
  · obtain rfl := List.eq_nil_of_length_eq_zero h0
    obtain ⟨a, c, rfl⟩ := h.slice
    go_enter Try.func8, Try.ntmps8
    go_wp2
    refine wp_loop_rounds 1 ?_
    rw [rounds_succ]
    go_wp2
    go_ret2
    exact ⟨rfl, rfl⟩
  · obtain ⟨b, o, c, rfl, hlc, hcm, hcell⟩ := h.at h0
    have HC := Lib.hid hcell
    have HBY := Lib.hid hb
    clear hcell hb h
    go_enter Try.func8, Try.ntmps8
    go_wp2
    go_loopg [2, 11] l.length (fun g s2 s11 wr => ∃ (k : Nat), g + k = l.length ∧ s11 = .int .i64 k ∧ s2 = .int .u64 (num (l.take k)) ∧ w = wr)
    case atStart => exact ⟨0, by omega, rfl, rfl, rfl⟩
    case round =>
      obtain ⟨k, hk, rfl, rfl, rfl⟩ := hrel
      have HK := Lib.hid hk
      clear hk
      by_cases hlt : k < l.length
      · have hc := HC.out k hlt
        obtain ⟨x, hx⟩ : ∃ x, x = l.getD k 0 := ⟨_, rfl⟩
        rw [← hx] at hc
        have hxb : 0 ≤ x ∧ x ≤ 255 := by rw [hx]; exact HBY.out _ (by simp [List.getD, hlt])
        obtain ⟨x0, x1⟩ := hxb
        obtain ⟨n0, n1⟩ := num_small l HBY.out k (by omega) (by omega)
        obtain ⟨m, hm⟩ : ∃ m, m = num (l.take k) := ⟨_, rfl⟩
        rw [← hm] at n0 n1 ⊢
        have HX := Lib.hid hx
        have HM := Lib.hid hm
        clear hx hm
        go_wp2
        go_roundg (l.length - 1 - k)
        case measure => have := HK.out; omega
        case rel => exact ⟨k + 1, by have := HK.out; omega, by go_num, int_eq (by rw [num_take l k hlt, ← HM.out, ← HX.out]), rfl⟩
      · have hk : k = l.length := by have := HK.out; omega
        have HE := Lib.hid hk
        clear hk
        go_wp2
        go_ret2
        exact ⟨ret_two (by rw [HE.out]; simp) rfl, rfl⟩

/-- A number of a width, as one of 64 bits: shifted up, and down again with its sign. -/
def sgn (x : Int) (g : Nat) : Int := IntKind.u64.wrap (wrap64 (IntKind.u64.wrap (x * 2 ^ g)) / 2 ^ g)

/-- octet.Signed, of a width from 1 to 7. -/
theorem signed_mid (x : Int) (n : Nat) (w : World) (h1 : 1 ≤ n) (h7 : n ≤ 7) :
    Calls Try.prog 9 #[.int .u64 x, .int .i64 n] w fun e w' => e = .returned (.int .u64 (sgn x (8 * (8 - n)))) ∧ w = w' := by
  go_enter Try.func9, Try.ntmps9
  go_wp2
  go_ret
  exact ⟨rfl, rfl⟩

/-- octet.Signed, of another width. -/
theorem signed_out (x : Int) (n : Nat) (w : World) (h : n = 0 ∨ 8 ≤ n) (hn : n ≤ 1000) :
    Calls Try.prog 9 #[.int .u64 x, .int .i64 n] w fun e w' => e = .returned (.int .u64 x) ∧ w = w' := by
  rcases h with rfl | h
  · go_enter Try.func9, Try.ntmps9
    go_wp2
    go_ret
    exact ⟨rfl, rfl⟩
  · go_enter Try.func9, Try.ntmps9
    go_wp2
    go_ret
    exact ⟨rfl, rfl⟩

/-- May a piece be so long? -/
def mayB (n : Int) (x : Int) : Bool := if n = 1 then decide (x ≤ 255) else if n = 4 then decide (x ≤ 2147483647) else false

theorem may_any (n x : Int) (w : World) :
    Calls Try.prog 17 #[.int .i64 n, .int .u64 x] w fun e w' => e = .returned (.bool (mayB n x)) ∧ w = w' := by
  by_cases h1 : n = 1
  · subst h1
    go_enter Try.func17, Try.ntmps17
    go_wp2
    go_ret
    exact ⟨rfl, rfl⟩
  · by_cases h4 : n = 4
    · subst h4
      go_enter Try.func17, Try.ntmps17
      go_wp2
      go_ret
      exact ⟨rfl, rfl⟩
    · have e1 : (n == 1) = false := by simpa using h1
      have e4 : (n == 4) = false := by simpa using h4
      go_enter Try.func17, Try.ntmps17
      go_wp2
      go_ret
      exact ⟨ret_bool (by unfold mayB; simp [h1, h4]), rfl⟩

theorem mayB_le {n x : Int} (h : mayB n x = true) : n = 1 ∧ x ≤ 255 ∨ n = 4 ∧ x ≤ 2147483647 := by
  unfold mayB at h
  split at h
  · exact .inl ⟨by assumption, by simpa using h⟩
  · split at h
    · exact .inr ⟨by assumption, by simpa using h⟩
    · cases h

set_option maxHeartbeats 800000 in
/-- octet.LayPiece, of a piece that may be. -/
theorem layPiece_ok (v p : Value) (l q : List Int) (n : Nat) (w : World) (h : Rd .u8 w v l) (hq : Rd .u8 w p q) (hl : l.length ≤ 70368744177664) (hql : q.length ≤ 35184372088832) (hm : mayB n q.length = true) :
    Calls Try.prog 10 #[v, p, .int .i64 n] w fun e w' => ∃ v', e = .returned (.tuple #[v', .int .i64 0]) ∧
      Own .u8 5 w' w.heap.size v' (l ++ wideL q.length n ++ q) ∧ Below w.heap.size w w' := by
  obtain ⟨i5, hi, hz0, hz1, hz2⟩ := info_parts infoB
  have HR := Lib.hid h
  have HQ := Lib.hid hq
  obtain ⟨qa, qc, rfl⟩ := hq.slice
  clear h hq
  have hn8 : n ≤ 8 := by have := mayB_le hm; omega
  have hL : layL l q.length n = l ++ wideL q.length n := by unfold layL; rw [if_pos hn8]
  have HL := Lib.hid hL
  clear hL
  go_enter Try.func10, Try.ntmps10
  go_wp2_with (first | (go_at_call 17; refine (may_any _ _ _).mono ?_; rintro e w' ⟨rfl, rfl⟩) | (go_at_call 6; refine (lay_any v l _ n _ HR.out hl (by omega)).mono ?_; rw [HL.out]; rintro e w' ⟨v', rfl, hown, hbel⟩; have HO := Lib.hid hown; have HB := Lib.hid hbel; clear hown hbel) | (at_builtin; go_must (refine wpList_append_src _ rfl (.tmp 18) (.tmp 19) 23 rfl w.heap.size 5 i5 (.int .u8 0) 1 1 Try.underlying23 hi hz0 hz1 hz2 rfl (by decide) _ _ _ rfl HO.out _ q.length (q.map (Value.int .u8)) rfl (HQ.out.below HB.out).src (by simp) (ints_oneCell _ _) (by simp [wideL_len, maxLen]; omega) (by simp [wideL_len]; omega) HB.out.size ?_)))
  intro v2 w2 hown2 hgrow
  have H2 := Lib.hid (Own.of (k := .u8) hown2 (l ++ wideL q.length n ++ q) (by simp))
  have HB2 := Lib.hid (HB.out.grown hgrow HB.out.size (fun g hg => (HO.out.lt g hg).1))
  clear hown2 hgrow
  go_wp2_with fail
  go_ret2
  exact ⟨v2, rfl, H2.out, HB2.out⟩

/-- octet.LayPiece, of one that may not be. -/
theorem layPiece_bad (v p : Value) (q : List Int) (n : Int) (w : World) (hq : Rd .u8 w p q) (hql : q.length ≤ 35184372088832) (hm : mayB n q.length = false) :
    Calls Try.prog 10 #[v, p, .int .i64 n] w fun e w' => e = .returned (.tuple #[.slice none 0 0, .int .i64 1]) ∧ w = w' := by
  obtain ⟨qa, qc, rfl⟩ := hq.slice
  clear hq
  go_enter Try.func10, Try.ntmps10
  go_wp2_with (first | (go_at_call 17; refine (may_any _ _ _).mono ?_; rintro e w' ⟨rfl, rfl⟩))
  go_ret2
  exact ⟨rfl, rfl⟩

/-- octet.Piece: of a width that there is none of. -/
theorem piece_none (a : Option Addr) (k c : Nat) (n : Int) (w : World) (hm : mayB n 0 = false) :
    Calls Try.prog 11 #[.slice a k c, .int .i64 n] w fun e w' => e = .returned (.tuple #[.slice none 0 0, .slice none 0 0, .int .i64 1]) ∧ w = w' := by
  have hmf : ∀ (fn : Fn) (first cap : Array Value) (w : World), (Instr.makeFunc fn first cap).run Try.prog w = .ok (.func fn first cap) w := fun _ _ _ _ => rfl
  go_enter Try.func11, Try.ntmps11
  go_wp2_with (first | (go_at_call 17; refine (may_any _ _ _).mono ?_; rintro e w' ⟨rfl, rfl⟩))
  go_ret3
  exact ⟨rfl, rfl⟩

/-- octet.Piece: of fewer bytes than tell the length. -/
theorem piece_few (a : Option Addr) (k c : Nat) (n : Nat) (w : World) (hm : mayB n 0 = true) (hk : k < n) :
    Calls Try.prog 11 #[.slice a k c, .int .i64 n] w fun e w' => e = .returned (.tuple #[.slice none 0 0, .slice none 0 0, .int .i64 7]) ∧ w = w' := by
  have hmf : ∀ (fn : Fn) (first cap : Array Value) (w : World), (Instr.makeFunc fn first cap).run Try.prog w = .ok (.func fn first cap) w := fun _ _ _ _ => rfl
  go_enter Try.func11, Try.ntmps11
  go_wp2_with (first | (go_at_call 17; refine (may_any _ _ _).mono ?_; rintro e w' ⟨rfl, rfl⟩))
  go_ret3
  exact ⟨rfl, rfl⟩

set_option maxHeartbeats 1600000 in
/-- octet.Piece: of a length that may not be, or of fewer bytes than that. -/
theorem piece_short (v : Value) (l : List Int) (n : Nat) (w : World) (h : Rd .u8 w v l) (hb : Bytes l) (h1 : mayB n 0 = true) (hlen : n ≤ l.length)
    (h3 : mayB n (num (l.take n)) = false ∨ mayB n (num (l.take n)) = true ∧ (l.length : Int) - n < num (l.take n)) :
    Calls Try.prog 11 #[v, .int .i64 n] w fun e w' => e = .returned (.tuple #[.slice none 0 0, .slice none 0 0, .int .i64 7]) ∧ w = w' := by
  have hmf : ∀ (fn : Fn) (first cap : Array Value) (w : World), (Instr.makeFunc fn first cap).run Try.prog w = .ok (.func fn first cap) w := fun _ _ _ _ => rfl
  have hll := h.le
  unfold maxLen at hll
  have hn4 : n ≤ 4 := by have := mayB_le h1; omega
  have hn0 : 0 < n := by have := mayB_le h1; omega
  obtain ⟨b, o, c, rfl, hlc, hcm, hcell⟩ := h.at (by omega)
  obtain ⟨m, hm⟩ : ∃ m, m = num (l.take n) := ⟨_, rfl⟩
  have htk := h.take n hlen
  have hbt : Bytes (l.take n) := fun x hx => hb x (List.mem_of_mem_take hx)
  have hlt : (l.take n).length ≤ 8 := by simp; omega
  rw [← hm] at h3
  have HM := Lib.hid hm
  have HT := Lib.hid htk
  have HBT := Lib.hid hbt
  have HLT := Lib.hid hlt
  obtain ⟨A, hA⟩ : ∃ A : Option Addr, (if c = n then some ⟨b, o, none⟩ else some ⟨b, o + n, none⟩) = A := ⟨_, rfl⟩
  clear hm htk hbt hlt hcell h hb
  rcases h3 with h3 | ⟨h3, h4⟩
  all_goals
    go_enter Try.func11, Try.ntmps11
    go_wp2_with (first | (go_at_call 17; refine (may_any _ _ _).mono ?_; rintro e w' ⟨rfl, rfl⟩) | (go_at_call 8; refine (tell_any _ _ _ HT.out HBT.out HLT.out).mono ?_; rw [← HM.out]; rintro e w' ⟨rfl, rfl⟩))
    go_ret3
    exact ⟨rfl, rfl⟩

set_option maxHeartbeats 3200000 in
/-- octet.Piece. -/
theorem piece_ok (v : Value) (l : List Int) (n m : Nat) (w : World) (h : Rd .u8 w v l) (hb : Bytes l) (h1 : mayB n 0 = true) (hlen : n ≤ l.length)
    (h3 : mayB n (num (l.take n)) = true) (h4 : num (l.take n) ≤ (l.length : Int) - n) (hl2 : (l.drop (n + m)).length ≤ 140737488355328) (hm : (m : Int) = num (l.take n)) :
    Calls Try.prog 11 #[v, .int .i64 n] w fun e w' => ∃ v1 v2, e = .returned (.tuple #[v1, v2, .int .i64 0]) ∧
      Own .u8 5 w' w.heap.size v1 ((l.drop n).take m) ∧ Own .u8 5 w' w.heap.size v2 (l.drop (n + m)) ∧ Below w.heap.size w w' := by
  have hmf : ∀ (fn : Fn) (first cap : Array Value) (w : World), (Instr.makeFunc fn first cap).run Try.prog w = .ok (.func fn first cap) w := fun _ _ _ _ => rfl
  have hll := h.le
  unfold maxLen at hll
  have hn4 : n ≤ 4 := by have := mayB_le h1; omega
  have hn0 : 0 < n := by have := mayB_le h1; omega
  obtain ⟨b, o, c, rfl, hlc, hcm, hcell⟩ := h.at (by omega)
  have htk := h.take n hlen
  have hbt : Bytes (l.take n) := fun x hx => hb x (List.mem_of_mem_take hx)
  have hlt : (l.take n).length ≤ 8 := by simp; omega
  rw [← hm] at h3 h4
  have HM := Lib.hid hm
  have HT := Lib.hid htk
  have HBT := Lib.hid hbt
  have HLT := Lib.hid hlt
  have HH := Lib.hid h
  have hm4 : n + m ≤ l.length := by omega
  clear hm htk hbt hlt hcell h hb
  obtain ⟨o2, ho2⟩ : ∃ o2, (if c = n then o else o + n) = o2 := ⟨_, rfl⟩
  have hA : (if c = n then some (⟨b, o, none⟩ : Addr) else some ⟨b, o + n, none⟩) = some ⟨b, o2, none⟩ := by rw [← ho2]; split <;> rfl
  have hR : Rd .u8 w (.slice (some ⟨b, o2, none⟩) (l.length - n) (c - n)) (l.drop n) := HH.out.from n hlen _ hA.symm
  obtain ⟨o3, ho3⟩ : ∃ o3, (if c - n = m then o2 else o2 + m) = o3 := ⟨_, rfl⟩
  have hA3 : (if c - n = m then some (⟨b, o2, none⟩ : Addr) else some ⟨b, o2 + m, none⟩) = some ⟨b, o3, none⟩ := by rw [← ho3]; split <;> rfl
  have hR1 := hR.take m (by simp; omega)
  have hR2 := hR.from m (by simp; omega) _ hA3.symm
  rw [List.length_drop, List.drop_drop] at hR2
  have HR1 := Lib.hid hR1
  have HR2 := Lib.hid hR2
  have hl1 : ((l.drop n).take m).length ≤ 140737488355328 := by have := mayB_le h3; simp; omega
  clear hR hR1 hR2 ho2 ho3
  go_enter Try.func11, Try.ntmps11
  go_wp2_with (first | (go_at_call 17; refine (may_any _ _ _).mono ?_; rintro e w' ⟨rfl, rfl⟩) | (go_at_call 8; refine (tell_any _ _ _ HT.out HBT.out HLT.out).mono ?_; rw [← HM.out]; rintro e w' ⟨rfl, rfl⟩))
  go_region_with (first
    | (go_at_call_of 12 (Value.slice (some ⟨b, o2, none⟩) m (c - n)); refine (clone_any _ ((l.drop n).take m) wB (HR1.out.below HBB.out) hl1).mono ?_; rintro e w2 ⟨v1, rfl, hown, hbel⟩; have HO3 := Lib.hid (show Own .u8 5 w2 w.heap.size v1 ((l.drop n).take m) from hown.mono HBB.out.size); have HB2 := Lib.hid (show Below w.heap.size w w2 from HBB.out.trans (hbel.mono HBB.out.size)); have HO2 := Lib.hid (show Own .u8 5 w2 w.heap.size v2 (l.drop (n + m)) from HOB.out.below hbel); clear hown hbel)
    | (go_at_call_of 12 (Value.slice (some ⟨b, o2, none⟩) m (c - n)); refine (clone_any _ ((l.drop n).take m) w.drew HR1.out hl1).mono ?_; rintro e wA ⟨v1, rfl, hown, hbel⟩; have HOA := Lib.hid (show Own .u8 5 wA w.heap.size v1 ((l.drop n).take m) from hown); have HBA := Lib.hid ((Below.refl w.heap.size w).drew.trans hbel); clear hown hbel)
    | (go_at_call 12; refine (clone_any _ (l.drop (n + m)) wA (HR2.out.below HBA.out) hl2).mono ?_; rintro e w2 ⟨v2, rfl, hown, hbel⟩; have HO2 := Lib.hid (show Own .u8 5 w2 w.heap.size v2 (l.drop (n + m)) from hown.mono HBA.out.size); have HB2 := Lib.hid (show Below w.heap.size w w2 from HBA.out.trans (hbel.mono HBA.out.size)); have HO3 := Lib.hid (show Own .u8 5 w2 w.heap.size v1 ((l.drop n).take m) from HOA.out.below hbel); clear hown hbel)
    | (go_at_call 12; refine (clone_any _ (l.drop (n + m)) w.drew HR2.out hl2).mono ?_; rintro e wB ⟨v2, rfl, hown, hbel⟩; have HOB := Lib.hid (show Own .u8 5 wB w.heap.size v2 (l.drop (n + m)) from hown); have HBB := Lib.hid ((Below.refl w.heap.size w).drew.trans hbel); clear hown hbel))
  all_goals
    go_wp2_with fail
    go_ret3
    exact ⟨_, _, rfl, HO3.out, HO2.out, HB2.out⟩
end Go.Proofs.Ytohfphcgbgkmeab

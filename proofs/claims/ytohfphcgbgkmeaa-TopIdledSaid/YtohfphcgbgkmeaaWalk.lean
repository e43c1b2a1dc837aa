import Derived.Test.YtohfphcgbgkmeaaMeths
import Derived.Test.YtohfphcgbgkmeaaKit
import Derived.Deep.LoopGhost
import Derived.Deep.DeepCutAuto
import Derived.Deep.CutBlock
import Derived.Deep.DeepFit
import Derived.Deep.DeepMust
namespace Go.Proofs.Ytohfphcgbgkmeaa
open Go.RowKit

theorem Try.info2 : (Try.prog.info? 2).map (fun i => (i.zero, i.size, i.bytes)) = some (some (.int .i64 0), 1, 8) := by kernel_rfl

theorem slice_eq {a : Option Addr} {n m c : Nat} (h : n = m) : Value.slice a m c = .slice a n c := by rw [h]

theorem late_at (b : Nat) (own got told n : Int) (r : Bool) (w : World) (h0 : w.cell? ⟨b, 0, none⟩ = some (.int .i64 own)) (h2 : w.cell? ⟨b, 2, none⟩ = some (.int .i64 got)) (h4 : w.cell? ⟨b, 4, none⟩ = some (.int .i64 told)) (o0 : 0 ≤ own) (o1 : own ≤ 1048576) (g0 : 0 ≤ got) (g1 : got ≤ 2305843009213693952)
    (hr : Hid (r = (decide (0 < own) && decide (got + own ≤ mom n told)))) :
    Calls Try.prog 9 #[.pointer (some ⟨b, 0, none⟩), .int .i64 n] w fun e w' => e = .returned (.bool r) ∧ w.drew = w' := by
  rw [hr.out]; exact late_any b own got told n w h0 h2 h4 o0 o1 g0 g1
theorem due_at (b : Nat) (peer sent told n half : Int) (r : Bool) (w : World) (h0 : w.cell? ⟨b, 1, none⟩ = some (.int .i64 peer)) (h2 : w.cell? ⟨b, 3, none⟩ = some (.int .i64 sent)) (h4 : w.cell? ⟨b, 4, none⟩ = some (.int .i64 told)) (o0 : 0 ≤ peer) (o1 : peer ≤ 1048576) (g0 : 0 ≤ sent) (g1 : sent ≤ 2305843009213693952) (hh : Hid (half = max (peer / 2) 1))
    (hr : Hid (r = (decide (0 < peer) && decide (sent + half ≤ mom n told)))) :
    Calls Try.prog 10 #[.pointer (some ⟨b, 0, none⟩), .int .i64 n] w fun e w' => e = .returned (.bool r) ∧ w.drew = w' := by
  rw [hr.out]; exact due_any b peer sent told n half w h0 h2 h4 o0 o1 g0 g1 hh
theorem when_at (b : Nat) (own peer got sent half f : Int) (r : Bool) (w : World) (h0 : w.cell? ⟨b, 0, none⟩ = some (.int .i64 own)) (h1 : w.cell? ⟨b, 1, none⟩ = some (.int .i64 peer)) (h2 : w.cell? ⟨b, 2, none⟩ = some (.int .i64 got)) (h3 : w.cell? ⟨b, 3, none⟩ = some (.int .i64 sent))
    (o0 : 0 ≤ own) (o1 : own ≤ 1048576) (p0 : 0 ≤ peer) (p1 : peer ≤ 1048576) (g0 : 0 ≤ got) (g1 : got ≤ 2305843009213693952) (s0 : 0 ≤ sent) (s1 : sent ≤ 2305843009213693952) (hh : Hid (half = max (peer / 2) 1))
    (hf : Hid (f = firstOf own peer (got + own) (sent + half))) (hr : Hid (r = (decide (0 < own) || decide (0 < peer)))) :
    Calls Try.prog 8 #[.pointer (some ⟨b, 0, none⟩)] w fun e w' => e = .returned (.tuple #[.int .i64 f, .bool r]) ∧
      (w.alloc (.cells #[.func (.func 12) #[.pointer (some ⟨b, 0, none⟩)] #[], .func (.func 13) #[.pointer (some ⟨b, 0, none⟩)] #[]] 30)).drew.drew = w' := by
  rw [hf.out, hr.out]; exact when_any b own peer got sent half w h0 h1 h2 h3 o0 o1 p0 p1 g0 g1 s0 s1 hh

/-- The state at a round's head. -/
structure St (W : World) (O P : Int) (g : Nat) (zs : List Int) (came sent latest : Int) (wr : World) : Prop where
  blk : wr.heap[W.heap.size]? = some (.cells #[.int .i64 O, .int .i64 P, .int .i64 came, .int .i64 sent, .int .i64 latest] 34 (0, 0))
  arr : ∀ i, i < zs.length → wr.cell? ⟨g, i, none⟩ = some (.int .i64 (zs.getD i 0))
  bel : Below W.heap.size W wr
  gb : W.heap.size < g
  bounds : 0 ≤ came ∧ came ≤ 2305843009213693952 ∧ 0 ≤ sent ∧ sent ≤ 2305843009213693952 ∧ 0 ≤ latest ∧ latest ≤ 2305843009213693952

theorem St.cells {W : World} {O P : Int} {g : Nat} {zs : List Int} {came sent latest : Int} {wr : World} (h : St W O P g zs came sent latest wr) :
    wr.cell? ⟨W.heap.size, 0, none⟩ = some (.int .i64 O) ∧ wr.cell? ⟨W.heap.size, 1, none⟩ = some (.int .i64 P) ∧ wr.cell? ⟨W.heap.size, 2, none⟩ = some (.int .i64 came) ∧
    wr.cell? ⟨W.heap.size, 3, none⟩ = some (.int .i64 sent) ∧ wr.cell? ⟨W.heap.size, 4, none⟩ = some (.int .i64 latest) ∧
    wr.frozen? ⟨W.heap.size, 2, none⟩ = false ∧ wr.frozen? ⟨W.heap.size, 3, none⟩ = false ∧ wr.frozen? ⟨W.heap.size, 4, none⟩ = false := by
  simp [World.cell?, World.frozen?, h.blk]

theorem heap_set {w : World} {b : Nat} {c : Array Value} {t : TypeId} (h : w.heap[b]? = some (.cells c t (0, 0))) (i : Nat) (v : Value) :
    (w.setCell ⟨b, i, none⟩ v).heap[b]? = some (.cells (c.setIfInBounds i v) t (0, 0)) := by
  have hlt := lt_of_block h
  have h' : w.heap[b] = .cells c t (0, 0) := by simpa [Array.getElem?_eq_getElem hlt] using h
  show (w.heap.modify b _)[b]? = _
  rw [Array.getElem?_eq_getElem (by simpa using hlt), Array.getElem_modify_self, h']
  rfl

theorem cell_set_other {w : World} {b g i j : Nat} {v : Value} (h : g ≠ b) : (w.setCell ⟨b, i, none⟩ v).cell? ⟨g, j, none⟩ = w.cell? ⟨g, j, none⟩ :=
  World.cell?_setCell_other _ _ _ _ (by intro e; injection e with e1; exact h e1.symm)

section
variable {W : World} {O P : Int} {g : Nat} {zs : List Int} {came sent latest : Int} {wr : World}
theorem St.got (h : St W O P g zs came sent latest wr) (n : Int) : St W O P g zs (mom n latest) sent (mom n latest) ((wr.setCell ⟨W.heap.size, 4, none⟩ (.int .i64 (mom n latest))).setCell ⟨W.heap.size, 2, none⟩ (.int .i64 (mom n latest))) := by
  have hb := h.bounds
  have hg := h.gb
  refine ⟨?_, fun i hi => ?_, ((h.bel.setCell (by simp) _).setCell (by simp) _), h.gb, ?_⟩
  · rw [heap_set (heap_set h.blk 4 _) 2 _]; rfl
  · rw [cell_set_other (by omega), cell_set_other (by omega)]; exact h.arr i hi
  · unfold mom; omega
theorem St.put (h : St W O P g zs came sent latest wr) (n : Int) : St W O P g zs came (mom n latest) (mom n latest) ((wr.setCell ⟨W.heap.size, 4, none⟩ (.int .i64 (mom n latest))).setCell ⟨W.heap.size, 3, none⟩ (.int .i64 (mom n latest))) := by
  have hb := h.bounds
  have hg := h.gb
  refine ⟨?_, fun i hi => ?_, ((h.bel.setCell (by simp) _).setCell (by simp) _), h.gb, ?_⟩
  · rw [heap_set (heap_set h.blk 4 _) 3 _]; rfl
  · rw [cell_set_other (by omega), cell_set_other (by omega)]; exact h.arr i hi
  · unfold mom; omega
theorem St.drew (h : St W O P g zs came sent latest wr) : St W O P g zs came sent latest wr.drew := ⟨h.blk, h.arr, h.bel.drew, h.gb, h.bounds⟩
theorem St.alloc (h : St W O P g zs came sent latest wr) (o : Obj) : St W O P g zs came sent latest (wr.alloc o) := by
  refine ⟨?_, fun i hi => ?_, h.bel.alloc h.bel.size _, h.gb, h.bounds⟩
  · rw [Below.heap_alloc _ _ _ (lt_of_block h.blk)]; exact h.blk
  · rw [World.cell?_alloc_lt _ _ _ (World.block_lt_of_cell? _ _ (h.arr i hi))]; exact h.arr i hi
end

theorem St.start {w wc : World} {O P m : Int} {g : Nat} {zs : List Int} (hm : 0 ≤ m ∧ m ≤ 2305843009213693952) (hg : w.heap.size < g) (hc : ∀ i, i < zs.length → wc.cell? ⟨g, i, none⟩ = some (.int .i64 (zs.getD i 0)))
    (hb : Below (w.heap.size + 1) (w.alloc (.cells #[.int .i64 O, .int .i64 P, .int .i64 m, .int .i64 m, .int .i64 m] 34)) wc) : St w O P g zs m m m wc := by
  refine ⟨?_, hc, ((Below.refl _ _).alloc (Nat.le_refl _) _).trans (hb.mono (by omega)), hg, hm.1, hm.2, hm.1, hm.2, hm.1, hm.2⟩
  rw [hb.block _ (by omega)]
  exact heap_alloc_new w _

theorem mom_bd (n : Int) : 0 ≤ mom n 0 ∧ mom n 0 ≤ 2305843009213693952 := by unfold mom; omega

theorem int_eq {k : IntKind} {a b : Int} (h : a = b) : Value.int k a = .int k b := by rw [h]

theorem wrap_bd (x : Int) : -9223372036854775808 ≤ wrap64 x ∧ wrap64 x ≤ 9223372036854775807 := by unfold wrap64; omega
theorem three_cells (w : World) (x y z : Int) (o : Obj) (t : TypeId) : ∀ i, i < [x, y, z].length → ((w.alloc o).alloc (.cells #[.int .i64 x, .int .i64 y, .int .i64 z] t)).cell? ⟨w.heap.size + 1, i, none⟩ = some (.int .i64 ([x, y, z].getD i 0)) := by
  intro i hi
  have h := World.cell?_alloc_new (w := w.alloc o) #[.int .i64 x, .int .i64 y, .int .i64 z] t i
  rw [show (w.alloc o).heap.size = w.heap.size + 1 by simp] at h
  rw [h]
  match i, hi with
  | 0, _ => rfl
  | 1, _ => rfl
  | 2, _ => rfl
theorem three_bd (x y z : Int) : ∀ n ∈ [wrap64 x, wrap64 y, wrap64 z], -9223372036854775808 ≤ n ∧ n ≤ 9223372036854775807 := by
  intro n hn
  simp at hn
  rcases hn with rfl | rfl | rfl <;> exact wrap_bd _
theorem app_bd (zs : List Int) (m : Nat) (x y z : Int) (hz : ∀ n ∈ zs, (Lit.int .i64 n).wf = true) (hx : -9223372036854775808 ≤ x ∧ x ≤ 9223372036854775807) (hy : -9223372036854775808 ≤ y ∧ y ≤ 9223372036854775807) (hzz : -9223372036854775808 ≤ z ∧ z ≤ 9223372036854775807) :
    ∀ n ∈ x :: y :: z :: zs.take m, -9223372036854775808 ≤ n ∧ n ≤ 9223372036854775807 := by
  intro n hn
  simp only [List.mem_cons] at hn
  rcases hn with rfl | rfl | rfl | hn
  · exact hx
  · exact hy
  · exact hzz
  · exact wf_i64 (hz n (List.mem_of_mem_take hn))

set_option maxHeartbeats 1600000 in
set_option maxRecDepth 100000 in
theorem main_walk (own peer now : Int) (a3 : Option Addr) (len3 cap3 : Nat) (z3 : List Int) (w : World) (o0 : 0 ≤ own) (o1 : own ≤ 4294967295) (p0 : 0 ≤ peer) (p1 : peer ≤ 4294967295)
    (_n0 : -9223372036854775808 ≤ now) (_n1 : now ≤ 9223372036854775807) (w3 : IsRow .i64 w a3 len3 cap3 z3) :
    Calls Try.prog 3 #[.int .u32 own, .int .u32 peer, .int .i64 now, .slice a3 len3 cap3] w fun e w' => e = .returned (.bool true) ∧ Below w.heap.size w w' := by
  have W3 := Lib.hid w3
  clear w3
  go_enter Try.func3, Try.ntmps3
  go_upto_if 27 with fail
  go_cut [0] (fun o wx => ∃ n : Int, 0 ≤ n ∧ n ≤ 4294967295 ∧ o = .int .u32 n ∧ w = wx)
  case first => as_aux_lemma =>
     go_wp2; all_goals (go_meet; case rel => exact ⟨_, by omega, by omega, rfl, rfl⟩)
  case rest =>
  clear o0 o1 own
  obtain ⟨own, o0, o1, rfl, rfl⟩ := hcut
  go_upto_if 33 with fail
  go_cut [1] (fun o wx => ∃ n : Int, 0 ≤ n ∧ n ≤ 4294967295 ∧ o = .int .u32 n ∧ w = wx)
  case first => as_aux_lemma =>
     go_wp2; all_goals (go_meet; case rel => exact ⟨_, by omega, by omega, rfl, rfl⟩)
  case rest =>
  clear p0 p1 peer
  obtain ⟨peer, p0, p1, rfl, rfl⟩ := hcut
  go_upto_region 11 with (first | (go_at_call 5; refine (new_any own peer now _ o0 o1 p0 p1).mono ?_; rintro e w' ⟨rfl, rfl⟩) | (go_at_call 4; refine (mom_any now _).mono ?_; rintro e w' ⟨rfl, rfl⟩))
  obtain ⟨O, hO⟩ : ∃ O : Int, O = min own 1048576 := ⟨_, rfl⟩
  obtain ⟨P, hP⟩ : ∃ P : Int, P = min peer 1048576 := ⟨_, rfl⟩
  obtain ⟨half, hhalf⟩ : ∃ half : Int, half = max (P / 2) 1 := ⟨_, rfl⟩
  rw [← hO, ← hP]
  have HO := Lib.hid hO
  have HP := Lib.hid hP
  have HH := Lib.hid hhalf
  have O0 : 0 ≤ O := by omega
  have O1 : O ≤ 1048576 := by omega
  have P0 : 0 ≤ P := by omega
  have P1 : P ≤ 1048576 := by omega
  have H0 : 1 ≤ half := by omega
  have H1 : half ≤ 1048576 := by omega
  clear hO hP hhalf
  go_cut [14, 15] (fun s14 s15 wx => s14 = .int .i64 O ∧ s15 = .int .i64 half ∧ w.alloc (.cells #[.int .i64 O, .int .i64 P, .int .i64 (mom now 0), .int .i64 (mom now 0), .int .i64 (mom now 0)] 34) = wx)
  case first => as_aux_lemma =>
    go_wp2
    all_goals
      go_meet
      case rel => exact ⟨int_eq (by have := HO.out; omega), int_eq (by have := HO.out; have := HP.out; have := HH.out; omega), rfl⟩
  case rest =>
  obtain ⟨rfl, rfl, rfl⟩ := hcut
  go_upto_region 12 with fail
  go_cut [68, 69, 70] (fun s68 s69 s70 wx => ∃ (g cap : Nat) (zs : List Int), s68 = .slice (some ⟨g, 0, none⟩) zs.length cap ∧ s69 = .int .i64 zs.length ∧ s70 = .int .i64 0 ∧ zs.length ≤ 63 ∧ zs.length ≤ cap ∧ w.heap.size < g ∧
    (∀ i, i < zs.length → wx.cell? ⟨g, i, none⟩ = some (.int .i64 (zs.getD i 0))) ∧ (∀ n ∈ zs, -9223372036854775808 ≤ n ∧ n ≤ 9223372036854775807) ∧ Below (w.heap.size + 1) (w.alloc (.cells #[.int .i64 O, .int .i64 P, .int .i64 (mom now 0), .int .i64 (mom now 0), .int .i64 (mom now 0)] 34)) wx)
  case first => as_aux_lemma =>
    obtain ⟨i2, hi, hz0, hz1, hz2⟩ := info_parts Try.info2
    have hlit := fun (c : Array Value) => lit_owned w (.cells c 34) (w.heap.size + 1) 2 1 #[.int .i64 (wrap64 (now + 4)), .int .i64 (wrap64 (now + 5)), .int .i64 (wrap64 (now - 9))] 3 (by omega) (by decide) rfl
    rcases W3.out with ⟨rfl, rfl, rfl, rfl⟩ | ⟨x, rfl, hl, hm, hz, hcell, hwz⟩
    · go_wp2_with fail
      go_meet
      case rel => exact ⟨w.heap.size + 1, 3, [wrap64 (now + 4), wrap64 (now + 5), wrap64 (now - 9)], rfl, rfl, rfl, by simp, by simp, by omega, three_cells _ _ _ _ _ _, three_bd _ _ _, (Below.refl _ _).alloc (by simp) _⟩
    · have hsrc := fun m hm => row_src (k := .i64) m cap3 hcell hm (.cells #[.int .i64 O, .int .i64 P, .int .i64 (mom now 0), .int .i64 (mom now 0), .int .i64 (mom now 0)] 34) (.cells #[.int .i64 (wrap64 (now + 4)), .int .i64 (wrap64 (now + 5)), .int .i64 (wrap64 (now - 9))] 2)
      have hbd := fun m => app_bd z3 m (wrap64 (now + 4)) (wrap64 (now + 5)) (wrap64 (now - 9)) hwz (wrap_bd _) (wrap_bd _) (wrap_bd _)
      have HC := Lib.hid hcell
      have HL := Lib.hid hlit
      have HS := Lib.hid hsrc
      have HW := Lib.hid hwz
      have HB := Lib.hid hbd
      have HZ := Lib.hid hz
      clear hcell hlit hsrc hwz hbd hz
      by_cases h60 : len3 ≤ 60
      · go_wp2_with (at_builtin; go_must (refine wpList_append_src _ rfl (.tmp 62) (.tmp 67) 23 rfl (w.heap.size + 1) 2 i2 (.int .i64 0) 1 8 Try.underlying23 hi hz0 hz1 hz2 rfl (by decide) _ 3 [.int .i64 (wrap64 (now + 4)), .int .i64 (wrap64 (now + 5)), .int .i64 (wrap64 (now - 9))] rfl (HL.out _) _ len3 ((z3.take len3).map (Value.int .i64)) rfl (HS.out _ (by have := HZ.out; omega)) (by have := HZ.out; simp; omega) (ints_oneCell _ _) (by unfold maxLen; omega) (by omega) (by simp) ?_))
        intro v' w1 hown hgrow
        obtain ⟨g, cap, hv, hg, hc, hlen, hcells⟩ := owned_ints (w := w1) (base := w.heap.size + 1) (e := 2) (v := v') (k := .i64) (n := 3 + len3) (zs := wrap64 (now + 4) :: wrap64 (now + 5) :: wrap64 (now - 9) :: z3.take len3) (by simpa using hown) (by omega)
        rw [hv]
        have HV := Lib.hid hcells
        have HN := Lib.hid hlen
        have HG := Lib.hid hgrow
        clear hcells hlen hown hv hgrow
        go_wp2_with fail
        go_meet
        case rel => exact ⟨g, cap, _, slice_eq HN.out, int_eq (by rw [HN.out]; rfl), rfl, by have := HN.out; omega, by have := HN.out; omega, by omega, HV.out, HB.out _, (((Below.refl _ _).alloc (by simp) _).grown HG.out (by simp) (by intro k hk; simp [Value.ownBlock] at hk; omega))⟩
      · go_wp2_with (at_builtin; go_must (refine wpList_append_src _ rfl (.tmp 62) (.tmp 67) 23 rfl (w.heap.size + 1) 2 i2 (.int .i64 0) 1 8 Try.underlying23 hi hz0 hz1 hz2 rfl (by decide) _ 3 [.int .i64 (wrap64 (now + 4)), .int .i64 (wrap64 (now + 5)), .int .i64 (wrap64 (now - 9))] rfl (HL.out _) _ 60 ((z3.take 60).map (Value.int .i64)) rfl (HS.out _ (by have := HZ.out; omega)) (by have := HZ.out; simp; omega) (ints_oneCell _ _) (by unfold maxLen; omega) (by omega) (by simp) ?_))
        intro v' w1 hown hgrow
        obtain ⟨g, cap, hv, hg, hc, hlen, hcells⟩ := owned_ints (w := w1) (base := w.heap.size + 1) (e := 2) (v := v') (k := .i64) (n := 3 + 60) (zs := wrap64 (now + 4) :: wrap64 (now + 5) :: wrap64 (now - 9) :: z3.take 60) (by simpa using hown) (by omega)
        rw [hv]
        have HV := Lib.hid hcells
        have HN := Lib.hid hlen
        have HG := Lib.hid hgrow
        clear hcells hlen hown hv hgrow
        go_wp2_with fail
        go_meet
        case rel => exact ⟨g, cap, _, slice_eq HN.out, int_eq (by rw [HN.out]; rfl), rfl, by have := HN.out; omega, by have := HN.out; omega, by omega, HV.out, HB.out _, (((Below.refl _ _).alloc (by simp) _).grown HG.out (by simp) (by intro k hk; simp [Value.ownBlock] at hk; omega))⟩
  case rest =>
  obtain ⟨g, cap, zs, rfl, rfl, rfl, hlen, hcap, hg, hcells, hbd, hbel⟩ := hcut
  have hst : St w O P g zs (mom now 0) (mom now 0) (mom now 0) wc := St.start (mom_bd _) hg hcells hbel
  have HST := Lib.hid hst
  have HBD := Lib.hid hbd
  clear hst hcells hbd hbel W3 _n0 _n1
  go_wp2_with fail
  go_loopg [11, 12, 13, 70] zs.length (fun k s11 s12 s13 s70 wr => ∃ (latest came sent : Int) (i : Nat), k + i = zs.length ∧ s70 = .int .i64 i ∧ s11 = .int .i64 latest ∧ s12 = .int .i64 came ∧ s13 = .int .i64 sent ∧ St w O P g zs came sent latest wr)
  case atStart => exact ⟨_, _, _, 0, rfl, rfl, rfl, rfl, rfl, HST.out⟩
  case round =>
    obtain ⟨latest, came, sent, i, hk, rfl, rfl, rfl, rfl, hst⟩ := hrel
    have HS := Lib.hid hst
    have HK := Lib.hid hk
    clear hst HST hk
    obtain ⟨c0, c1, c2, c3, c4, f2, f3, f4⟩ := HS.out.cells
    obtain ⟨bc0, bc1, bs0, bs1, bl0, bl1⟩ := HS.out.bounds
    by_cases hi : i < zs.length
    · obtain ⟨x, hx⟩ : ∃ x, x = zs.getD i 0 := ⟨_, rfl⟩
      have hxc : wr.cell? ⟨g, i, none⟩ = some (.int .i64 x) := by rw [hx]; exact HS.out.arr i hi
      have HX := Lib.hid hx
      clear hx
      obtain ⟨k, hkd⟩ : ∃ k, k = x / 4 := ⟨_, rfl⟩
      obtain ⟨m, hmd⟩ : ∃ m, m = mom k latest := ⟨_, rfl⟩
      have hmm : m = max (mom k 0) latest := by rw [hmd]; unfold mom; omega
      have HKD := Lib.hid hkd
      have HMD := Lib.hid hmd
      have HMM := Lib.hid hmm
      clear hkd hmd hmm
      go_upto_region 15 with fail
      go_cut [18] (fun s18 wx => s18 = .int .i64 m ∧ wr = wx)
      case first => as_aux_lemma =>
        go_wp2_with (go_at_call 4; refine (mom_any _ _).mono ?_; rintro e w' ⟨rfl, rfl⟩)
        all_goals
          go_meet
          case rel => exact ⟨int_eq (by rw [HMM.out, HKD.out]; omega), rfl⟩
      case rest =>
      obtain ⟨rfl, rfl⟩ := hcut
      go_upto_block 2 with fail
      go_cut [11, 12, 13] (fun s11 s12 s13 wx => ∃ came' sent' latest' : Int, s11 = .int .i64 latest' ∧ s12 = .int .i64 came' ∧ s13 = .int .i64 sent' ∧ St w O P g zs came' sent' latest' wx)
      case first => as_aux_lemma =>
        go_wp2_with (first | (go_at_call 6; refine (got_any _ _ latest _ came c2 c4 f4 f2).mono ?_; rintro e w' ⟨rfl, rfl⟩) | (go_at_call 7; refine (sent_any _ _ latest _ sent c3 c4 f4 f3).mono ?_; rintro e w' ⟨rfl, rfl⟩))
        all_goals go_meet
        · case rel => exact ⟨m, sent, m, rfl, rfl, rfl, by rw [HMD.out, HKD.out]; exact HS.out.got _⟩
        · case rel => exact ⟨came, m, m, rfl, rfl, rfl, by rw [HMD.out, HKD.out]; exact HS.out.put _⟩
        · case rel => exact ⟨came, sent, latest, rfl, rfl, rfl, HS.out⟩
      case rest =>
      clear c0 c1 c2 c3 c4 f2 f3 f4 bc0 bc1 bs0 bs1 bl0 bl1 HS HMD HMM hxc
      obtain ⟨came', sent', latest', rfl, rfl, rfl, hst⟩ := hcut
      have HS := Lib.hid hst
      clear hst
      obtain ⟨c0, c1, c2, c3, c4, f2, f3, f4⟩ := HS.out.cells
      obtain ⟨bc0, bc1, bs0, bs1, bl0, bl1⟩ := HS.out.bounds
      obtain ⟨m2, hmd⟩ : ∃ m2, m2 = mom k latest' := ⟨_, rfl⟩
      have hmm : m2 = max (mom k 0) latest' := by rw [hmd]; unfold mom; omega
      have hmd' : m2 = mom (x / 4) latest' := by rw [hmd, HKD.out]
      have HMD := Lib.hid hmd'
      have HMM := Lib.hid hmm
      clear hmd hmd' hmm
      go_upto_region 23 with fail
      go_cut [18] (fun s18 wy => s18 = .int .i64 m2 ∧ wc = wy)
      case first => as_aux_lemma =>
        go_wp2_with (go_at_call 4; refine (mom_any _ _).mono ?_; rintro e w' ⟨rfl, rfl⟩)
        all_goals
          go_meet
          case rel => exact ⟨int_eq (by rw [HMM.out, HKD.out]; omega), rfl⟩
      case rest =>
      obtain ⟨rfl, rfl⟩ := hcut
      clear HMM
      obtain ⟨f, hf⟩ : ∃ f, f = firstOf O P (came' + O) (sent' + half) := ⟨_, rfl⟩
      have HF := Lib.hid hf
      clear hf
      by_cases hO0 : 0 < O <;> by_cases hP0 : 0 < P
      · as_aux_lemma =>
        have hp0 : 0 < peer := by have := HP.out; omega
        have hL : Hid ((decide (came' + O ≤ m2)) = (decide (0 < O) && decide (came' + O ≤ mom (x / 4) latest'))) := by show _ = _; rw [← HMD.out]; simp [hO0]
        have hD : Hid ((decide (sent' + half ≤ m2)) = (decide (0 < P) && decide (sent' + half ≤ mom (x / 4) latest'))) := by show _ = _; rw [← HMD.out]; simp [hP0]
        have hW : Hid (true = (decide (0 < O) || decide (0 < P))) := by show _ = _; simp [hO0, hP0]
        go_upto_block 3 with fail
        go_cut [21] (fun s21 wy => s21 = .int .i64 f ∧ wc = wy)
        case first => as_aux_lemma =>
          go_wp2_with fail
          all_goals
            go_meet
            case rel => exact ⟨int_eq (by rw [HF.out]; unfold firstOf; split <;> (first | omega | (split <;> omega))), rfl⟩
        case rest =>
        obtain ⟨rfl, rfl⟩ := hcut
        go_wp2_with (first | (go_at_call 8; go_must (refine (when_at _ O P came' sent' half f true _ c0 c1 c2 c3 O0 O1 P0 P1 bc0 bc1 bs0 bs1 HH HF hW).mono ?_); rintro e w' ⟨rfl, rfl⟩) | (go_at_call 9; go_must (refine (late_at _ O came' latest' _ _ _ ?_ ?_ ?_ O0 O1 bc0 bc1 hL).mono ?_); exact ((HS.out.alloc _).drew.drew).cells.1; exact ((HS.out.alloc _).drew.drew).cells.2.2.1; exact ((HS.out.alloc _).drew.drew).cells.2.2.2.2.1; rintro e w' ⟨rfl, rfl⟩) | (go_at_call 10; refine (due_at _ P sent' latest' _ half _ _ ?_ ?_ ?_ P0 P1 bs0 bs1 HH hD).mono ?_; exact ((HS.out.alloc _).drew.drew.drew).cells.2.1; exact ((HS.out.alloc _).drew.drew.drew).cells.2.2.2.1; exact ((HS.out.alloc _).drew.drew.drew).cells.2.2.2.2.1; rintro e w' ⟨rfl, rfl⟩))
        go_roundg (gk - 1)
        case measure => have := HK.out; omega
        case rel => exact ⟨latest', came', sent', i + 1, by have := HK.out; omega, by go_num, rfl, rfl, rfl, (HS.out.alloc _).drew.drew.drew.drew⟩
      · as_aux_lemma =>
        have hp0 : peer ≤ 0 := by have := HP.out; omega
        have hL : Hid ((decide (came' + O ≤ m2)) = (decide (0 < O) && decide (came' + O ≤ mom (x / 4) latest'))) := by show _ = _; rw [← HMD.out]; simp [hO0]
        have hD : Hid ((false) = (decide (0 < P) && decide (sent' + half ≤ mom (x / 4) latest'))) := by show _ = _; rw [← HMD.out]; simp [hP0]
        have hW : Hid (true = (decide (0 < O) || decide (0 < P))) := by show _ = _; simp [hO0, hP0]
        go_upto_block 3 with fail
        go_cut [21] (fun s21 wy => s21 = .int .i64 f ∧ wc = wy)
        case first => as_aux_lemma =>
          go_wp2_with fail
          all_goals
            go_meet
            case rel => exact ⟨int_eq (by rw [HF.out]; unfold firstOf; split <;> (first | omega | (split <;> omega))), rfl⟩
        case rest =>
        obtain ⟨rfl, rfl⟩ := hcut
        go_wp2_with (first | (go_at_call 8; go_must (refine (when_at _ O P came' sent' half f true _ c0 c1 c2 c3 O0 O1 P0 P1 bc0 bc1 bs0 bs1 HH HF hW).mono ?_); rintro e w' ⟨rfl, rfl⟩) | (go_at_call 9; go_must (refine (late_at _ O came' latest' _ _ _ ?_ ?_ ?_ O0 O1 bc0 bc1 hL).mono ?_); exact ((HS.out.alloc _).drew.drew).cells.1; exact ((HS.out.alloc _).drew.drew).cells.2.2.1; exact ((HS.out.alloc _).drew.drew).cells.2.2.2.2.1; rintro e w' ⟨rfl, rfl⟩) | (go_at_call 10; refine (due_at _ P sent' latest' _ half _ _ ?_ ?_ ?_ P0 P1 bs0 bs1 HH hD).mono ?_; exact ((HS.out.alloc _).drew.drew.drew).cells.2.1; exact ((HS.out.alloc _).drew.drew.drew).cells.2.2.2.1; exact ((HS.out.alloc _).drew.drew.drew).cells.2.2.2.2.1; rintro e w' ⟨rfl, rfl⟩))
        go_roundg (gk - 1)
        case measure => have := HK.out; omega
        case rel => exact ⟨latest', came', sent', i + 1, by have := HK.out; omega, by go_num, rfl, rfl, rfl, (HS.out.alloc _).drew.drew.drew.drew⟩
      · as_aux_lemma =>
        have hp0 : 0 < peer := by have := HP.out; omega
        have hL : Hid ((false) = (decide (0 < O) && decide (came' + O ≤ mom (x / 4) latest'))) := by show _ = _; rw [← HMD.out]; simp [hO0]
        have hD : Hid ((decide (sent' + half ≤ m2)) = (decide (0 < P) && decide (sent' + half ≤ mom (x / 4) latest'))) := by show _ = _; rw [← HMD.out]; simp [hP0]
        have hW : Hid (true = (decide (0 < O) || decide (0 < P))) := by show _ = _; simp [hO0, hP0]
        go_upto_block 3 with fail
        go_cut [21] (fun s21 wy => s21 = .int .i64 f ∧ wc = wy)
        case first => as_aux_lemma =>
          go_wp2_with fail
          all_goals
            go_meet
            case rel => exact ⟨int_eq (by rw [HF.out]; unfold firstOf; split <;> (first | omega | (split <;> omega))), rfl⟩
        case rest =>
        obtain ⟨rfl, rfl⟩ := hcut
        go_wp2_with (first | (go_at_call 8; go_must (refine (when_at _ O P came' sent' half f true _ c0 c1 c2 c3 O0 O1 P0 P1 bc0 bc1 bs0 bs1 HH HF hW).mono ?_); rintro e w' ⟨rfl, rfl⟩) | (go_at_call 9; go_must (refine (late_at _ O came' latest' _ _ _ ?_ ?_ ?_ O0 O1 bc0 bc1 hL).mono ?_); exact ((HS.out.alloc _).drew.drew).cells.1; exact ((HS.out.alloc _).drew.drew).cells.2.2.1; exact ((HS.out.alloc _).drew.drew).cells.2.2.2.2.1; rintro e w' ⟨rfl, rfl⟩) | (go_at_call 10; refine (due_at _ P sent' latest' _ half _ _ ?_ ?_ ?_ P0 P1 bs0 bs1 HH hD).mono ?_; exact ((HS.out.alloc _).drew.drew.drew).cells.2.1; exact ((HS.out.alloc _).drew.drew.drew).cells.2.2.2.1; exact ((HS.out.alloc _).drew.drew.drew).cells.2.2.2.2.1; rintro e w' ⟨rfl, rfl⟩))
        go_roundg (gk - 1)
        case measure => have := HK.out; omega
        case rel => exact ⟨latest', came', sent', i + 1, by have := HK.out; omega, by go_num, rfl, rfl, rfl, (HS.out.alloc _).drew.drew.drew.drew⟩
      · as_aux_lemma =>
        have hp0 : peer ≤ 0 := by have := HP.out; omega
        have hL : Hid ((false) = (decide (0 < O) && decide (came' + O ≤ mom (x / 4) latest'))) := by show _ = _; rw [← HMD.out]; simp [hO0]
        have hD : Hid ((false) = (decide (0 < P) && decide (sent' + half ≤ mom (x / 4) latest'))) := by show _ = _; rw [← HMD.out]; simp [hP0]
        have hW : Hid (false = (decide (0 < O) || decide (0 < P))) := by show _ = _; simp [hO0, hP0]
        go_upto_block 3 with fail
        go_cut [21] (fun s21 wy => s21 = .int .i64 f ∧ wc = wy)
        case first => as_aux_lemma =>
          go_wp2_with fail
          all_goals
            go_meet
            case rel => exact ⟨int_eq (by rw [HF.out]; unfold firstOf; split <;> (first | omega | (split <;> omega))), rfl⟩
        case rest =>
        obtain ⟨rfl, rfl⟩ := hcut
        go_wp2_with (first | (go_at_call 8; go_must (refine (when_at _ O P came' sent' half f false _ c0 c1 c2 c3 O0 O1 P0 P1 bc0 bc1 bs0 bs1 HH HF hW).mono ?_); rintro e w' ⟨rfl, rfl⟩) | (go_at_call 9; go_must (refine (late_at _ O came' latest' _ _ _ ?_ ?_ ?_ O0 O1 bc0 bc1 hL).mono ?_); exact ((HS.out.alloc _).drew.drew).cells.1; exact ((HS.out.alloc _).drew.drew).cells.2.2.1; exact ((HS.out.alloc _).drew.drew).cells.2.2.2.2.1; rintro e w' ⟨rfl, rfl⟩) | (go_at_call 10; refine (due_at _ P sent' latest' _ half _ _ ?_ ?_ ?_ P0 P1 bs0 bs1 HH hD).mono ?_; exact ((HS.out.alloc _).drew.drew.drew).cells.2.1; exact ((HS.out.alloc _).drew.drew.drew).cells.2.2.2.1; exact ((HS.out.alloc _).drew.drew.drew).cells.2.2.2.2.1; rintro e w' ⟨rfl, rfl⟩))
        go_roundg (gk - 1)
        case measure => have := HK.out; omega
        case rel => exact ⟨latest', came', sent', i + 1, by have := HK.out; omega, by go_num, rfl, rfl, rfl, (HS.out.alloc _).drew.drew.drew.drew⟩
    · go_wp2_with fail
      go_ret
      exact ⟨rfl, HS.out.bel⟩
end Go.Proofs.Ytohfphcgbgkmeaa

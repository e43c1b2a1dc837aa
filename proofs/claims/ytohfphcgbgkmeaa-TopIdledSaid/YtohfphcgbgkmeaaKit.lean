/- Laws of no program: append from whatever source onto a slice of the call's own; a slice of integers that came in. -/
import Derived.WalkKit
import Derived.Laws.AppendOwnNone
namespace Go.Proofs.Ytohfphcgbgkmeaa
open Go.RowKit

/-- What is appended: nothing out of nil, or the cells at an address. -/
def SrcAt (w : World) (v : Value) (m : Nat) (news : List Value) : Prop :=
  (v = .slice none 0 0 ∧ m = 0 ∧ news = []) ∨ ∃ ad c, v = .slice (some ad) m c ∧ ∀ j u, news[j]? = some u → w.cell? (ad.add j) = some u

theorem wpList_append_src {P : Program} (w : World) {ops : Array Oper} {rest : List Oper} {o : Oper} {a : Act} {Q : Exit → Act → World → Prop} (hgd : o.guard = none) (s x : Operand) (t : TypeId)
    (ho : o.op = .call { callee := .builtin .append, args := #[s, x], argTypes := #[t, t] })
    (base : Nat) (e : TypeId) (i : TypeInfo) (z : Value) (size bytes : Nat) (ht : P.underlying t = some (.slice e)) (hi : P.info? e = some i) (hz : i.zero = some z)
    (hsize : i.size = size) (hby : i.bytes = bytes) (hzs : z.cells.size = size) (hsz : 0 < size)
    (v : Value) (n : Nat) (xs : List Value) (hs : a.eval s = v) (hown : w.ownsRow base e size v n xs)
    (sv : Value) (m : Nat) (news : List Value) (hx : a.eval x = sv) (hsrc : SrcAt w sv m news) (hl : news.length = m * size) (h1 : ∀ u ∈ news, u.oneCell' = true)
    (h63 : n + m ≤ maxLen) (hbytes : (n + m) * bytes ≤ 140737488355328) (hbase : base ≤ w.heap.size)
    (h : ∀ v' w', w'.ownsRow base e size v' (n + m) (xs ++ news) → w.grownBy w' v.ownBlock → wpList P ops Q rest (a.put o.dst v') w') : wpList P ops Q (o :: rest) a w := by
  rcases hsrc with ⟨rfl, rfl, rfl⟩ | ⟨ad, c, rfl, hc⟩
  · refine wpList_append_own_none hgd s x t ho base e i size ht hi v n xs hs hown hx ?_
    exact h v w (by simpa using hown) (World.grownBy.refl w _)
  · exact wpList_append_own w hgd s x t ho base e i z size bytes ht hi hz hsize hby hzs hsz v n xs hs hown ad m c news hx hl hc h1 h63 hbytes hbase (fun v' w' a b _ => h v' w' a b)

/-- A slice of integers that came in: nil, or a row of 'cap' cells. -/
def IsRow (k : IntKind) (w : World) (a : Option Addr) (len cap : Nat) (zs : List Int) : Prop :=
  (a = none ∧ len = 0 ∧ cap = 0 ∧ zs = []) ∨
  ∃ x, a = some x ∧ len ≤ cap ∧ cap ≤ maxLen ∧ zs.length = cap ∧ (∀ i, i < zs.length → w.cell? (x.add i) = some (.int k (zs.getD i 0))) ∧ ∀ n ∈ zs, (Lit.int k n).wf = true

theorem wf_i64 {n : Int} (h : (Lit.int .i64 n).wf = true) : -9223372036854775808 ≤ n ∧ n ≤ 9223372036854775807 := by
  simp [Lit.wf, IntKind.min, IntKind.max, IntKind.signed, IntKind.bits] at h
  exact ⟨by omega, by omega⟩
theorem wf_u32 {n : Int} (h : (Lit.int .u32 n).wf = true) : 0 ≤ n ∧ n ≤ 4294967295 := by
  simp [Lit.wf, IntKind.min, IntKind.max, IntKind.signed, IntKind.bits] at h
  exact ⟨by omega, by omega⟩

/-- The first 'm' of them, as something that is appended. -/
theorem IsRow.src {k : IntKind} {w w' : World} {x : Addr} {zs : List Int} {m c : Nat} (hc : ∀ i, i < zs.length → w.cell? (x.add i) = some (.int k (zs.getD i 0)))
    (hw : ∀ i, i < zs.length → w'.cell? (x.add i) = w.cell? (x.add i)) (hm : m ≤ zs.length) : SrcAt w' (.slice (some x) m c) m ((zs.take m).map (Value.int k)) := by
  refine .inr ⟨x, c, rfl, fun j u hj => ?_⟩
  have hlt : j < m := by
    rcases Nat.lt_or_ge j m with h | h
    · exact h
    · rw [List.getElem?_eq_none (by simp; omega)] at hj; simp at hj
  rw [hw j (by omega), hc j (by omega)]
  simp [hlt, show j < zs.length by omega] at hj
  simp [← hj, show j < zs.length by omega]

/-- The same behind two new blocks. -/
theorem row_src {k : IntKind} {w : World} {x : Addr} {zs : List Int} (m c : Nat) (hc : ∀ i, i < zs.length → w.cell? (x.add i) = some (.int k (zs.getD i 0))) (hm : m ≤ zs.length) (o1 o2 : Obj) :
    SrcAt ((w.alloc o1).alloc o2) (.slice (some x) m c) m ((zs.take m).map (Value.int k)) := by
  refine IsRow.src hc (fun i hi => ?_) hm
  have hb := World.block_lt_of_cell? _ _ (hc i hi)
  rw [World.cell?_alloc_lt _ _ _ (by simp; omega), World.cell?_alloc_lt _ _ _ hb]

/-- A literal slice behind another new block. -/
theorem lit_owned (w : World) (o : Obj) (base : Nat) (e : TypeId) (size : Nat) (cs : Array Value) (n : Nat) (hb : base ≤ w.heap.size + 1) (hm : n ≤ maxLen) (hs : cs.size = n * size) :
    ((w.alloc o).alloc (.cells cs e)).ownsRow base e size (.slice (some ⟨w.heap.size + 1, 0, none⟩) n n) n cs.toList := by
  have h := World.ownsRow_lit (base := base) (e := e) (size := size) (w.alloc o) cs n (by simpa using hb) hm hs
  rw [show (w.alloc o).heap.size = w.heap.size + 1 by simp] at h
  exact h

/-- What is owned, and is not nothing, lies in a block of the call's own. -/
theorem owned_cells {w : World} {base : Nat} {e : TypeId} {v : Value} {n : Nat} {xs : List Value} (h : w.ownsRow base e 1 v n xs) (hn : 0 < n) :
    ∃ g cap, v = .slice (some ⟨g, 0, none⟩) n cap ∧ base ≤ g ∧ n ≤ cap ∧ ∀ j, j < n → w.cell? ⟨g, j, none⟩ = xs[j]? := by
  rcases h.2 with ⟨_, h0⟩ | ⟨g, cap, cur, rfl, hg, _, hc, _, _, _⟩
  · omega
  · exact ⟨g, cap, rfl, hg, hc, fun j hj => h.cellAt j (by simpa using hj)⟩

/-- The same of numbers. -/
theorem owned_ints {k : IntKind} {w : World} {base : Nat} {e : TypeId} {v : Value} {n : Nat} {zs : List Int} (h : w.ownsRow base e 1 v n (zs.map (Value.int k))) (hn : 0 < n) :
    ∃ g cap, v = .slice (some ⟨g, 0, none⟩) n cap ∧ base ≤ g ∧ n ≤ cap ∧ zs.length = n ∧ ∀ j, j < zs.length → w.cell? ⟨g, j, none⟩ = some (.int k (zs.getD j 0)) := by
  obtain ⟨g, cap, hv, hg, hc, hx⟩ := owned_cells h hn
  have hl : zs.length = n := by simpa using h.1
  refine ⟨g, cap, hv, hg, hc, hl, fun j hj => ?_⟩
  rw [hx j (by omega)]
  simp [hj]

end Go.Proofs.Ytohfphcgbgkmeaa

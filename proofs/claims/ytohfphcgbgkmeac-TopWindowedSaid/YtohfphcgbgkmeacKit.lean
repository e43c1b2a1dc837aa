/- Laws of no program: slices that are read, slices of the call's own, append from whatever source, blocks that are written. -/
import Derived.WalkKit
import Derived.Laws.AppendOwnNone
import Derived.Lib.Hide
namespace Go.Proofs.Ytohfphcgbgkmeac
open Go.RowKit

/-! ### What is appended -/
/-- What is appended: nothing out of nil, or the cells at an address. -/
def SrcAt (w : World) (v : Value) (m : Nat) (news : List Value) : Prop :=
  (v = .slice none 0 0 ∧ m = 0 ∧ news = []) ∨ ∃ ad c, v = .slice (some ad) m c ∧ ∀ j u, news[j]? = some u → w.cell? (ad.add j) = some u

theorem wpList_append_src {P : Program} (w : World) {ops : Array Oper} {rest : List Oper} {o : Oper} {a : Act} {Q : Exit → Act → World → Prop} (hgd : o.guard = none) (s x : Operand) (t : TypeId)
    (ho : o.op = .call { callee := .builtin .append, args := #[s, x], argTypes := #[t, t] })
    (base : Nat) (e : TypeId) (i : TypeInfo) (z : Value) (size bytes : Nat) (ht : P.underlying t = some (.slice e)) (hi : P.info? e = some i) (hz : i.zero = some z)
    (hsize : i.size = size) (hby : i.bytes = bytes) (hzs : z.cells.size = size) (hsz : 0 < size)
    (v : Value) (n : Nat) (xs : List Value) (hs : a.eval s = v) (hown : w.ownsRow base e size v n xs)
    (sv : Value) (m : Nat) (news : List Value) (hx : a.eval x = sv) (hsrc : SrcAt w sv m news) (hl : news.length = m * size) (h1 : ∀ u ∈ news, u.oneCell' = true)
    (h63 : n + m ≤ maxLen) (hbytes : (n + m) * bytes ≤ 140737488355328) (hbase : base ≤ w.heap.size)
    (h : ∀ v' w', w'.ownsRow base e size v' (n + m) (xs ++ news) → w.grownBy w' v.ownBlock → wpList P ops Q rest (a.put o.dst v') w') : wpList P ops Q (o :: rest) a w := by
  rcases hsrc with ⟨rfl, rfl, rfl⟩ | ⟨ad, c, rfl, hc⟩
  · refine wpList_append_own_none hgd s x t ho base e i size ht hi v n xs hs hown hx ?_
    exact h v w (by simpa using hown) (World.grownBy.refl w _)
  · exact wpList_append_own w hgd s x t ho base e i z size bytes ht hi hz hsize hby hzs hsz v n xs hs hown ad m c news hx hl hc h1 h63 hbytes hbase (fun v' w' a b _ => h v' w' a b)

/-! ### A slice of integers that is read -/
/-- The value is a slice that reads as these numbers. -/
def Rd (k : IntKind) (w : World) (v : Value) (l : List Int) : Prop :=
  (v = .slice none 0 0 ∧ l = []) ∨ ∃ x c, v = .slice (some x) l.length c ∧ l.length ≤ c ∧ c ≤ maxLen ∧ ∀ j, j < l.length → w.cell? (x.add j) = some (.int k (l.getD j 0))

/-- The value is a slice of the call's own, from 'base' on, that holds these numbers. -/
def Own (k : IntKind) (e : TypeId) (w : World) (base : Nat) (v : Value) (l : List Int) : Prop := w.ownsRow base e 1 v l.length (l.map (Value.int k))

section
variable {k : IntKind} {e : TypeId} {w w' : World} {v : Value} {l : List Int} {base : Nat}

theorem Rd.nil (k : IntKind) (w : World) : Rd k w (.slice none 0 0) [] := .inl ⟨rfl, rfl⟩

theorem Rd.src (h : Rd k w v l) : SrcAt w v l.length (l.map (Value.int k)) := by
  rcases h with ⟨rfl, rfl⟩ | ⟨x, c, rfl, _, _, hc⟩
  · exact .inl ⟨rfl, rfl, rfl⟩
  · refine .inr ⟨x, c, rfl, fun j u hj => ?_⟩
    have hlt : j < l.length := by
      rcases Nat.lt_or_ge j l.length with h | h
      · exact h
      · rw [List.getElem?_eq_none (by simpa using h)] at hj; simp at hj
    rw [hc j hlt]
    simp [hlt] at hj
    simp [← hj, hlt]

theorem Rd.keep (h : Rd k w v l) (hk : ∀ a : Addr, a.block < w.heap.size → w'.cell? a = w.cell? a) : Rd k w' v l := by
  rcases h with ⟨rfl, rfl⟩ | ⟨x, c, rfl, h1, h2, hc⟩
  · exact .inl ⟨rfl, rfl⟩
  · exact .inr ⟨x, c, rfl, h1, h2, fun j hj => by rw [hk _ (World.block_lt_of_cell? _ _ (hc j hj))]; exact hc j hj⟩

theorem Rd.below (h : Rd k w v l) (hb : Below w.heap.size w w') : Rd k w' v l := h.keep fun _ ha => hb.cell ha

/-- Nil, or an address (with no spot where there is a cell). -/
theorem Rd.slice (h : Rd k w v l) : ∃ a c, v = .slice a l.length c := by
  rcases h with ⟨rfl, rfl⟩ | ⟨x, c, rfl, _⟩
  · exact ⟨none, 0, rfl⟩
  · exact ⟨some x, c, rfl⟩

theorem Rd.le (h : Rd k w v l) : l.length ≤ maxLen := by
  rcases h with ⟨rfl, rfl⟩ | ⟨x, c, rfl, h1, h2, _⟩
  · simp
  · omega

theorem add_none {x : Addr} {j : Nat} (h : x.spot = none) : x.add j = ⟨x.block, x.off + j, none⟩ := by
  obtain ⟨b, o, s⟩ := x
  simp at h
  subst h
  unfold Addr.add; split <;> simp_all

theorem add_spot {w : World} {x : Addr} {u : Value} (h : w.cell? (x.add 0) = some u) : x.spot = none := by
  simpa [Addr.add] using World.cell?_spot h

/-- Where there is a number: the address, and each cell at it. -/
theorem Rd.at (h : Rd k w v l) (hl : 0 < l.length) : ∃ b o c, v = .slice (some ⟨b, o, none⟩) l.length c ∧ l.length ≤ c ∧ c ≤ maxLen ∧ ∀ j, j < l.length → w.cell? ⟨b, o + j, none⟩ = some (.int k (l.getD j 0)) := by
  rcases h with ⟨rfl, rfl⟩ | ⟨x, c, rfl, h1, h2, hc⟩
  · simp at hl
  · have hs := add_spot (hc 0 hl)
    obtain ⟨b, o, s⟩ := x
    simp at hs
    subst hs
    refine ⟨b, o, c, rfl, h1, h2, fun j hj => ?_⟩
    rw [← hc j hj, add_none rfl]

theorem Rd.mk (b o c : Nat) (hl : l.length ≤ c) (hm : c ≤ maxLen) (hc : ∀ j, j < l.length → w.cell? ⟨b, o + j, none⟩ = some (.int k (l.getD j 0))) : Rd k w (.slice (some ⟨b, o, none⟩) l.length c) l :=
  .inr ⟨_, c, rfl, hl, hm, fun j hj => by rw [add_none rfl]; exact hc j hj⟩

theorem Own.rd (h : Own k e w base v l) : Rd k w v l := by
  rcases h.2 with ⟨rfl, h0⟩ | ⟨g, cap, cur, rfl, hg, hh, hc, hm, hs, ht⟩
  · exact .inl ⟨rfl, List.eq_nil_of_length_eq_zero h0⟩
  · refine .inr ⟨_, cap, rfl, hc, hm, fun j hj => ?_⟩
    rw [add_none rfl]
    have := World.ownsRow.cellAt h j (by simpa using hj)
    simp only [Nat.zero_add]
    rw [this]
    simp [hj]

theorem Own.nil (k : IntKind) (e : TypeId) (w : World) (base : Nat) : Own k e w base (.slice none 0 0) [] := World.ownsRow_nil _ _ _ _
theorem Own.mono (h : Own k e w base v l) {b' : Nat} (hb : b' ≤ base) : Own k e w b' v l := by
  refine ⟨h.1, ?_⟩
  rcases h.2 with h2 | ⟨g, cap, cur, hv, hg, r⟩
  · exact .inl h2
  · exact .inr ⟨g, cap, cur, hv, by omega, r⟩
theorem Own.le (h : Own k e w base v l) : l.length ≤ maxLen := h.rd.le
theorem Own.alloc (h : Own k e w base v l) (o : Obj) : Own k e (w.alloc o) base v l := World.ownsRow.alloc h o
theorem Own.drew (h : Own k e w base v l) : Own k e w.drew base v l := h
/-- The block that it lies in. -/
theorem Own.lt (h : Own k e w base v l) : ∀ g, v.ownBlock = some g → base ≤ g ∧ g < w.heap.size := World.ownsRow.lt h
theorem Own.below (h : Own k e w base v l) (hb : Below w.heap.size w w') : Own k e w' base v l := by
  refine ⟨h.1, ?_⟩
  rcases h.2 with h2 | ⟨g, cap, cur, hv, hg, hh, r⟩
  · exact .inl h2
  · exact .inr ⟨g, cap, cur, hv, hg, by rw [hb.block g (lt_of_block hh)]; exact hh, r⟩
/-- A literal slice: at the end of the heap. -/
theorem Own.lit (w : World) (k : IntKind) (e : TypeId) (cs : Array Value) (l : List Int) (hcs : cs.toList = l.map (Value.int k)) (n g base : Nat) (hn : n = l.length) (hg : g = w.heap.size) (hb : base ≤ w.heap.size) (hm : l.length ≤ maxLen) :
    Own k e (w.alloc (.cells cs e)) base (.slice (some ⟨g, 0, none⟩) n n) l := by
  subst hn hg
  have hsz : cs.size = l.length * 1 := by rw [← Array.length_toList, hcs]; simp
  have h := World.ownsRow_lit (base := base) (e := e) (size := 1) w cs l.length hb hm hsz
  rw [hcs] at h
  exact h
/-- What an append leaves. -/
theorem Own.app {l2 : List Int} (h : w.ownsRow base e 1 v (l.length + l2.length) (l.map (Value.int k) ++ l2.map (Value.int k))) : Own k e w base v (l ++ l2) := by
  unfold Own
  simpa using h
theorem Own.appN {l2 : List Int} {n : Nat} (h : w.ownsRow base e 1 v n (l.map (Value.int k) ++ l2.map (Value.int k))) : Own k e w base v (l ++ l2) := by
  have hn : n = (l ++ l2).length := by have := h.1; simp at this; simp; omega
  subst hn
  unfold Own
  simpa using h
theorem Own.of {n : Nat} {xs : List Value} (h : w.ownsRow base e 1 v n xs) (zs : List Int) (hx : xs = zs.map (Value.int k)) : Own k e w base v zs := by
  subst hx
  have hn : n = zs.length := by have := h.1; simp at this; omega
  subst hn
  exact h
/-- The shape of what is owned and is not nothing. -/
theorem Own.shape (h : Own k e w base v l) (hl : 0 < l.length) : ∃ g cap, v = .slice (some ⟨g, 0, none⟩) l.length cap ∧ base ≤ g ∧ l.length ≤ cap ∧ cap ≤ maxLen ∧ ∀ j, j < l.length → w.cell? ⟨g, j, none⟩ = some (.int k (l.getD j 0)) := by
  rcases h.2 with ⟨_, h0⟩ | ⟨g, cap, cur, rfl, hg, hh, hc, hm, hs, ht⟩
  · omega
  · refine ⟨g, cap, rfl, hg, hc, hm, fun j hj => ?_⟩
    rw [World.ownsRow.cellAt h j (by simpa using hj)]
    simp [hj]
end

/-- A literal of integers, as something that is appended. -/
theorem lit_src (w : World) (k : IntKind) (e : TypeId) (cs : Array Value) (l : List Int) (hcs : cs.toList = l.map (Value.int k)) (n g : Nat) (hn : n = l.length) (hg : g = w.heap.size) (hm : l.length ≤ maxLen) :
    SrcAt (w.alloc (.cells cs e)) (.slice (some ⟨g, 0, none⟩) n n) n (l.map (Value.int k)) := by
  have h := (Own.lit w k e cs l hcs n g g hn hg (by omega) hm).rd.src
  rw [← hn] at h
  exact h

/-- A part of a slice, as the walk writes it: from i on. -/
theorem Rd.from {k : IntKind} {w : World} {l : List Int} {b o c n : Nat} (h : Rd k w (.slice (some ⟨b, o, none⟩) n c) l) (i : Nat) (hi : i ≤ l.length) (A : Option Addr) (hA : A = if c = i then some ⟨b, o, none⟩ else some ⟨b, o + i, none⟩) :
    Rd k w (.slice A (l.length - i) (c - i)) (l.drop i) := by
  rcases h with ⟨h, _⟩ | ⟨x, c', hx, h1, h2, hc⟩
  · simp at h
  · simp only [Value.slice.injEq, Option.some.injEq] at hx
    obtain ⟨rfl, rfl, rfl⟩ := hx
    have hlen : (l.drop i).length = l.length - i := by simp
    subst hA
    rw [← hlen]
    split
    · refine .inr ⟨_, _, rfl, by omega, by omega, fun j hj => ?_⟩
      omega
    · refine .inr ⟨_, _, rfl, by omega, by omega, fun j hj => ?_⟩
      rw [add_none rfl]
      have := hc (i + j) (by omega)
      rw [add_none rfl] at this
      simp only [Nat.add_assoc] at this ⊢
      rw [this]
      simp [List.getD]

theorem Rd.take {k : IntKind} {w : World} {l : List Int} {x : Addr} {c n : Nat} (h : Rd k w (.slice (some x) n c) l) (m : Nat) (hm : m ≤ l.length) : Rd k w (.slice (some x) m c) (l.take m) := by
  rcases h with ⟨h, _⟩ | ⟨x, c', hx, h1, h2, hc⟩
  · simp at h
  · simp only [Value.slice.injEq, Option.some.injEq] at hx
    obtain ⟨rfl, rfl, rfl⟩ := hx
    have hlen : (l.take m).length = m := by simp; omega
    have := fun j (hj : j < m) => hc j (by omega)
    refine .inr ⟨_, _, by rw [hlen], by omega, h2, fun j hj => ?_⟩
    rw [this j (by omega)]
    simp [List.getD, show j < m by omega]

theorem conv_zero {P : Program} (w : World) (src e : TypeId) (hs : P.underlying src = some (.slice e)) (he : P.underlying e = some (.int .u8)) (p : Option Addr) (c : Nat) :
    ∀ dst, P.underlying dst = some .string → (convert src dst (.slice p 0 c)).run P w = .ok (.string ByteArray.empty) w := by
  intro dst hd
  rw [run_convert_bytes_string w src dst e _ 0 c hs he hd]
  cases p <;> simp [Conv.bytesToString, loadCells]
  all_goals rfl

/-- 'string(b)'. -/
theorem Rd.conv {P : Program} {w : World} {v : Value} {l : List Int} (h : Rd .u8 w v l) (src e dst : TypeId) (hs : P.underlying src = some (.slice e)) (he : P.underlying e = some (.int .u8)) (hd : P.underlying dst = some .string) :
    (convert src dst v).run P w = .ok (.string (strOfNums l)) w := by
  rcases h with ⟨rfl, rfl⟩ | ⟨x, c, rfl, h1, h2, hc⟩
  · exact run_convert_bytes_nil w src e hs he 0 0 dst hd
  · rcases Nat.eq_zero_or_pos l.length with h0 | h0
    · obtain rfl := List.eq_nil_of_length_eq_zero h0
      exact conv_zero w src e hs he (some x) c dst hd
    · obtain ⟨b, o, c', hv, _, _, hcell⟩ := Rd.at (.inr ⟨x, c, rfl, h1, h2, hc⟩) h0
      rw [hv]
      exact run_convert_bytes_arg w src e hs he b o _ c' l rfl hcell dst hd

/-! ### Bytes -/
def Bytes (l : List Int) : Prop := ∀ x ∈ l, 0 ≤ x ∧ x ≤ 255

theorem strOfNums_inj {a b : List Int} (ha : Bytes a) (hb : Bytes b) (h : strOfNums a = strOfNums b) : a = b := by
  have h' : (a.map fun n => UInt8.ofNat n.toNat) = b.map fun n => UInt8.ofNat n.toNat := by
    have := congrArg (fun s : ByteArray => s.data.toList) h
    simpa [strOfNums] using this
  have hl : a.length = b.length := by simpa using congrArg List.length h'
  refine List.ext_getElem hl fun i h1 h2 => ?_
  have hi : UInt8.ofNat (a[i]).toNat = UInt8.ofNat (b[i]).toNat := by
    have := congrArg (fun t : List UInt8 => t[i]?) h'
    simpa [h1, h2] using this
  have e := congrArg UInt8.toNat hi
  simp only [UInt8.toNat_ofNat'] at e
  have := ha _ (List.getElem_mem h1); have := hb _ (List.getElem_mem h2)
  omega

theorem strOfNums_toList (a : List Int) : (strOfNums a).toList = a.map fun n => UInt8.ofNat n.toNat := by rw [ByteArray.toList_eq]; rfl

theorem strOfNums_eq {a b : List Int} (ha : Bytes a) (hb : Bytes b) (r : Bool) (hr : r = true ↔ a = b) : ((strOfNums a).toList == (strOfNums b).toList) = r := by
  rw [Bool.eq_iff_iff, hr, beq_iff_eq]
  refine ⟨fun h => strOfNums_inj ha hb ?_, fun h => by rw [h]⟩
  rw [strOfNums_toList, strOfNums_toList] at h
  unfold strOfNums
  rw [h]

/-! ### Blocks that are written -/
theorem heap_set {w : World} {b : Nat} {c : Array Value} {t : TypeId} (h : w.heap[b]? = some (.cells c t (0, 0))) (i : Nat) (v : Value) :
    (w.setCell ⟨b, i, none⟩ v).heap[b]? = some (.cells (c.setIfInBounds i v) t (0, 0)) := by
  have hlt := lt_of_block h
  have h' : w.heap[b] = .cells c t (0, 0) := by simpa [Array.getElem?_eq_getElem hlt] using h
  show (w.heap.modify b _)[b]? = _
  rw [Array.getElem?_eq_getElem (by simpa using hlt), Array.getElem_modify_self, h']
  rfl

theorem cell_set_other {w : World} {b g i j : Nat} {v : Value} (h : g ≠ b) : (w.setCell ⟨b, i, none⟩ v).cell? ⟨g, j, none⟩ = w.cell? ⟨g, j, none⟩ :=
  World.cell?_setCell_other _ _ _ _ (by intro e; injection e with e1; exact h e1.symm)

/-- A struct's block. -/
def Str (w : World) (b : Nat) (t : TypeId) (cs : Array Value) : Prop := w.heap[b]? = some (.cells cs t (0, 0))

theorem Str.cell {w : World} {b : Nat} {t : TypeId} {cs : Array Value} (h : Str w b t cs) (i : Nat) {v : Value} (hv : cs[i]? = some v) : w.cell? ⟨b, i, none⟩ = some v := by
  unfold Str at h; simp [World.cell?, h, hv]
theorem Str.free {w : World} {b : Nat} {t : TypeId} {cs : Array Value} (h : Str w b t cs) (i : Nat) : w.frozen? ⟨b, i, none⟩ = false := by
  unfold Str at h; simp [World.frozen?, h]
theorem Str.lt {w : World} {b : Nat} {t : TypeId} {cs : Array Value} (h : Str w b t cs) : b < w.heap.size := lt_of_block h
theorem Str.set {w : World} {b : Nat} {t : TypeId} {cs : Array Value} (h : Str w b t cs) (i : Nat) (v : Value) : Str (w.setCell ⟨b, i, none⟩ v) b t (cs.setIfInBounds i v) := heap_set h i v
theorem Str.drew {w : World} {b : Nat} {t : TypeId} {cs : Array Value} (h : Str w b t cs) : Str w.drew b t cs := h
theorem Str.alloc {w : World} {b : Nat} {t : TypeId} {cs : Array Value} (h : Str w b t cs) (o : Obj) : Str (w.alloc o) b t cs := by
  unfold Str; rw [Below.heap_alloc _ _ _ h.lt]; exact h
theorem Str.keep {w w' : World} {b : Nat} {t : TypeId} {cs : Array Value} {row : Option Nat} (h : Str w b t cs) (g : w.grownBy w' row) (hne : some b ≠ row) : Str w' b t cs := by
  unfold Str; rw [g.block b h.lt hne]; exact h
theorem Str.below {w w' : World} {b : Nat} {t : TypeId} {cs : Array Value} {B : Nat} (h : Str w b t cs) (g : Below B w w') (hb : b < B) : Str w' b t cs := by
  unfold Str; rw [g.block b hb]; exact h
theorem Str.new (w : World) (t : TypeId) (cs : Array Value) : Str (w.alloc (.cells cs t)) w.heap.size t cs := heap_alloc_new w _

/-- The call wrote one block, and made new ones at most. -/
theorem grown_set {w wx : World} {b i : Nat} {v : Value} (h : w.grownBy wx (some b)) : w.grownBy (wx.setCell ⟨b, i, none⟩ v) (some b) :=
  ⟨h.os, h.tape, h.output, by have := h.size; simp [World.setCell]; exact this, fun k hk hne => by rw [Below.heap_setCell _ _ _ _ (by intro e; exact hne (by simp [e]))]; exact h.block k hk hne⟩
theorem grown_drew {w wx : World} {row : Option Nat} (h : w.grownBy wx row) : w.grownBy wx.drew row := ⟨h.os, h.tape, h.output, h.size, h.block⟩
theorem grown_alloc {w wx : World} {row : Option Nat} (h : w.grownBy wx row) (o : Obj) : w.grownBy (wx.alloc o) row :=
  ⟨h.os, h.tape, h.output, by have := h.size; simp; omega, fun k hk hne => by rw [Below.heap_alloc _ _ _ (by have := h.size; omega)]; exact h.block k hk hne⟩
theorem grown_trans {w wx wy : World} {row : Option Nat} (h : w.grownBy wx row) (g : wx.grownBy wy row) : w.grownBy wy row :=
  ⟨g.os.trans h.os, g.tape.trans h.tape, g.output.trans h.output, Nat.le_trans h.size g.size, fun k hk hne => (g.block k (by have := h.size; omega) hne).trans (h.block k hk hne)⟩

/-- What a call leaves of a struct. -/
structure Wrote (w w' : World) (b : Nat) (t : TypeId) (cs : Array Value) : Prop where
  str : Str w' b t cs
  grown : w.grownBy w' (some b)

theorem Wrote.refl {w : World} {b : Nat} {t : TypeId} {cs : Array Value} (h : Str w b t cs) : Wrote w w b t cs := ⟨h, World.grownBy.refl _ _⟩
theorem Wrote.set {w wx : World} {b : Nat} {t : TypeId} {cs : Array Value} (h : Wrote w wx b t cs) (i : Nat) (v : Value) : Wrote w (wx.setCell ⟨b, i, none⟩ v) b t (cs.setIfInBounds i v) := ⟨h.str.set i v, grown_set h.grown⟩
theorem Wrote.drew {w wx : World} {b : Nat} {t : TypeId} {cs : Array Value} (h : Wrote w wx b t cs) : Wrote w wx.drew b t cs := ⟨h.str, grown_drew h.grown⟩
theorem Wrote.trans {w wx wy : World} {b : Nat} {t : TypeId} {cs ds : Array Value} (h : Wrote w wx b t cs) (g : Wrote wx wy b t ds) : Wrote w wy b t ds := ⟨g.str, grown_trans h.grown g.grown⟩
theorem Wrote.eq {w w' : World} {b : Nat} {t : TypeId} {cs ds : Array Value} (h : Wrote w w' b t cs) (e : cs = ds) : Wrote w w' b t ds := e ▸ h
theorem Wrote.below {w w' : World} {b : Nat} {t : TypeId} {cs : Array Value} {B : Nat} {W : World} (h : Wrote w w' b t cs) (hb : Below B W w) (hB : B ≤ w.heap.size) (hbB : B ≤ b) : Below B W w' :=
  hb.grown h.grown hB (fun k hk => by simp at hk; omega)

/-! ### Small words -/
theorem ret_int {k : IntKind} {a b : Int} (h : a = b) : Ending.returned (.int k a) = .returned (.int k b) := by rw [h]
theorem ret_bool {a b : Bool} (h : a = b) : Ending.returned (.bool a) = .returned (.bool b) := by rw [h]
theorem ret_t2 {k l : IntKind} {a b c d : Int} (h : a = b) (g : c = d) : Ending.returned (.tuple #[.int k a, .int l c]) = .returned (.tuple #[.int k b, .int l d]) := by rw [h, g]
theorem ret_two {k : IntKind} {a b : Int} {p q : Bool} (h : a = b) (g : p = q) : Ending.returned (.tuple #[.int k a, .bool p]) = .returned (.tuple #[.int k b, .bool q]) := by rw [h, g]
theorem int_eq {k : IntKind} {a b : Int} (h : a = b) : Value.int k a = .int k b := by rw [h]
theorem slice_eq {a : Option Addr} {n m c : Nat} (h : n = m) : Value.slice a m c = .slice a n c := by rw [h]
theorem wf_i64 {n : Int} (h : (Lit.int .i64 n).wf = true) : -9223372036854775808 ≤ n ∧ n ≤ 9223372036854775807 := by
  simp [Lit.wf, IntKind.min, IntKind.max, IntKind.signed, IntKind.bits] at h
  exact ⟨by omega, by omega⟩
theorem wf_i32 {n : Int} (h : (Lit.int .i32 n).wf = true) : -2147483648 ≤ n ∧ n ≤ 2147483647 := by
  simp [Lit.wf, IntKind.min, IntKind.max, IntKind.signed, IntKind.bits] at h
  exact ⟨by omega, by omega⟩
theorem wf_u32 {n : Int} (h : (Lit.int .u32 n).wf = true) : 0 ≤ n ∧ n ≤ 4294967295 := by
  simp [Lit.wf, IntKind.min, IntKind.max, IntKind.signed, IntKind.bits] at h
  exact ⟨by omega, by omega⟩
theorem wf_u64 {n : Int} (h : (Lit.int .u64 n).wf = true) : 0 ≤ n ∧ n ≤ 18446744073709551615 := by
  simp [Lit.wf, IntKind.min, IntKind.max, IntKind.signed, IntKind.bits] at h
  exact ⟨by omega, by omega⟩
theorem wf_u16 {n : Int} (h : (Lit.int .u16 n).wf = true) : 0 ≤ n ∧ n ≤ 65535 := by
  simp [Lit.wf, IntKind.min, IntKind.max, IntKind.signed, IntKind.bits] at h
  exact ⟨by omega, by omega⟩
theorem wf_u8 {n : Int} (h : (Lit.int .u8 n).wf = true) : 0 ≤ n ∧ n ≤ 255 := by
  simp [Lit.wf, IntKind.min, IntKind.max, IntKind.signed, IntKind.bits] at h
  exact ⟨by omega, by omega⟩

/-! ### A slice of arrays of integers: its numbers one behind the other -/
/-- The value is a slice of n arrays of m numbers each, which are zs, one behind the other. -/
def RdN (k : IntKind) (m : Nat) (w : World) (v : Value) (n : Nat) (zs : List Int) : Prop :=
  zs.length = n * m ∧ ((v = .slice none 0 0 ∧ n = 0) ∨ ∃ x c, v = .slice (some x) n c ∧ n ≤ c ∧ c ≤ maxLen ∧ ∀ t, t < zs.length → w.cell? (x.add t) = some (.int k (zs.getD t 0)))

theorem RdN.src {k : IntKind} {m : Nat} {w : World} {v : Value} {n : Nat} {zs : List Int} (h : RdN k m w v n zs) : SrcAt w v n (zs.map (Value.int k)) := by
  obtain ⟨hl, ⟨rfl, rfl⟩ | ⟨x, c, rfl, _, _, hc⟩⟩ := h
  · obtain rfl : zs = [] := List.eq_nil_of_length_eq_zero (by simpa using hl)
    exact .inl ⟨rfl, rfl, rfl⟩
  · refine .inr ⟨x, c, rfl, fun j u hj => ?_⟩
    have hlt : j < zs.length := by
      rcases Nat.lt_or_ge j zs.length with h | h
      · exact h
      · rw [List.getElem?_eq_none (by simpa using h)] at hj; simp at hj
    rw [hc j hlt]
    simp [hlt] at hj
    simp [← hj, hlt]

theorem RdN.keep {k : IntKind} {m : Nat} {w w' : World} {v : Value} {n : Nat} {zs : List Int} (h : RdN k m w v n zs) (hk : ∀ a : Addr, a.block < w.heap.size → w'.cell? a = w.cell? a) : RdN k m w' v n zs := by
  obtain ⟨hl, ⟨rfl, rfl⟩ | ⟨x, c, rfl, h1, h2, hc⟩⟩ := h
  · exact ⟨hl, .inl ⟨rfl, rfl⟩⟩
  · exact ⟨hl, .inr ⟨x, c, rfl, h1, h2, fun j hj => by rw [hk _ (World.block_lt_of_cell? _ _ (hc j hj))]; exact hc j hj⟩⟩
theorem RdN.below {k : IntKind} {m : Nat} {w w' : World} {v : Value} {n : Nat} {zs : List Int} (h : RdN k m w v n zs) (hb : Below w.heap.size w w') : RdN k m w' v n zs := h.keep fun _ ha => hb.cell ha

theorem RdN.take {k : IntKind} {m : Nat} {w : World} {x : Addr} {n c : Nat} {zs : List Int} (h : RdN k m w (.slice (some x) n c) n zs) (j : Nat) (hj : j ≤ n) : RdN k m w (.slice (some x) j c) j (zs.take (j * m)) := by
  obtain ⟨hl, ⟨h, _⟩ | ⟨x, c', hx, h1, h2, hc⟩⟩ := h
  · simp at h
  · simp only [Value.slice.injEq, Option.some.injEq, true_and] at hx
    obtain ⟨rfl, rfl⟩ := hx
    have hle : j * m ≤ n * m := Nat.mul_le_mul_right m hj
    have hlen : (zs.take (j * m)).length = j * m := by simp; omega
    refine ⟨hlen, .inr ⟨_, _, rfl, by omega, h2, fun t ht => ?_⟩⟩
    rw [hc t (by omega)]
    simp [List.getD, show t < j * m by omega]

theorem RdN.slice {k : IntKind} {m : Nat} {w : World} {v : Value} {n : Nat} {zs : List Int} (h : RdN k m w v n zs) : ∃ a c, v = .slice a n c ∧ n ≤ c := by
  obtain ⟨hl, ⟨rfl, rfl⟩ | ⟨x, c, rfl, h1, h2, hc⟩⟩ := h
  · exact ⟨none, 0, rfl, Nat.le_refl _⟩
  · exact ⟨some x, c, rfl, h1⟩
theorem RdN.take' {k : IntKind} {m : Nat} {w : World} {a : Option Addr} {n c : Nat} {zs : List Int} (h : RdN k m w (.slice a n c) n zs) (j : Nat) (hj : j ≤ n) : RdN k m w (.slice a j c) j (zs.take (j * m)) := by
  cases a with
  | some x => exact h.take j hj
  | none =>
    obtain ⟨hl, ⟨h, h0⟩ | ⟨x, c', hx, _⟩⟩ := h
    · obtain rfl : j = 0 := by omega
      simp only [Value.slice.injEq] at h
      obtain ⟨-, -, rfl⟩ := h
      exact ⟨by simp, .inl ⟨rfl, rfl⟩⟩
    · simp at hx

/-- What is owned, of arrays: where it lies. -/
theorem ownedN_cells {k : IntKind} {w : World} {base : Nat} {e : TypeId} {v : Value} {n m : Nat} {zs : List Int} (h : w.ownsRow base e m v n (zs.map (Value.int k))) (hn : 0 < n) :
    ∃ g cap, v = .slice (some ⟨g, 0, none⟩) n cap ∧ base ≤ g ∧ g < w.heap.size ∧ n ≤ cap ∧ zs.length = n * m ∧ ∀ t, t < zs.length → w.cell? ⟨g, t, none⟩ = some (.int k (zs.getD t 0)) := by
  have hl : zs.length = n * m := by simpa using h.1
  rcases h.2 with ⟨_, h0⟩ | ⟨g, cap, cur, rfl, hg, hh, hc, _, _, _⟩
  · omega
  · refine ⟨g, cap, rfl, hg, lt_of_block hh, hc, hl, fun t ht => ?_⟩
    rw [World.ownsRow.cellAt h t (by omega)]
    simp [ht]

/-! ### A slice of integers that came in (the words of the kit's shell) -/
/-- It is nil; or it leads to a row of 'cap' cells, the numbers 'zs' (the first 'len' are its elements, the rest its spare room), each fitting its kind. -/
def IsRow (k : IntKind) (w : World) (a : Option Addr) (len cap : Nat) (zs : List Int) : Prop :=
  (a = none ∧ len = 0 ∧ cap = 0 ∧ zs = []) ∨
  ∃ x, a = some x ∧ len ≤ cap ∧ cap ≤ maxLen ∧ zs.length = cap ∧ (∀ i, i < zs.length → w.cell? (x.add i) = some (.int k (zs.getD i 0))) ∧ ∀ n ∈ zs, (Lit.int k n).wf = true

theorem IsRow.rd {k : IntKind} {w : World} {a : Option Addr} {len cap : Nat} {zs : List Int} (h : IsRow k w a len cap zs) : ∃ l, l.length = len ∧ Rd k w (.slice a len cap) l ∧ ∀ n ∈ l, (Lit.int k n).wf = true := by
  rcases h with ⟨rfl, rfl, rfl, rfl⟩ | ⟨x, rfl, hl, hm, hz, hcell, hwz⟩
  · exact ⟨[], rfl, Rd.nil _ _, fun _ h => by cases h⟩
  · have hlen : (zs.take len).length = len := by simp; omega
    refine ⟨zs.take len, hlen, .inr ⟨x, cap, by rw [hlen], by omega, hm, fun j hj => ?_⟩, fun n hn => hwz n (List.mem_of_mem_take hn)⟩
    rw [hcell j (by omega)]
    simp [List.getD, show j < len by omega]

end Go.Proofs.Ytohfphcgbgkmeac

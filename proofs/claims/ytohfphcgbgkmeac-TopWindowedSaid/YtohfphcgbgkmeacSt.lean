/- TopWindowed: the state at a round's head. -/
import Derived.Test.YtohfphcgbgkmeacWin
namespace Go.Proofs.Ytohfphcgbgkmeac
open Go.RowKit

/-- The state at a round's head. -/
structure St (W : World) (bw bc bd g : Nat) (zs : List Int) (S out inn no ni : Int) (kn : Bool) (count left : Int) (drain : Bool) (own hers : Int) (yes : Bool) (wr : World) : Prop where
  win : Str wr bw 46 (winC S no ni kn out inn)
  cre : Str wr bc 48 (creC count left drain)
  crd : Str wr bd 48 (creC own hers yes)
  arr : ∀ t, t < zs.length → wr.cell? ⟨g, t, none⟩ = some (.int .u32 (zs.getD t 0))
  bel : Below W.heap.size W wr
  dis : bw ≠ bc ∧ bc ≠ bd ∧ bw ≠ bd ∧ g ≠ bw ∧ g ≠ bc ∧ g ≠ bd ∧ W.heap.size ≤ bw ∧ W.heap.size ≤ bc ∧ W.heap.size ≤ bd
  bnd : 0 ≤ out ∧ out ≤ 256 ∧ 0 ≤ inn ∧ inn ≤ 256 ∧ 0 ≤ no ∧ no ≤ 4294967295 ∧ 0 ≤ ni ∧ ni ≤ 4294967295 ∧ 0 ≤ count ∧ count ≤ 4294967295 ∧ 0 ≤ left ∧ left ≤ 1000 ∧ 0 ≤ own ∧ own ≤ 4294967295 ∧ 0 ≤ hers ∧ hers ≤ 1000 ∧ 1 ≤ S ∧ S ≤ 256
  unk : kn = false → ni = 0

theorem St.move {W : World} {bw bc bd g : Nat} {zs : List Int} {S out inn no ni : Int} {kn : Bool} {count left : Int} {drain : Bool} {own hers : Int} {yes : Bool} {wr wx : World} (h : St W bw bc bd g zs S out inn no ni kn count left drain own hers yes wr) (hb : Below wr.heap.size wr wx) :
    St W bw bc bd g zs S out inn no ni kn count left drain own hers yes wx :=
  ⟨h.win.below hb h.win.lt, h.cre.below hb h.cre.lt, h.crd.below hb h.crd.lt, fun t ht => by rw [hb.cell (World.block_lt_of_cell? _ _ (h.arr t ht))]; exact h.arr t ht, h.bel.trans (hb.mono h.bel.size), h.dis, h.bnd, h.unk⟩


theorem grown_cell {w w' : World} {row : Option Nat} (g : w.grownBy w' row) {b t : Nat} (hne : some b ≠ row) {v : Value} (hc : w.cell? ⟨b, t, none⟩ = some v) : w'.cell? ⟨b, t, none⟩ = some v := by
  have hb : b < w.heap.size := World.block_lt_of_cell? _ _ hc
  rw [World.cell?_of_block (w := w) (a := ⟨b, t, none⟩) (g.block b hb hne)]; exact hc

theorem St.wroteW {no' ni' out' inn' : Int} {kn' : Bool} {W : World} {bw bc bd g : Nat} {zs : List Int} {S out inn no ni : Int} {kn : Bool} {count left : Int} {drain : Bool} {own hers : Int} {yes : Bool} {wr wx : World} (h : St W bw bc bd g zs S out inn no ni kn count left drain own hers yes wr) (hw : Wrote wr wx bw 46 (winC S no' ni' kn' out' inn'))
    (hb : 0 ≤ out' ∧ out' ≤ 256 ∧ 0 ≤ inn' ∧ inn' ≤ 256 ∧ 0 ≤ no' ∧ no' ≤ 4294967295 ∧ 0 ≤ ni' ∧ ni' ≤ 4294967295) (hu : kn' = false → ni' = 0) :
    St W bw bc bd g zs S out' inn' no' ni' kn' count left drain own hers yes wx := by
  obtain ⟨d1, d2, d3, d4, d5, d6, d7, d8, d9⟩ := h.dis
  have hbn := h.bnd
  exact ⟨hw.str, h.cre.keep hw.grown (by simp; omega), h.crd.keep hw.grown (by simp; omega), fun t ht => grown_cell hw.grown (by simp; omega) (h.arr t ht), h.bel.grown hw.grown h.bel.size (fun k hk => by simp at hk; omega), h.dis, by omega, hu⟩

theorem St.wroteC {count' left' : Int} {drain' : Bool} {W : World} {bw bc bd g : Nat} {zs : List Int} {S out inn no ni : Int} {kn : Bool} {count left : Int} {drain : Bool} {own hers : Int} {yes : Bool} {wr wx : World} (h : St W bw bc bd g zs S out inn no ni kn count left drain own hers yes wr) (hw : Wrote wr wx bc 48 (creC count' left' drain'))
    (hb : 0 ≤ count' ∧ count' ≤ 4294967295 ∧ 0 ≤ left' ∧ left' ≤ 1000) :
    St W bw bc bd g zs S out inn no ni kn count' left' drain' own hers yes wx := by
  obtain ⟨d1, d2, d3, d4, d5, d6, d7, d8, d9⟩ := h.dis
  have hbn := h.bnd
  exact ⟨h.win.keep hw.grown (by simp; omega), hw.str, h.crd.keep hw.grown (by simp; omega), fun t ht => grown_cell hw.grown (by simp; omega) (h.arr t ht), h.bel.grown hw.grown h.bel.size (fun k hk => by simp at hk; omega), h.dis, by omega, h.unk⟩

theorem St.wroteD {own' hers' : Int} {yes' : Bool} {W : World} {bw bc bd g : Nat} {zs : List Int} {S out inn no ni : Int} {kn : Bool} {count left : Int} {drain : Bool} {own hers : Int} {yes : Bool} {wr wx : World} (h : St W bw bc bd g zs S out inn no ni kn count left drain own hers yes wr) (hw : Wrote wr wx bd 48 (creC own' hers' yes'))
    (hb : 0 ≤ own' ∧ own' ≤ 4294967295 ∧ 0 ≤ hers' ∧ hers' ≤ 1000) :
    St W bw bc bd g zs S out inn no ni kn count left drain own' hers' yes' wx := by
  obtain ⟨d1, d2, d3, d4, d5, d6, d7, d8, d9⟩ := h.dis
  have hbn := h.bnd
  exact ⟨h.win.keep hw.grown (by simp; omega), h.cre.keep hw.grown (by simp; omega), hw.str, fun t ht => grown_cell hw.grown (by simp; omega) (h.arr t ht), h.bel.grown hw.grown h.bel.size (fun k hk => by simp at hk; omega), h.dis, by omega, h.unk⟩

end Go.Proofs.Ytohfphcgbgkmeac

/- Frames of which only some slots are told; pieces of a function's code. -/
import Derived.Test.YtohfphcgbgkmeacKit
import Derived.Deep.DeepCutAuto
namespace Go.Proofs.Ytohfphcgbgkmeac
open Go.RowKit

/-- What a slot holds. -/
def sl (a : Act) (i : Nat) : Value := a.tmps.getD i undef
theorem sl_mk (l : List Value) (d : List Deferred) (i : Nat) : sl ⟨l.toArray, d⟩ i = l.getD i undef := by simp [sl, List.getD, Array.getD_eq_getD_getElem?]
/-- A frame of so many slots, nothing deferred. -/
structure Fr (N : Nat) (a : Act) : Prop where
  size : a.tmps.size = N
  defers : a.defers = []

theorem Fr.lit {N : Nat} {a : Act} (h : Fr N a) : a = ⟨((List.range N).map (sl a)).toArray, []⟩ := by
  obtain ⟨t, d⟩ := a
  obtain ⟨h1, h2⟩ := h
  simp only at h1 h2
  subst h2
  congr 1
  apply Array.ext
  · simp [h1]
  · intro i h3 h4
    simp [sl, Array.getD, h3]

theorem Fr.wp {N : Nat} {a : Act} {P : Program} {c : Code} {Q : Exit → Act → World → Prop} {w : World} (h : Fr N a)
    (hw : Code.wp P c Q ⟨((List.range N).map (sl a)).toArray, []⟩ w) : Code.wp P c Q a w := by
  rw [h.lit]; exact hw

/-! ### Pieces of code -/
def firstIs (n : Nat) : Code → Bool
  | .region m _ _ => m == n
  | .seq a _ => firstIs n a
  | .block _ c => firstIs n c
  | .loop c => firstIs n c
  | .scope c => firstIs n c
  | _ => false
/-- The block of a number. -/
def blockOf (n : Nat) : Code → Option Code
  | .loop c => blockOf n c
  | .seq a b => match blockOf n a with
    | some c => some c
    | none => blockOf n b
  | .block m c => if m = n then some (.block m c) else blockOf n c
  | .scope c => blockOf n c
  | .cond _ a b => match blockOf n a with
    | some c => some c
    | none => blockOf n b
  | .rangeFunc _ _ _ c => blockOf n c
  | _ => none
/-- From a region to the end of the sequence in which it stands. -/
def fromR (n : Nat) : Code → Option Code
  | .loop c => fromR n c
  | .seq a b => if firstIs n a then some (.seq a b) else match fromR n a with
    | some c => some c
    | none => fromR n b
  | .block _ c => fromR n c
  | .scope c => fromR n c
  | .cond _ a b => match fromR n a with
    | some c => some c
    | none => fromR n b
  | .region m o d => if m = n then some (.region m o d) else none
  | .rangeFunc _ _ _ c => fromR n c
  | _ => none
/-- The loop whose body begins with a region. -/
def loopOf (n : Nat) : Code → Option Code
  | .loop c => if firstIs n c then some (.loop c) else loopOf n c
  | .seq a b => match loopOf n a with
    | some c => some c
    | none => loopOf n b
  | .block _ c => loopOf n c
  | .scope c => loopOf n c
  | .cond _ a b => match loopOf n a with
    | some c => some c
    | none => loopOf n b
  | .rangeFunc _ _ _ c => loopOf n c
  | _ => none
def inLoop : Code → Code
  | .loop c => c
  | c => c
def inBlk : Code → Code
  | .block _ c => c
  | c => c
end Go.Proofs.Ytohfphcgbgkmeac

/- TopWindowed: the relation at a joint, pieces of the code. -/
import Derived.Test.YtohfphcgbgkmeacSt
import Derived.Test.YtohfphcgbgkmeacCre
import Derived.Test.YtohfphcgbgkmeacFr
import Derived.Deep.QuietTactic
import Derived.BigQuiet
namespace Go.Proofs.Ytohfphcgbgkmeac
open Go.RowKit

noncomputable def B2 : Code := ((Try.f3.body.bind (blockOf 2)).getD .skip)
noncomputable def B1 : Code := inBlk ((Try.f3.body.bind (blockOf 1)).getD .skip)
noncomputable def TL : Code := ((Try.f3.body.bind (fromR 83)).getD .skip)
noncomputable def LP : Code := inLoop ((Try.f3.body.bind (loopOf 18)).getD .skip)

theorem creC_eq {a a' c c' : Int} {d d' : Bool} (h : a = a') (h' : c = c') (h2 : d = d') : creC a c d = creC a' c' d' := by rw [h, h', h2]
theorem farf_eq (a b en F : Int) (w : World) (hF : Hid (F = farV en b)) (h : a = en) :
    Calls Try.prog 5 #[.int .u32 a, .int .u32 b] w fun e w' => e = .returned (.int .u32 F) ∧ w = w' := by
  subst h; rw [hF.out]; exact farf_any a b w
theorem farf_q (a b en F : Int) (w : World) (hF : Hid (F = farV en b)) (h : a = en) :
    Calls Try.prog 5 #[.int .u32 a, .int .u32 b] w fun e w' => e = .returned (.int .u32 F) ∧ w' = w :=
  (farf_eq a b en F w hF h).mono fun _ _ ⟨h1, h2⟩ => ⟨h1, h2.symm⟩
theorem Str.drewN {w : World} {b : Nat} {t : TypeId} {cs : Array Value} (h : Str w b t cs) (n : Nat) : Str (w.drewN n) b t cs := h
theorem St.drewN {W : World} {bw bc bd g : Nat} {zs : List Int} {S out inn no ni : Int} {kn : Bool} {count left : Int} {drain : Bool} {own hers : Int} {yes : Bool} {wr : World} (h : St W bw bc bd g zs S out inn no ni kn count left drain own hers yes wr) (n : Nat) :
    St W bw bc bd g zs S out inn no ni kn count left drain own hers yes (wr.drewN n) :=
  ⟨h.win, h.cre, h.crd, h.arr, ⟨h.bel.os, h.bel.tape, h.bel.output, h.bel.size, h.bel.block⟩, h.dis, h.bnd, h.unk⟩
theorem ctold_eq {w : World} {b : Nat} {n l : Int} {d : Bool} (a x : Int) (dr : Bool) (h : Str w b 48 (creC n l d)) (x0 : 0 ≤ x) (x1 : x ≤ 4294967295) (n0 : 0 ≤ n) (n1 : n ≤ 4294967295) (m en : Int) (he : (a + x) % 4294967296 = en)
    (hm : Hid (m = outOf n en 1000)) :
    Calls Try.prog 12 #[.pointer (some ⟨b, 0, none⟩), .int .u32 a, .int .u32 x, .bool dr] w fun e w' => e = .returned (.tuple #[]) ∧ Wrote w w' b 48 (creC n m dr) := by
  subst he; exact ctold_any a x dr h x0 x1 n0 n1 m hm

/-- What holds at a joint. -/
def WI (w0 : World) (g : Nat) (zs : List Int) (S : Int) (v89 v90 v91 : Value) (a : Act) (w : World) : Prop :=
  ∃ (out inn no ni count left own hers : Int) (kn drain yes : Bool), Fr 420 a ∧ sl a 5 = .pointer (some ⟨w0.heap.size, 0, none⟩) ∧ sl a 6 = .int .u32 S ∧ sl a 7 = .int .u32 out ∧ sl a 8 = .int .u32 inn ∧ sl a 9 = .int .u32 no ∧ sl a 10 = .int .u32 ni ∧ sl a 11 = .bool kn ∧ sl a 12 = .func (.func 5) #[] #[] ∧ sl a 13 = .int .u32 count ∧ sl a 14 = .pointer (some ⟨w0.heap.size + 1, 0, none⟩) ∧ sl a 15 = .pointer (some ⟨w0.heap.size + 1 + 1, 0, none⟩) ∧ sl a 16 = .int .u32 left ∧ sl a 17 = .bool drain ∧ sl a 18 = .int .u32 hers ∧ sl a 19 = .bool yes ∧ sl a 20 = .int .u32 own ∧ sl a 89 = v89 ∧ sl a 90 = v90 ∧ sl a 91 = v91 ∧ St w0 w0.heap.size (w0.heap.size + 1) (w0.heap.size + 1 + 1) g zs S out inn no ni kn count left drain own hers yes w
end Go.Proofs.Ytohfphcgbgkmeac

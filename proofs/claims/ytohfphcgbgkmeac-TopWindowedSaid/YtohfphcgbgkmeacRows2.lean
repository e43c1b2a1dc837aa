/- An argument that is a slice of arrays of numbers, opened. -/
import Derived.Test.YtohfphcgbgkmeacKit
import Derived.Deep.Slices
import Derived.OpenShut
import Derived.ChangeSlices
import Derived.DataReads
namespace Go.Proofs.Ytohfphcgbgkmeac
open Go.ChangeShapes Go.WideShapes Go.Deep Go.RowKit

theorem rows_open {H : Type} {enc : TypeId × Value → H} {P : Program} {w : World} {base : Nat} {held : Bool} {fuel : Nat} {t e el : TypeId} {k : IntKind} {m len cap : Nat} {A : Option Addr} {x : DataW H × List MemPlace}
    (ht : P.underlying t = some (.slice e)) (he : P.underlying e = some (.array m el)) (hel : P.underlying el = some (.int k)) (hc : P.cellsOf e = m) (hc1 : P.cellsOf el = 1) (hm0 : 0 < m)
    (h : DataW.trod enc P w base (fun _ => true) held fuel t [.slice A len cap] = some x) :
    ∃ zs, RdN k m w (.slice A len cap) len zs ∧ ∀ z ∈ zs, (Lit.int k z).wf = true := by
  rcases open_slice ht h with ⟨h0, _⟩ | ⟨a, len', cap', mm, n, D, Pl, h0, _, hl, hm, hmm, _, hi⟩
  · simp only [List.cons.injEq, Value.slice.injEq, and_true] at h0
    obtain ⟨rfl, rfl, rfl⟩ := h0
    exact ⟨[], ⟨by simp, .inl ⟨rfl, rfl⟩⟩, fun z hz => by cases hz⟩
  · simp only [List.cons.injEq, Value.slice.injEq, and_true] at h0
    obtain ⟨rfl, rfl, rfl⟩ := h0
    have each : ∀ t : Nat, ∃ z : Int, t < len * m → w.cell? (a.add t) = some (.int k z) ∧ (Lit.int k z).wf = true := by
      intro t
      by_cases ht : t < len * m
      case neg => exact ⟨0, fun h => absurd h ht⟩
      have hdiv : t / m < len := Nat.div_lt_of_lt_mul (by rw [Nat.mul_comm]; exact ht)
      obtain ⟨cs', hcs, htr⟩ := hi (t / m) (by rw [hmm]; simp; omega)
      rw [hc] at hcs
      obtain ⟨_, hlen, hat⟩ := World.cells?_some hcs
      obtain ⟨xs, m', _, _, _, hxl, hx⟩ := DataW.trod_array he htr
      have hj : t % m < m := Nat.mod_lt _ hm0
      have hxj := hx (t % m) hj
      rw [hc1, Nat.mul_one] at hxj
      have hone : (cs'.drop (t % m)).take 1 = [cs'[t % m]'(by omega)] := by
        rw [List.drop_eq_getElem_cons (by omega)]; rfl
      rw [hone, List.getElem?_eq_getElem (by omega)] at hxj
      obtain ⟨z, hz, _, hwf⟩ := DataW.trod_int hel hxj
      refine ⟨z, fun _ => ⟨?_, hwf⟩⟩
      have hcell := hat (t % m) hj
      rw [add_add, List.getElem?_eq_getElem (by omega)] at hcell
      have hdm : t / m * m + t % m = t := by rw [Nat.mul_comm]; exact Nat.div_add_mod t m
      rw [hdm] at hcell
      rw [hcell]
      simp only [List.cons.injEq, and_true] at hz
      rw [hz]
    refine ⟨(List.range (len * m)).map fun t => (each t).choose, ⟨by simp, .inr ⟨a, cap, rfl, hl, hm, fun t ht => ?_⟩⟩, fun z hz => ?_⟩
    · have ht' : t < len * m := by simpa using ht
      have h1 := ((each t).choose_spec ht').1
      rw [h1]
      simp [List.getD, ht']
    · obtain ⟨t, ht, rfl⟩ := List.mem_map.1 hz
      exact ((each t).choose_spec (by simpa using ht)).2
end Go.Proofs.Ytohfphcgbgkmeac

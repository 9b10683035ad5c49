/- Slices of structs whose fields take more cells than one, opened; an array's value, opened. -/
import Derived.Test.YtibmhadnfggmlaaDoorOpen
namespace Go.Proofs.YtibmhadnfggmlaaDoor
set_option linter.unusedVariables false
set_option linter.unusedSimpArgs false
set_option linter.unusedSectionVars false
open Go.ChangeShapes Go.WideShapes Go.Deep
section
variable {H : Type} {enc : TypeId × Value → H} {P : Program} {w : World} {base : Nat} {spare : Nat → Bool} {held : Bool}
theorem open_elems {t e : TypeId} {fs : Array Field} {fuel a len cap} {x : DataW H × List MemPlace} {S : Nat} (ht : P.underlying t = some (.slice e)) (he : P.underlying e = some (.struct fs)) (hC : P.cellsOf e = S) (hS : 0 < S)
    (h : DataW.trod enc P w base spare held fuel t [.slice a len cap] = some x) :
    len ≤ cap ∧ cap ≤ maxLen ∧ ∀ i, i < len → ∃ b off cs n y, a = some ⟨b, off, none⟩ ∧ cs.length = S ∧ (∀ j, j < S → w.cell? ⟨b, off + i * S + j, none⟩ = cs[j]?) ∧ DataW.trod enc P w base spare held n e cs = some y := by
  rcases open_slice ht h with ⟨hc, _⟩ | ⟨ad, l, c, m, n, D, Pl, hc, _, hl, hm, hmm, _, hx⟩
  · simp at hc
    obtain ⟨rfl, rfl, rfl⟩ := hc
    exact ⟨Nat.le_refl _, Nat.zero_le _, fun i hi => by omega⟩
  · simp at hc
    obtain ⟨rfl, rfl, rfl⟩ := hc
    refine ⟨hl, hm, fun i hi => ?_⟩
    obtain ⟨cs, hcs, htr⟩ := hx i (by rw [hmm]; split <;> omega)
    obtain ⟨_, hlen, hcell⟩ := World.cells?_some hcs
    rw [hC] at hlen hcell hcs
    obtain ⟨b, off, rfl⟩ : ∃ b off, ad = ⟨b, off, none⟩ := by
      obtain ⟨cs0, hcs0, _⟩ := hx 0 (by rw [hmm]; split <;> omega)
      obtain ⟨_, hlen0, hcell0⟩ := World.cells?_some hcs0
      rw [hC] at hlen0
      have c0 := hcell0 0 (by rw [hC]; exact hS)
      rw [Nat.zero_mul, add_zero, add_zero, List.getElem?_eq_getElem (by omega)] at c0
      exact spot_none c0
    refine ⟨b, off, cs, _, _, rfl, hlen, fun j hj => ?_, htr⟩
    have := hcell j hj
    rw [add_flat, add_flat] at this
    exact this
theorem okWide_arr {r : Reach} {base : Nat} {t : TypeId} {v : Value} {n : Nat} {e : TypeId} (ht : P.underlying t = some (.array n e)) (h : Value.okWide P w r base t v) : ∃ cs, v = .agg cs ∧ cs.size = P.cellsOf t := by
  simp only [Value.okWide, ht] at h
  obtain ⟨cs, h1, h2, _⟩ := h
  exact ⟨cs, h1, h2⟩
end
end Go.Proofs.YtibmhadnfggmlaaDoor

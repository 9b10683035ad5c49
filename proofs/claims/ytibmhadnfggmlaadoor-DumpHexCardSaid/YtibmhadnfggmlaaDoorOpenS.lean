/- A slice of strings that came in. -/
import Derived.Test.YtibmhadnfggmlaaDoorOpen
import Derived.Test.YtibmhadnfggmlaaDoorSplW
import Derived.SliceStrings
namespace Go.Proofs.YtibmhadnfggmlaaDoor
set_option linter.unusedVariables false
set_option linter.unusedSimpArgs false
set_option linter.unusedSectionVars false
open Go.RowKit
set_option linter.unusedVariables false

section
variable {H : Type} {enc : TypeId × Value → H} {W : World} {base : Nat} {spare : Nat → Bool} {held : Bool}
theorem texts_in {fuel : Nat} {a : Option Addr} {len cap : Nat} {x : DataW H × List MemPlace} (h : DataW.trod enc Tryd.prog W base spare held fuel 22 [.slice a len cap] = some x) :
    ∃ ps : List (List Nat), TextsAt W (.slice a len cap) ps ∧ ps.length ≤ maxLen ∧ (∀ p ∈ ps, ∀ x ∈ p, x < 256) ∧ ∀ p ∈ ps, p.length ≤ maxLen := by
  rcases Go.ChangeShapes.open_strings Tryd.underlying22 Tryd.underlying9 (by kernel_rfl) h with ⟨hc, _⟩ | ⟨ad, l', c, ss, hc, _, hl, hm, hss, _, hel, hsz⟩
  · simp at hc
    obtain ⟨rfl, rfl, rfl⟩ := hc
    exact ⟨[], ⟨none, 0, rfl, Nat.le_refl _, fun i hi => by simp at hi⟩, Nat.zero_le _, by simp, by simp⟩
  · simp at hc
    obtain ⟨rfl, rfl, rfl⟩ := hc
    have hle : len ≤ ss.length := by rw [hss]; split <;> omega
    have hpl : ((ss.take len).map bytesOf).length = len := by rw [List.length_map, List.length_take]; omega
    refine ⟨(ss.take len).map bytesOf, ⟨some ad, cap, by rw [hpl], by rw [hpl]; exact hl, fun i hi => ?_⟩, by rw [hpl]; exact Nat.le_trans hl hm, ?_, ?_⟩
    · rw [hpl] at hi
      have c0 := hel 0 (by omega)
      rw [add_zero] at c0
      obtain ⟨b, off, rfl⟩ := spot_none c0
      have ci := hel i (by omega)
      rw [add_flat] at ci
      refine ⟨b, off, rfl, ?_⟩
      rw [ci, List.getElem_map, strOf_bytesOf, List.getElem_take]
      simp [List.getD_eq_getElem?_getD, List.getElem?_eq_getElem (show i < ss.length by omega)]
    · intro p hp
      obtain ⟨s, _, rfl⟩ := List.mem_map.1 hp
      exact bytesOf_lt s
    · intro p hp
      obtain ⟨s, hs, rfl⟩ := List.mem_map.1 hp
      rw [length_bytesOf]
      exact hsz s (List.mem_of_mem_take hs)
end
end Go.Proofs.YtibmhadnfggmlaaDoor

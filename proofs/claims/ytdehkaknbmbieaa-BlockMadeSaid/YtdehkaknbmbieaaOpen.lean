/- Arguments that came in, opened to cells: slices of structs whose fields take a cell each. -/
import Derived.Deep.Slices
import Derived.Deep.Fields
import Derived.ChangeSame
import Derived.ProofKit
import Derived.OpenShut
namespace Go.Proofs.Ytdehkaknbmbieaa
set_option linter.unusedVariables false
set_option linter.unusedSimpArgs false
set_option linter.unusedSectionVars false
open Go.ChangeShapes Go.WideShapes Go.Deep

theorem add_flat (b off k : Nat) : (⟨b, off, none⟩ : Addr).add k = ⟨b, off + k, none⟩ := by unfold Addr.add; split <;> simp_all
theorem spot_none {w : World} {a : Addr} {u : Value} (h : w.cell? a = some u) : ∃ b off, a = ⟨b, off, none⟩ := by
  obtain ⟨b, off, sp⟩ := a
  cases sp with
  | none => exact ⟨b, off, rfl⟩
  | some s =>
    exfalso
    unfold World.cell? at h
    split at h
    · simp at h
    · cases h
theorem add_zero (a : Addr) : a.add 0 = a := by unfold Addr.add; simp

section
variable {H : Type} {enc : TypeId × Value → H} {P : Program} {w : World} {base : Nat} {spare : Nat → Bool} {held : Bool}
/-- A slice of structs: of every element each field's cell, and that it reads as a datum of the field's type. -/
theorem open_recs {t e : TypeId} {fs : Array Field} {fuel a len cap} {x : DataW H × List MemPlace} (ht : P.underlying t = some (.slice e)) (he : P.underlying e = some (.struct fs)) (hone : oneCellFields P fs = true) (hC : P.cellsOf e = fs.size)
    (h : DataW.trod enc P w base spare held fuel t [.slice a len cap] = some x) :
    (a = none → len = 0 ∧ cap = 0) ∧ len ≤ cap ∧ cap ≤ maxLen ∧ ∀ i, i < len → 0 < fs.size → ∃ b off n, a = some ⟨b, off, none⟩ ∧
      ∀ (j : Nat) (f : Field), fs[j]? = some f → ∃ u y, w.cell? ⟨b, off + i * fs.size + j, none⟩ = some u ∧ DataW.trod enc P w base spare held n f.type [u] = some y := by
  rcases open_slice ht h with ⟨hc, _⟩ | ⟨ad, l, c, m, n, D, Pl, hc, _, hl, hm, hmm, _, hx⟩
  · simp at hc
    obtain ⟨rfl, rfl, rfl⟩ := hc
    exact ⟨fun _ => ⟨rfl, rfl⟩, Nat.le_refl _, Nat.zero_le _, fun i hi => by omega⟩
  · simp at hc
    obtain ⟨rfl, rfl, rfl⟩ := hc
    refine ⟨fun h => (by cases h), hl, hm, fun i hi hpos => ?_⟩
    obtain ⟨cs, hcs, htr⟩ := hx i (by rw [hmm]; split <;> omega)
    obtain ⟨_, hlen, hcell⟩ := World.cells?_some hcs
    obtain ⟨ys, k, _, _, _, hyl, hf⟩ := DataW.trod_struct he htr
    rw [hC] at hlen hcell hcs
    obtain ⟨b, off, rfl⟩ : ∃ b off, ad = ⟨b, off, none⟩ := by
      obtain ⟨cs0, hcs0, _⟩ := hx 0 (by rw [hmm]; split <;> omega)
      obtain ⟨_, hlen0, hcell0⟩ := World.cells?_some hcs0
      rw [hC] at hlen0
      have c0 := hcell0 0 (by rw [hC]; exact hpos)
      rw [Nat.zero_mul, add_zero, add_zero, List.getElem?_eq_getElem (by omega)] at c0
      exact spot_none c0
    refine ⟨b, off, k, rfl, fun j f hj => ?_⟩
    obtain ⟨ho, hk⟩ := hone_of hone j f hj
    have hjl : j < fs.size := (Array.getElem?_eq_some_iff.1 hj).1
    have hd := hf j f hj
    rw [ho, hk, List.drop_eq_getElem_cons (by omega)] at hd
    refine ⟨cs[j]'(by omega), ys[j]'(by omega), ?_, ?_⟩
    · have := hcell j hjl
      rw [add_flat, add_flat] at this
      rw [this]; exact List.getElem?_eq_getElem (by omega)
    · rw [List.getElem?_eq_getElem (by omega)] at hd; exact hd
/-- A struct by value: each field reads as a datum of the field's type. -/
theorem open_rec {t : TypeId} {fs : Array Field} {fuel : Nat} {cs : List Value} {x : DataW H × List MemPlace} (he : P.underlying t = some (.struct fs)) (hone : oneCellFields P fs = true) (hlen : cs.length = fs.size)
    (h : DataW.trod enc P w base spare held fuel t cs = some x) :
    ∃ n, ∀ (j : Nat) (f : Field), fs[j]? = some f → ∃ u y, cs[j]? = some u ∧ DataW.trod enc P w base spare held n f.type [u] = some y := by
  obtain ⟨ys, k, _, _, _, hyl, hf⟩ := DataW.trod_struct he h
  refine ⟨k, fun j f hj => ?_⟩
  obtain ⟨ho, hk⟩ := hone_of hone j f hj
  have hjl : j < fs.size := (Array.getElem?_eq_some_iff.1 hj).1
  have hd := hf j f hj
  rw [ho, hk, List.drop_eq_getElem_cons (by omega)] at hd
  refine ⟨cs[j]'(by omega), ys[j]'(by omega), List.getElem?_eq_getElem (by omega), ?_⟩
  rw [List.getElem?_eq_getElem (by omega)] at hd; exact hd
/-- A slice's datum has as many elements as the slice. -/
theorem open_len {t e : TypeId} {fuel a len cap} {x : DataW H × List MemPlace} (ht : P.underlying t = some (.slice e))
    (h : DataW.trod enc P w base spare held fuel t [.slice a len cap] = some x) : len = 0 ∨ ∃ E S, x.1 = .slice E S ∧ E.length = len := by
  rcases open_slice ht h with ⟨hc, _⟩ | ⟨ad, l, c, m, n, D, Pl, hc, _, hl, hm, hmm, rfl, hx⟩
  · simp at hc
    exact .inl hc.2.1
  · simp at hc
    obtain ⟨rfl, rfl, rfl⟩ := hc
    exact .inr ⟨_, _, rfl, by simp⟩
/-- A slice of integers: each one's cell. -/
theorem open_nums {t e : TypeId} {k : IntKind} {fuel a len cap} {x : DataW H × List MemPlace} (ht : P.underlying t = some (.slice e)) (he : P.underlying e = some (.int k)) (hC : P.cellsOf e = 1)
    (h : DataW.trod enc P w base spare held fuel t [.slice a len cap] = some x) :
    len ≤ cap ∧ cap ≤ maxLen ∧ ∃ l : List Int, l.length = len ∧ ∀ i (hi : i < l.length), ∃ b off, a = some ⟨b, off, none⟩ ∧ w.cell? ⟨b, off + i, none⟩ = some (.int k l[i]) ∧ (Lit.int k l[i]).wf = true := by
  rcases open_ints ht he hC h with ⟨hcs, _⟩ | ⟨ad, l', c', zs, hcs, _, hl, hm, hz, _, hcell, hwz⟩
  · simp at hcs
    obtain ⟨rfl, rfl, rfl⟩ := hcs
    exact ⟨Nat.le_refl _, Nat.zero_le _, [], rfl, fun i hi => by simp at hi⟩
  · simp at hcs
    obtain ⟨rfl, rfl, rfl⟩ := hcs
    refine ⟨hl, hm, zs.take len, ?_, fun i hi => ?_⟩
    · rw [List.length_take]; split at hz <;> omega
    · have hi1 : i < len := by rw [List.length_take] at hi; omega
      have hi2 : i < zs.length := by rw [List.length_take] at hi; omega
      have c0 := hcell 0 (by omega)
      rw [add_zero] at c0
      obtain ⟨b, off, rfl⟩ := spot_none c0
      have ci := hcell i hi2
      rw [add_flat] at ci
      have e : (zs.take len)[i] = zs.getD i 0 := by simp [List.getD, hi2]
      refine ⟨b, off, rfl, by rw [e]; exact ci, ?_⟩
      rw [e]
      exact hwz _ (by simp [List.getD, hi2])
end
end Go.Proofs.Ytdehkaknbmbieaa

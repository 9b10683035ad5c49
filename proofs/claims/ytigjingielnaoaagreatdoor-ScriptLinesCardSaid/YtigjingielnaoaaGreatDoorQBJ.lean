/- Arguments that came in, opened to cells: slices of structs whose fields take a cell each. -/
import Derived.Deep.Slices
import Derived.Deep.Fields
import Derived.ChangeSame
import Derived.ProofKit
import Derived.OpenShut
import Derived.ShutString
import Derived.ChangeOld
import Derived.Carry
import Derived.Test.YtigjingielnaoaaGreatDoorSSame
namespace Go.Proofs.YtigjingielnaoaaGreatDoor
set_option linter.unusedVariables false
set_option linter.unusedSimpArgs false
set_option linter.unusedSectionVars false
open Go.ChangeShapes Go.WideShapes Go.Deep

theorem add_flat (b off k : Nat) : (⟨b, off, none⟩ : Addr).add k = ⟨b, off + k, none⟩ := by unfold Addr.add; split <;> simp_all
theorem spot_none {w : World} {a : Addr} {u : Value} (h : w.cell? a = some u) : ∃ b off, a = ⟨b, off, none⟩ := by
  obtain ⟨b, off, sp⟩ := a
  cases sp with
  | none => exact ⟨b, off, rfl⟩
  | some s =>
    exfalso
    unfold World.cell? at h
    split at h
    · simp at h
    · cases h
theorem add_zero (a : Addr) : a.add 0 = a := by unfold Addr.add; simp

section
variable {H : Type} {enc : TypeId × Value → H} {P : Program} {w : World} {base : Nat} {spare : Nat → Bool} {held : Bool}
/-- A struct by value: each field reads as a datum of the field's type. -/
theorem open_rec {t : TypeId} {fs : Array Field} {fuel : Nat} {cs : List Value} {x : DataW H × List MemPlace} (he : P.underlying t = some (.struct fs)) (hone : oneCellFields P fs = true) (hlen : cs.length = fs.size)
    (h : DataW.trod enc P w base spare held fuel t cs = some x) :
    ∃ n, ∀ (j : Nat) (f : Field), fs[j]? = some f → ∃ u y, cs[j]? = some u ∧ DataW.trod enc P w base spare held n f.type [u] = some y := by
  obtain ⟨ys, k, _, _, _, hyl, hf⟩ := DataW.trod_struct he h
  refine ⟨k, fun j f hj => ?_⟩
  obtain ⟨ho, hk⟩ := hone_of hone j f hj
  have hjl : j < fs.size := (Array.getElem?_eq_some_iff.1 hj).1
  have hd := hf j f hj
  rw [ho, hk, List.drop_eq_getElem_cons (by omega)] at hd
  refine ⟨cs[j]'(by omega), ys[j]'(by omega), List.getElem?_eq_getElem (by omega), ?_⟩
  rw [List.getElem?_eq_getElem (by omega)] at hd; exact hd
/-- A slice of integers: each one's cell. -/
theorem open_nums {t e : TypeId} {k : IntKind} {fuel a len cap} {x : DataW H × List MemPlace} (ht : P.underlying t = some (.slice e)) (he : P.underlying e = some (.int k)) (hC : P.cellsOf e = 1)
    (h : DataW.trod enc P w base spare held fuel t [.slice a len cap] = some x) :
    len ≤ cap ∧ cap ≤ maxLen ∧ ∃ l : List Int, l.length = len ∧ ∀ i (hi : i < l.length), ∃ b off, a = some ⟨b, off, none⟩ ∧ w.cell? ⟨b, off + i, none⟩ = some (.int k l[i]) ∧ (Lit.int k l[i]).wf = true := by
  rcases open_ints ht he hC h with ⟨hcs, _⟩ | ⟨ad, l', c', zs, hcs, _, hl, hm, hz, _, hcell, hwz⟩
  · simp at hcs
    obtain ⟨rfl, rfl, rfl⟩ := hcs
    exact ⟨Nat.le_refl _, Nat.zero_le _, [], rfl, fun i hi => by simp at hi⟩
  · simp at hcs
    obtain ⟨rfl, rfl, rfl⟩ := hcs
    refine ⟨hl, hm, zs.take len, ?_, fun i hi => ?_⟩
    · rw [List.length_take]; split at hz <;> omega
    · have hi1 : i < len := by rw [List.length_take] at hi; omega
      have hi2 : i < zs.length := by rw [List.length_take] at hi; omega
      have c0 := hcell 0 (by omega)
      rw [add_zero] at c0
      obtain ⟨b, off, rfl⟩ := spot_none c0
      have ci := hcell i hi2
      rw [add_flat] at ci
      have e : (zs.take len)[i] = zs.getD i 0 := by simp [List.getD, hi2]
      refine ⟨b, off, rfl, by rw [e]; exact ci, ?_⟩
      rw [e]
      exact hwz _ (by simp [List.getD, hi2])
end
end Go.Proofs.YtigjingielnaoaaGreatDoor
namespace Go.Proofs.YtigjingielnaoaaGreatDoor
set_option linter.unusedVariables false
set_option linter.unusedSimpArgs false
set_option linter.unusedSectionVars false
open Go.ChangeShapes Go.WideShapes Go.ChangeAt Go.RowKit Go.Deep
set_option linter.unusedVariables false

theorem nine {cs : List Value} (h : cs.length = 9) : ∃ a0 a1 a2 a3 a4 a5 a6 a7 a8, cs = [a0, a1, a2, a3, a4, a5, a6, a7, a8] := by
  match cs, h with
  | [a0, a1, a2, a3, a4, a5, a6, a7, a8], _ => exact ⟨_, _, _, _, _, _, _, _, _, rfl⟩
variable {H : Type} {enc : TypeId × Value → H} {w : World} {base : Nat} {spare : Nat → Bool} {held : Bool}
theorem open_ints_at {n : Nat} {u : Value} {y : DataW H × List MemPlace} (h : DataW.trod enc Tryz.prog w base spare held n 25 [u] = some y) : ∃ l : List Int, IntsAt w u l ∧ l.length ≤ 9223372036854775807 := by
  have key : ∀ a len cap, u = .slice a len cap → ∃ l : List Int, IntsAt w u l ∧ l.length ≤ 9223372036854775807 := by
    rintro a len cap rfl
    obtain ⟨hlc, hcm, l, hl, hc⟩ := open_nums Tryz.underlying25 Tryz.underlying3 (by kernel_rfl) h
    unfold maxLen at hcm
    refine ⟨l, ⟨a, cap, by rw [hl], by omega, fun i hi => ?_⟩, by omega⟩
    obtain ⟨b, off, e, c, _⟩ := hc i hi
    exact ⟨b, off, e, c⟩
  rcases open_ints Tryz.underlying25 Tryz.underlying3 (by kernel_rfl) h with ⟨hcs, _⟩ | ⟨ad, l', c', zs, hcs, _⟩
  · exact key _ _ _ (by simpa using hcs)
  · exact key _ _ _ (by simpa using hcs)
theorem open_event {fuel : Nat} {cs : List Value} {x : DataW H × List MemPlace} (hl : cs.length = 9) (h : DataW.trod enc Tryz.prog w base spare held fuel 27 cs = some x) :
    ∃ e : EvN, cs = e.cells ∧ IntsAt w e.v e.l ∧ e.l.length ≤ 9223372036854775807 ∧ e.t < 4294967296 := by
  obtain ⟨a0, a1, a2, a3, a4, a5, a6, a7, a8, rfl⟩ := nine hl
  obtain ⟨xs, n, _, _, _, hxl, hf⟩ := DataW.trod_struct Tryz.underlying27 h
  have hx : ∀ i, i < 6 → ∃ y, xs[i]? = some y := fun i hi => ⟨_, List.getElem?_eq_getElem (by rw [hxl]; exact hi)⟩
  have kI : Tryz.prog.cellsOf 3 = 1 := by kernel_rfl
  have kS : Tryz.prog.cellsOf 9 = 1 := by kernel_rfl
  have kN : Tryz.prog.cellsOf 24 = 4 := by kernel_rfl
  have kL : Tryz.prog.cellsOf 25 = 1 := by kernel_rfl
  have t0 : DataW.trod enc Tryz.prog w base spare held n 3 (([a0, a1, a2, a3, a4, a5, a6, a7, a8].drop 0).take (Tryz.prog.cellsOf 3)) = xs[0]? := hf 0 _ rfl
  have t1 : DataW.trod enc Tryz.prog w base spare held n 9 (([a0, a1, a2, a3, a4, a5, a6, a7, a8].drop 1).take (Tryz.prog.cellsOf 9)) = xs[1]? := hf 1 _ rfl
  have t2 : DataW.trod enc Tryz.prog w base spare held n 9 (([a0, a1, a2, a3, a4, a5, a6, a7, a8].drop 2).take (Tryz.prog.cellsOf 9)) = xs[2]? := hf 2 _ rfl
  have t3 : DataW.trod enc Tryz.prog w base spare held n 24 (([a0, a1, a2, a3, a4, a5, a6, a7, a8].drop 3).take (Tryz.prog.cellsOf 24)) = xs[3]? := hf 3 _ rfl
  have t4 : DataW.trod enc Tryz.prog w base spare held n 3 (([a0, a1, a2, a3, a4, a5, a6, a7, a8].drop 7).take (Tryz.prog.cellsOf 3)) = xs[4]? := hf 4 _ rfl
  have t5 : DataW.trod enc Tryz.prog w base spare held n 25 (([a0, a1, a2, a3, a4, a5, a6, a7, a8].drop 8).take (Tryz.prog.cellsOf 25)) = xs[5]? := hf 5 _ rfl
  rw [kI] at t0 t4
  rw [kS] at t1 t2
  rw [kN] at t3
  rw [kL] at t5
  obtain ⟨y0, e0⟩ := hx 0 (by omega)
  obtain ⟨y1, e1⟩ := hx 1 (by omega)
  obtain ⟨y2, e2⟩ := hx 2 (by omega)
  obtain ⟨y3, e3⟩ := hx 3 (by omega)
  obtain ⟨y4, e4⟩ := hx 4 (by omega)
  obtain ⟨y5, e5⟩ := hx 5 (by omega)
  rw [e0] at t0
  rw [e1] at t1
  rw [e2] at t2
  rw [e3] at t3
  rw [e4] at t4
  rw [e5] at t5
  have t0 : DataW.trod enc Tryz.prog w base spare held n 3 [a0] = some y0 := t0
  have t1 : DataW.trod enc Tryz.prog w base spare held n 9 [a1] = some y1 := t1
  have t2 : DataW.trod enc Tryz.prog w base spare held n 9 [a2] = some y2 := t2
  have t3 : DataW.trod enc Tryz.prog w base spare held n 24 [a3, a4, a5, a6] = some y3 := t3
  have t4 : DataW.trod enc Tryz.prog w base spare held n 3 [a7] = some y4 := t4
  have t5 : DataW.trod enc Tryz.prog w base spare held n 25 [a8] = some y5 := t5
  obtain ⟨op, g0, _, _⟩ := DataW.trod_int Tryz.underlying3 t0
  obtain ⟨p, g1, _, _⟩ := DataW.trod_string Tryz.underlying9 t1
  obtain ⟨q, g2, _, _⟩ := DataW.trod_string Tryz.underlying9 t2
  obtain ⟨nn, g4, _, _⟩ := DataW.trod_int Tryz.underlying3 t4
  obtain ⟨l, hl5, hl6⟩ := open_ints_at t5
  obtain ⟨n', hj⟩ := open_rec Tryz.underlying24 (by kernel_rfl) (by rfl) t3
  obtain ⟨u0, z0, f0, s0⟩ := hj 0 _ rfl
  obtain ⟨u1, z1, f1, s1⟩ := hj 1 _ rfl
  obtain ⟨u2, z2, f2, s2⟩ := hj 2 _ rfl
  obtain ⟨u3, z3, f3, s3⟩ := hj 3 _ rfl
  obtain rfl : a3 = u0 := by simpa using f0
  obtain rfl : a4 = u1 := by simpa using f1
  obtain rfl : a5 = u2 := by simpa using f2
  obtain rfl : a6 = u3 := by simpa using f3
  obtain ⟨k, h0, _, _⟩ := DataW.trod_int Tryz.underlying3 s0
  obtain ⟨m, h1, _, _⟩ := DataW.trod_int Tryz.underlying3 s1
  obtain ⟨t, h2, _, w2⟩ := DataW.trod_int Tryz.underlying22 s2
  obtain ⟨D, h3, _, _⟩ := DataW.trod_string Tryz.underlying9 s3
  simp only [List.cons.injEq, and_true] at g0 g1 g2 g4 h0 h1 h2 h3
  subst g0 g1 g2 g4 h0 h1 h2 h3
  have b2 : 0 ≤ t ∧ t ≤ 4294967295 := by simpa [Lit.wf, IntKind.min, IntKind.max, IntKind.signed, IntKind.bits] using w2
  refine ⟨⟨op, p, q, k, m, t.toNat, D, nn, a8, l⟩, ?_, hl5, hl6, by show t.toNat < _; omega⟩
  unfold EvN.cells
  dsimp only
  rw [show ((t.toNat : Nat) : Int) = t by omega]
end Go.Proofs.YtigjingielnaoaaGreatDoor

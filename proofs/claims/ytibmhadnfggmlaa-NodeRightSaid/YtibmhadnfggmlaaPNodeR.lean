/- Proved: Rows.NodeRightSaid: called with any two nodes, the law NodeRight returns true and leaves its arguments as they were. No condition beyond the statement's own. -/
import Derived.Test.YtibmhadnfggmlaaLawNodeR
import Derived.Test.YtibmhadnfggmlaaOpen
import Derived.ShutString
import Derived.ChangeOld
import Derived.Carry
namespace Go.Proofs.Ytibmhadnfggmlaa.nodeRight
open Go.ChangeShapes Go.WideShapes Go.ChangeAt Go.RowKit Go.Deep
open Go.ChangeMaps (open_string shut_string)
set_option linter.unusedVariables false

theorem own : ownKnob Try.prog.godebug = none := by kernel_rfl
theorem laidOut : laidOutB Try.prog = true := by kernel_rfl

set_option maxRecDepth 100000 in
theorem lifted (os : Os) (started : os.Started) (H : Type) (enc : TypeId × Value → H) :
    ReturnsInHanded {} Try.checked os 5 .any (Rows.nodeRightSpec.pre6 enc Try.prog Try.f5 Rows.nodeRightRow.domain false) (Rows.nodeRightSpec.post enc Try.prog Try.f5 false true false false) := by
  refine returnsInHanded_of_change (C := Try.checked) own started (by kernel_rfl) Try.func5
    (ChangeSpec.witness6 (enc := enc) (C := Try.checked) false ⟨#[], #[.agg #[.int .i64 0, .int .i64 0, .int .u32 0, .string ByteArray.empty], .agg #[.int .i64 0, .int .i64 0, .int .u32 0, .string ByteArray.empty]], []⟩ 8 (by kernel_rfl) (by kernel_rfl) (by kernel_rfl) (by kernel_rfl)) ?_
  intro W base args ds gs before hval0 hW hcnd _
  have hval : ∀ (j : Nat) t v, Try.f5.params[j]? = some t → args[j]? = some v → Value.okWide Try.prog W .any base t v := hval0
  have hW' := hW
  obtain ⟨p, q, hA0, hV, rfl, hfz, hnd⟩ := hW
  have hA : DataW.TrodAll enc Try.prog W 0 (fun _ => true) true Try.f5.params.toList args.toList ds p := hA0
  rw [Try.params5] at hA hval
  obtain ⟨v0, vs0, d0, ds0, p0, q0, hargs, rfl, rfl, h0, r0⟩ := trodAll_cons hA
  obtain ⟨v1, vs1, d1, ds1, p1, q1, rfl, rfl, rfl, h1, r1⟩ := trodAll_cons r0
  obtain ⟨rfl, rfl, rfl⟩ := trodAll_nil r1
  obtain rfl : args = #[v0, v1] := by cases args; simp_all
  obtain ⟨rfl, rfl⟩ := trodVars_none hV
  obtain ⟨cs0, rfl, hcs0⟩ := okWide_struct Try.underlying49 (hval 0 49 v0 rfl rfl)
  have k0 := h0
  have lt0 : ∀ x ∈ p0, x.block < W.heap.size := by obtain ⟨m, hm⟩ := k0; exact DataW.trod_lt m _ _ _ hm
  obtain ⟨fuel0, hf0⟩ := h0
  obtain ⟨cs1, rfl, hcs1⟩ := okWide_struct Try.underlying49 (hval 1 49 v1 rfl rfl)
  have k1 := h1
  have lt1 : ∀ x ∈ p1, x.block < W.heap.size := by obtain ⟨m, hm⟩ := k1; exact DataW.trod_lt m _ _ _ hm
  obtain ⟨fuel1, hf1⟩ := h1
  have hn0 : ∃ (k m : Int) (t : Nat) (D : ByteArray), cs0 = #[.int .i64 k, .int .i64 m, .int .u32 (t : Nat), .string D] ∧ t < 4294967296 ∧ D.size ≤ 9223372036854775807 := by
    have hsz : cs0.size = 4 := hcs0.trans (by kernel_rfl)
    obtain ⟨n, hj⟩ := open_rec Try.underlying49 (by kernel_rfl) (by simp only [Value.cells]; simpa using hsz) hf0
    obtain ⟨u0, y0, e0, t0⟩ := hj 0 _ rfl
    obtain ⟨u1, y1, e1, t1⟩ := hj 1 _ rfl
    obtain ⟨u2, y2, e2, t2⟩ := hj 2 _ rfl
    obtain ⟨u3, y3, e3, t3⟩ := hj 3 _ rfl
    obtain ⟨n0, g0, _, w0⟩ := DataW.trod_int Try.underlying3 t0
    obtain ⟨n1, g1, _, w1⟩ := DataW.trod_int Try.underlying3 t1
    obtain ⟨n2, g2, _, w2⟩ := DataW.trod_int Try.underlying47 t2
    obtain ⟨n3, g3, _, w3⟩ := DataW.trod_string Try.underlying9 t3
    simp only [List.cons.injEq, and_true] at g0 g1 g2 g3
    subst g0 g1 g2 g3
    have b2 : 0 ≤ n2 ∧ n2 ≤ 4294967295 := by simpa [Lit.wf, IntKind.min, IntKind.max, IntKind.signed, IntKind.bits] using w2
    unfold maxLen at w3
    refine ⟨n0, n1, n2.toNat, n3, ?_, by omega, w3⟩
    rw [show ((n2.toNat : Nat) : Int) = n2 by omega]
    apply Array.ext'
    simp only [Value.cells] at e0 e1 e2 e3
    have hl : cs0.toList.length = 4 := by simpa using hsz
    apply List.ext_getElem?
    intro i
    rcases (by omega : i = 0 ∨ i = 1 ∨ i = 2 ∨ i = 3 ∨ 4 ≤ i) with rfl | rfl | rfl | rfl | h4
    · exact e0
    · exact e1
    · exact e2
    · exact e3
    · rw [List.getElem?_eq_none (by omega), List.getElem?_eq_none (by simpa using h4)]
  obtain ⟨ka, ma, ta, Da, rfl, hta, hDa⟩ := hn0
  have hn1 : ∃ (k m : Int) (t : Nat) (D : ByteArray), cs1 = #[.int .i64 k, .int .i64 m, .int .u32 (t : Nat), .string D] ∧ t < 4294967296 ∧ D.size ≤ 9223372036854775807 := by
    have hsz : cs1.size = 4 := hcs1.trans (by kernel_rfl)
    obtain ⟨n, hj⟩ := open_rec Try.underlying49 (by kernel_rfl) (by simp only [Value.cells]; simpa using hsz) hf1
    obtain ⟨u0, y0, e0, t0⟩ := hj 0 _ rfl
    obtain ⟨u1, y1, e1, t1⟩ := hj 1 _ rfl
    obtain ⟨u2, y2, e2, t2⟩ := hj 2 _ rfl
    obtain ⟨u3, y3, e3, t3⟩ := hj 3 _ rfl
    obtain ⟨n0, g0, _, w0⟩ := DataW.trod_int Try.underlying3 t0
    obtain ⟨n1, g1, _, w1⟩ := DataW.trod_int Try.underlying3 t1
    obtain ⟨n2, g2, _, w2⟩ := DataW.trod_int Try.underlying47 t2
    obtain ⟨n3, g3, _, w3⟩ := DataW.trod_string Try.underlying9 t3
    simp only [List.cons.injEq, and_true] at g0 g1 g2 g3
    subst g0 g1 g2 g3
    have b2 : 0 ≤ n2 ∧ n2 ≤ 4294967295 := by simpa [Lit.wf, IntKind.min, IntKind.max, IntKind.signed, IntKind.bits] using w2
    unfold maxLen at w3
    refine ⟨n0, n1, n2.toNat, n3, ?_, by omega, w3⟩
    rw [show ((n2.toNat : Nat) : Int) = n2 by omega]
    apply Array.ext'
    simp only [Value.cells] at e0 e1 e2 e3
    have hl : cs1.toList.length = 4 := by simpa using hsz
    apply List.ext_getElem?
    intro i
    rcases (by omega : i = 0 ∨ i = 1 ∨ i = 2 ∨ i = 3 ∨ 4 ≤ i) with rfl | rfl | rfl | rfl | h4
    · exact e0
    · exact e1
    · exact e2
    · exact e3
    · rw [List.getElem?_eq_none (by omega), List.getElem?_eq_none (by simpa using h4)]
  obtain ⟨kb, mb, tb, Db, rfl, htb, hDb⟩ := hn1
  have hw := law_nodeRight ka ma ta Da kb mb tb Db W hta htb hDa hDb
  unfold nodeV at hw
  clear hA0 hval0
  refine (hw).mono fun e W' ⟨he, hup⟩ => ?_
  have bel := hup.below
  subst he
  exact ⟨_, rfl, _, _, _, [], _, [], hW', trodAll_mk1 (shut_bool Try.underlying4 _), (trodAll_cons_mk (Below.trod laidOut (by kernel_rfl) (of_decide_eq_true (by kernel_rfl)) k0 bel lt0) (trodAll_cons_mk (Below.trod laidOut (by kernel_rfl) (of_decide_eq_true (by kernel_rfl)) k1 bel lt1) trodAll_mk0)), rfl, bel.frame _, fun h => by cases h⟩

theorem over : Rows.nodeRightRow.holds Try.pinned (OpenSpec.ofChange Rows.nodeRightSpec) :=
  OpenClaim.holds_of_wide 5 Try.f5 rfl rfl rfl rfl rfl rfl rfl ⟨rfl, rfl, rfl, rfl, rfl⟩ rfl rfl rfl rfl rfl (by kernel_rfl) Try.func5 (by kernel_rfl)
    (of_decide_eq_true (by kernel_rfl)) (by unfold Func.isWrapper; first | (rw [if_pos (by decide +kernel)]; kernel_rfl) | (rw [if_neg (by decide +kernel)]; exact ⟨rfl, rfl⟩))
    (fun os started H enc _ => lifted os started H enc)

theorem proved : Rows.NodeRightSaid := over
end Go.Proofs.Ytibmhadnfggmlaa.nodeRight
namespace Go.Proofs.Ytibmhadnfggmlaa
theorem nodeRight_said : Rows.NodeRightSaid := nodeRight.proved
#print axioms nodeRight_said
end Go.Proofs.Ytibmhadnfggmlaa

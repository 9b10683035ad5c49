/- Proved: Rows.ExtentWideSaid: called with any spans and any span, the law ExtentWide returns true and leaves its arguments as they were. No condition beyond the statement's own. -/
import Derived.Test.YtibmhadnfggmlaaExtW
import Derived.Test.YtibmhadnfggmlaaOpen
import Derived.ShutString
import Derived.ChangeOld
import Derived.Carry
namespace Go.Proofs.Ytibmhadnfggmlaa.extentWide
open Go.ChangeShapes Go.WideShapes Go.ChangeAt Go.RowKit Go.Deep
open Go.ChangeMaps (open_string shut_string)
set_option linter.unusedVariables false

theorem own : ownKnob Try.prog.godebug = none := by kernel_rfl
theorem laidOut : laidOutB Try.prog = true := by kernel_rfl

set_option maxRecDepth 100000 in
theorem lifted (os : Os) (started : os.Started) (H : Type) (enc : TypeId × Value → H) :
    ReturnsInHanded {} Try.checked os 4 .any (Rows.extentWideSpec.pre6 enc Try.prog Try.f4 Rows.extentWideRow.domain false) (Rows.extentWideSpec.post enc Try.prog Try.f4 false true false false) := by
  refine returnsInHanded_of_change (C := Try.checked) own started (by kernel_rfl) Try.func4
    (ChangeSpec.witness6 (enc := enc) (C := Try.checked) false ⟨#[], #[.slice none 0 0, .agg #[.int .i64 0, .int .i64 0]], []⟩ 8 (by kernel_rfl) (by kernel_rfl) (by kernel_rfl) (by kernel_rfl)) ?_
  intro W base args ds gs before hval0 hW hcnd _
  have hval : ∀ (j : Nat) t v, Try.f4.params[j]? = some t → args[j]? = some v → Value.okWide Try.prog W .any base t v := hval0
  have hW' := hW
  obtain ⟨p, q, hA0, hV, rfl, hfz, hnd⟩ := hW
  have hA : DataW.TrodAll enc Try.prog W 0 (fun _ => true) true Try.f4.params.toList args.toList ds p := hA0
  rw [Try.params4] at hA hval
  obtain ⟨v0, vs0, d0, ds0, p0, q0, hargs, rfl, rfl, h0, r0⟩ := trodAll_cons hA
  obtain ⟨v1, vs1, d1, ds1, p1, q1, rfl, rfl, rfl, h1, r1⟩ := trodAll_cons r0
  obtain ⟨rfl, rfl, rfl⟩ := trodAll_nil r1
  obtain rfl : args = #[v0, v1] := by cases args; simp_all
  obtain ⟨rfl, rfl⟩ := trodVars_none hV
  obtain ⟨a0, len0, cap0, rfl⟩ := okWide_slice Try.underlying34 (hval 0 34 v0 rfl rfl)
  have k0 := h0
  have lt0 : ∀ x ∈ p0, x.block < W.heap.size := by obtain ⟨m, hm⟩ := k0; exact DataW.trod_lt m _ _ _ hm
  obtain ⟨fuel0, hf0⟩ := h0
  obtain ⟨cs1, rfl, hcs1⟩ := okWide_struct Try.underlying24 (hval 1 24 v1 rfl rfl)
  have k1 := h1
  have lt1 : ∀ x ∈ p1, x.block < W.heap.size := by obtain ⟨m, hm⟩ := k1; exact DataW.trod_lt m _ _ _ hm
  obtain ⟨fuel1, hf1⟩ := h1
  obtain ⟨_, hlc0, hcm0, hel0⟩ := open_recs Try.underlying34 Try.underlying24 (by kernel_rfl) (by kernel_rfl) hf0
  have hst0 : ∃ f, SpansIn W a0 len0 f := by
    have : ∀ i, ∃ s : Int × Int, i < len0 → ∃ b off, a0 = some ⟨b, off, none⟩ ∧ W.cell? ⟨b, off + i * 2, none⟩ = some (.int .i64 s.1) ∧ W.cell? ⟨b, off + i * 2 + 1, none⟩ = some (.int .i64 s.2) := fun i => by
      by_cases hi : i < len0
      · obtain ⟨b, off, n, rfl, hj⟩ := hel0 i hi (by decide)
        obtain ⟨u0, y0, e0, t0⟩ := hj 0 _ rfl
        obtain ⟨u1, y1, e1, t1⟩ := hj 1 _ rfl
        obtain ⟨n0, g0, _, w0⟩ := DataW.trod_int Try.underlying3 t0
        obtain ⟨n1, g1, _, w1⟩ := DataW.trod_int Try.underlying3 t1
        simp only [List.cons.injEq, and_true] at g0 g1
        subst g0 g1
        exact ⟨(n0, n1), fun _ => ⟨b, off, rfl, e0, e1⟩⟩
      · exact ⟨(0, 0), fun h => absurd h hi⟩
    obtain ⟨st, hst⟩ := Classical.skolem.1 this
    exact ⟨st, hst⟩
  obtain ⟨f0, hin0⟩ := hst0
  unfold maxLen at hcm0
  have hn1 : ∃ a b : Int, cs1 = #[.int .i64 a, .int .i64 b] := by
    have hsz : cs1.size = 2 := hcs1.trans (by kernel_rfl)
    obtain ⟨n, hj⟩ := open_rec Try.underlying24 (by kernel_rfl) (by simp only [Value.cells]; simpa using hsz) hf1
    obtain ⟨u0, y0, e0, t0⟩ := hj 0 _ rfl
    obtain ⟨u1, y1, e1, t1⟩ := hj 1 _ rfl
    obtain ⟨n0, g0, _, w0⟩ := DataW.trod_int Try.underlying3 t0
    obtain ⟨n1, g1, _, w1⟩ := DataW.trod_int Try.underlying3 t1
    simp only [List.cons.injEq, and_true] at g0 g1
    subst g0 g1
    refine ⟨n0, n1, ?_⟩
    apply Array.ext'
    simp only [Value.cells] at e0 e1
    have hl : cs1.toList.length = 2 := by simpa using hsz
    apply List.ext_getElem?
    intro i
    rcases (by omega : i = 0 ∨ i = 1 ∨ 2 ≤ i) with rfl | rfl | h4
    · exact e0
    · exact e1
    · rw [List.getElem?_eq_none (by omega), List.getElem?_eq_none (by simpa using h4)]
  obtain ⟨xa1, xb1, rfl⟩ := hn1
  have hw := law_extentWide a0 len0 cap0 f0 (xa1, xb1) W hcm0 hlc0 hin0
  clear hA0 hval0
  refine (hw).mono fun e W' ⟨he, hup⟩ => ?_
  have bel := hup.below
  subst he
  exact ⟨_, rfl, _, _, _, [], _, [], hW', trodAll_mk1 (shut_bool Try.underlying4 _), (trodAll_cons_mk (Below.trod laidOut (by kernel_rfl) (of_decide_eq_true (by kernel_rfl)) k0 bel lt0) (trodAll_cons_mk (Below.trod laidOut (by kernel_rfl) (of_decide_eq_true (by kernel_rfl)) k1 bel lt1) trodAll_mk0)), rfl, bel.frame _, fun h => by cases h⟩

theorem over : Rows.extentWideRow.holds Try.pinned (OpenSpec.ofChange Rows.extentWideSpec) :=
  OpenClaim.holds_of_wide 4 Try.f4 rfl rfl rfl rfl rfl rfl rfl ⟨rfl, rfl, rfl, rfl, rfl⟩ rfl rfl rfl rfl rfl (by kernel_rfl) Try.func4 (by kernel_rfl)
    (of_decide_eq_true (by kernel_rfl)) (by unfold Func.isWrapper; first | (rw [if_pos (by decide +kernel)]; kernel_rfl) | (rw [if_neg (by decide +kernel)]; exact ⟨rfl, rfl⟩))
    (fun os started H enc _ => lifted os started H enc)

theorem proved : Rows.ExtentWideSaid := over
end Go.Proofs.Ytibmhadnfggmlaa.extentWide
namespace Go.Proofs.Ytibmhadnfggmlaa
theorem extentWide_said : Rows.ExtentWideSaid := extentWide.proved
#print axioms extentWide_said
end Go.Proofs.Ytibmhadnfggmlaa

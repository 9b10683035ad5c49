/- Proved: Rows.DeflatePartsSaid: called with any tokens and any number, the law DeflateParts returns true and leaves its arguments as they were. No condition beyond the statement's own. -/
import Derived.ShutString
import Derived.ChangeOld
import Derived.Carry
import Derived.Test.YtdehkaknbmbieaaLawDP
import Derived.Test.YtdehkaknbmbieaaQAF
namespace Go.Proofs.Ytdehkaknbmbieaa.deflateParts
open Go.ChangeShapes Go.WideShapes Go.ChangeAt Go.RowKit Go.Deep
open Go.ChangeMaps (open_string shut_string)
set_option linter.unusedVariables false

theorem own : ownKnob Try.prog.godebug = none := by kernel_rfl
theorem laidOut : laidOutB Try.prog = true := by kernel_rfl

set_option maxRecDepth 100000 in
theorem lifted (os : Os) (started : os.Started) (H : Type) (enc : TypeId × Value → H) :
    ReturnsInHanded {} Try.checked os 8 .any (Rows.deflatePartsSpec.pre6 enc Try.prog Try.f8 Rows.deflatePartsRow.domain false) (Rows.deflatePartsSpec.post enc Try.prog Try.f8 false true false false) := by
  refine returnsInHanded_of_change (C := Try.checked) own started (by kernel_rfl) Try.func8
    (ChangeSpec.witness6 (enc := enc) (C := Try.checked) false ⟨#[], #[.slice none 0 0, .int .u64 0], []⟩ 8 (by kernel_rfl) (by kernel_rfl) (by kernel_rfl) (by kernel_rfl)) ?_
  intro W base args ds gs before hval0 hW hcnd _
  have hval : ∀ (j : Nat) t v, Try.f8.params[j]? = some t → args[j]? = some v → Value.okWide Try.prog W .any base t v := hval0
  have hW' := hW
  obtain ⟨p, q, hA0, hV, rfl, hfz, hnd⟩ := hW
  have hA : DataW.TrodAll enc Try.prog W 0 (fun _ => true) true Try.f8.params.toList args.toList ds p := hA0
  rw [Try.params8] at hA hval
  obtain ⟨v0, vs0, d0, ds0, p0, q0, hargs, rfl, rfl, h0, r0⟩ := trodAll_cons hA
  obtain ⟨v1, vs1, d1, ds1, p1, q1, rfl, rfl, rfl, h1, r1⟩ := trodAll_cons r0
  obtain ⟨rfl, rfl, rfl⟩ := trodAll_nil r1
  obtain rfl : args = #[v0, v1] := by cases args; simp_all
  obtain ⟨rfl, rfl⟩ := trodVars_none hV
  obtain ⟨a0, len0, cap0, rfl⟩ := okWide_slice Try.underlying35 (hval 0 35 v0 rfl rfl)
  have k0 := h0
  have lt0 : ∀ x ∈ p0, x.block < W.heap.size := by obtain ⟨m, hm⟩ := k0; exact DataW.trod_lt m _ _ _ hm
  obtain ⟨fuel0, hf0⟩ := h0
  obtain ⟨x1, rfl, rfl, rfl, wx1⟩ := open_int Try.underlying31 (hval 1 31 v1 rfl rfl) h1
  obtain ⟨_, hlc0, hcm0, hel0⟩ := open_recs Try.underlying35 Try.underlying40 (by kernel_rfl) (by kernel_rfl) hf0
  unfold maxLen at hcm0
  have hst0 : ∃ l, TokIn W a0 len0 l := by
    have : ∀ i, ∃ t : Tok, i < len0 → ∃ b off, a0 = some ⟨b, off, none⟩ ∧ (W.cell? ⟨b, off + i * 3, none⟩ = some (.int .u8 (t.byte : Nat)) ∧ W.cell? ⟨b, off + i * 3 + 1, none⟩ = some (.int .i64 t.long) ∧ W.cell? ⟨b, off + i * 3 + 2, none⟩ = some (.int .i64 t.back)) ∧ t.byte < 256 ∧ (-9223372036854775808 ≤ t.long ∧ t.long ≤ 9223372036854775807) ∧ (-9223372036854775808 ≤ t.back ∧ t.back ≤ 9223372036854775807) := fun i => by
      by_cases hi : i < len0
      · obtain ⟨b, off, n, rfl, hj⟩ := hel0 i hi (by decide)
        obtain ⟨u0, y0, e0, t0⟩ := hj 0 _ rfl
        obtain ⟨u1, y1, e1, t1⟩ := hj 1 _ rfl
        obtain ⟨u2, y2, e2, t2⟩ := hj 2 _ rfl
        obtain ⟨n0, g0, _, w0⟩ := DataW.trod_int Try.underlying5 t0
        obtain ⟨n1, g1, _, w1⟩ := DataW.trod_int Try.underlying3 t1
        obtain ⟨n2, g2, _, w2⟩ := DataW.trod_int Try.underlying3 t2
        simp only [List.cons.injEq, and_true] at g0 g1 g2
        subst g0 g1 g2
        have b0 : 0 ≤ n0 ∧ n0 ≤ 255 := by simpa [Lit.wf, IntKind.min, IntKind.max, IntKind.signed, IntKind.bits] using w0
        have b1 : -9223372036854775808 ≤ n1 ∧ n1 ≤ 9223372036854775807 := by simpa [Lit.wf, IntKind.min, IntKind.max, IntKind.signed, IntKind.bits] using w1
        have b2 : -9223372036854775808 ≤ n2 ∧ n2 ≤ 9223372036854775807 := by simpa [Lit.wf, IntKind.min, IntKind.max, IntKind.signed, IntKind.bits] using w2
        refine ⟨⟨n0.toNat, n1, n2⟩, fun _ => ⟨b, off, rfl, ⟨?_, e1, e2⟩, by show n0.toNat < 256; omega, b1, b2⟩⟩
        rw [show ((n0.toNat : Nat) : Int) = n0 by omega]
        exact e0
      · exact ⟨⟨0, 0, 0⟩, fun h => absurd h hi⟩
    obtain ⟨st, hst⟩ := Classical.skolem.1 this
    refine ⟨(List.range len0).map st, by simp, fun i hi => ?_⟩
    have hi2 : i < len0 := by simpa using hi
    rw [List.getElem_map, List.getElem_range]
    exact hst i hi2
  obtain ⟨l0, hI0⟩ := hst0
  have b1 : 0 ≤ x1 ∧ x1 ≤ 18446744073709551615 := by simpa [Lit.wf, IntKind.min, IntKind.max, IntKind.signed, IntKind.bits] using wx1
  obtain ⟨y1, rfl⟩ : ∃ y : Nat, x1 = (y : Int) := ⟨x1.toNat, by omega⟩
  have ha0 := okWide_at Try.underlying35 (hval 0 35 _ rfl rfl)
  have hw := (law_deflateParts l0 a0 len0 cap0 W hI0 (by omega) (by omega) (by omega) ha0 y1 (by omega)).mono (fun e w' h => (id h : e = .returned (.bool true) ∧ Upd [] W w'))
  clear hA0 hval0
  refine (hw).mono fun e W' ⟨he, hup⟩ => ?_
  have bel := hup.below
  subst he
  exact ⟨_, rfl, _, _, _, [], _, [], hW', trodAll_mk1 (shut_bool Try.underlying4 _), (trodAll_cons_mk (Below.trod laidOut (by kernel_rfl) (of_decide_eq_true (by kernel_rfl)) k0 bel lt0) (trodAll_cons_mk (shut_int Try.underlying31 wx1) trodAll_mk0)), rfl, bel.frame _, fun h => by cases h⟩

theorem over : Rows.deflatePartsRow.holds Try.pinned (OpenSpec.ofChange Rows.deflatePartsSpec) :=
  OpenClaim.holds_of_wide 8 Try.f8 rfl rfl rfl rfl rfl rfl rfl ⟨rfl, rfl, rfl, rfl, rfl⟩ rfl rfl rfl rfl rfl (by kernel_rfl) Try.func8 (by kernel_rfl)
    (of_decide_eq_true (by kernel_rfl)) (by unfold Func.isWrapper; first | (rw [if_pos (by decide +kernel)]; kernel_rfl) | (rw [if_neg (by decide +kernel)]; exact ⟨rfl, rfl⟩))
    (fun os started H enc _ => lifted os started H enc)

theorem proved : Rows.DeflatePartsSaid := over
end Go.Proofs.Ytdehkaknbmbieaa.deflateParts
namespace Go.Proofs.Ytdehkaknbmbieaa
set_option linter.unusedVariables false
set_option linter.unusedSimpArgs false
set_option linter.unusedSectionVars false
theorem deflateParts_said : Rows.DeflatePartsSaid := deflateParts.proved
#print axioms deflateParts_said
end Go.Proofs.Ytdehkaknbmbieaa

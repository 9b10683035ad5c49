/- Proved: Rows.BlockWritesSaid: called with any tokens, any kind and any number, the law BlockWrites returns true and leaves its arguments as they were. No condition beyond the statement's own. -/
import Derived.ShutString
import Derived.ChangeOld
import Derived.Carry
import Derived.Test.YtdehkaknbmbieaaGreatLawBW
import Derived.Test.YtdehkaknbmbieaaGreatQAG
namespace Go.Proofs.YtdehkaknbmbieaaGreat.blockWrites
open Go.ChangeShapes Go.WideShapes Go.ChangeAt Go.RowKit Go.Deep
open Go.ChangeMaps (open_string shut_string)
set_option linter.unusedVariables false

theorem own : ownKnob Tryz.prog.godebug = none := by kernel_rfl
theorem laidOut : laidOutB Tryz.prog = true := by kernel_rfl

set_option maxRecDepth 100000 in
theorem lifted (os : Os) (started : os.Started) (H : Type) (enc : TypeId × Value → H) :
    ReturnsInHanded {} Tryz.checked os 3 .any (Rows.blockWritesSpec.pre6 enc Tryz.prog Tryz.f3 Rows.blockWritesRow.domain false) (Rows.blockWritesSpec.post enc Tryz.prog Tryz.f3 false true false false) := by
  refine returnsInHanded_of_change (C := Tryz.checked) own started (by kernel_rfl) Tryz.func3
    (ChangeSpec.witness6 (enc := enc) (C := Tryz.checked) false ⟨#[], #[.slice none 0 0, .int .i64 0, .int .u64 0], []⟩ 8 (by kernel_rfl) (by kernel_rfl) (by kernel_rfl) (by kernel_rfl)) ?_
  intro W base args ds gs before hval0 hW hcnd _
  have hval : ∀ (j : Nat) t v, Tryz.f3.params[j]? = some t → args[j]? = some v → Value.okWide Tryz.prog W .any base t v := hval0
  have hW' := hW
  obtain ⟨p, q, hA0, hV, rfl, hfz, hnd⟩ := hW
  have hA : DataW.TrodAll enc Tryz.prog W 0 (fun _ => true) true Tryz.f3.params.toList args.toList ds p := hA0
  rw [Tryz.params3] at hA hval
  obtain ⟨v0, vs0, d0, ds0, p0, q0, hargs, rfl, rfl, h0, r0⟩ := trodAll_cons hA
  obtain ⟨v1, vs1, d1, ds1, p1, q1, rfl, rfl, rfl, h1, r1⟩ := trodAll_cons r0
  obtain ⟨v2, vs2, d2, ds2, p2, q2, rfl, rfl, rfl, h2, r2⟩ := trodAll_cons r1
  obtain ⟨rfl, rfl, rfl⟩ := trodAll_nil r2
  obtain rfl : args = #[v0, v1, v2] := by cases args; simp_all
  obtain ⟨rfl, rfl⟩ := trodVars_none hV
  obtain ⟨a0, len0, cap0, rfl⟩ := okWide_slice Tryz.underlying22 (hval 0 22 v0 rfl rfl)
  have k0 := h0
  have lt0 : ∀ x ∈ p0, x.block < W.heap.size := by obtain ⟨m, hm⟩ := k0; exact DataW.trod_lt m _ _ _ hm
  obtain ⟨fuel0, hf0⟩ := h0
  obtain ⟨x1, rfl, rfl, rfl, wx1⟩ := open_int Tryz.underlying3 (hval 1 3 v1 rfl rfl) h1
  obtain ⟨x2, rfl, rfl, rfl, wx2⟩ := open_int Tryz.underlying23 (hval 2 23 v2 rfl rfl) h2
  obtain ⟨_, hlc0, hcm0, hel0⟩ := open_recs Tryz.underlying22 Tryz.underlying49 (by kernel_rfl) (by kernel_rfl) hf0
  unfold maxLen at hcm0
  have hst0 : ∃ l, TokIn W a0 len0 l := by
    have : ∀ i, ∃ t : Tok, i < len0 → ∃ b off, a0 = some ⟨b, off, none⟩ ∧ (W.cell? ⟨b, off + i * 3, none⟩ = some (.int .u8 (t.byte : Nat)) ∧ W.cell? ⟨b, off + i * 3 + 1, none⟩ = some (.int .i64 t.long) ∧ W.cell? ⟨b, off + i * 3 + 2, none⟩ = some (.int .i64 t.back)) ∧ t.byte < 256 ∧ (-9223372036854775808 ≤ t.long ∧ t.long ≤ 9223372036854775807) ∧ (-9223372036854775808 ≤ t.back ∧ t.back ≤ 9223372036854775807) := fun i => by
      by_cases hi : i < len0
      · obtain ⟨b, off, n, rfl, hj⟩ := hel0 i hi (by decide)
        obtain ⟨u0, y0, e0, t0⟩ := hj 0 _ rfl
        obtain ⟨u1, y1, e1, t1⟩ := hj 1 _ rfl
        obtain ⟨u2, y2, e2, t2⟩ := hj 2 _ rfl
        obtain ⟨n0, g0, _, w0⟩ := DataW.trod_int Tryz.underlying5 t0
        obtain ⟨n1, g1, _, w1⟩ := DataW.trod_int Tryz.underlying3 t1
        obtain ⟨n2, g2, _, w2⟩ := DataW.trod_int Tryz.underlying3 t2
        simp only [List.cons.injEq, and_true] at g0 g1 g2
        subst g0 g1 g2
        have b0 : 0 ≤ n0 ∧ n0 ≤ 255 := by simpa [Lit.wf, IntKind.min, IntKind.max, IntKind.signed, IntKind.bits] using w0
        have b1 : -9223372036854775808 ≤ n1 ∧ n1 ≤ 9223372036854775807 := by simpa [Lit.wf, IntKind.min, IntKind.max, IntKind.signed, IntKind.bits] using w1
        have b2 : -9223372036854775808 ≤ n2 ∧ n2 ≤ 9223372036854775807 := by simpa [Lit.wf, IntKind.min, IntKind.max, IntKind.signed, IntKind.bits] using w2
        refine ⟨⟨n0.toNat, n1, n2⟩, fun _ => ⟨b, off, rfl, ⟨?_, e1, e2⟩, by show n0.toNat < 256; omega, b1, b2⟩⟩
        rw [show ((n0.toNat : Nat) : Int) = n0 by omega]
        exact e0
      · exact ⟨⟨0, 0, 0⟩, fun h => absurd h hi⟩
    obtain ⟨st, hst⟩ := Classical.skolem.1 this
    refine ⟨(List.range len0).map st, by simp, fun i hi => ?_⟩
    have hi2 : i < len0 := by simpa using hi
    rw [List.getElem_map, List.getElem_range]
    exact hst i hi2
  obtain ⟨l0, hI0⟩ := hst0
  have b1 : -9223372036854775808 ≤ x1 ∧ x1 ≤ 9223372036854775807 := by simpa [Lit.wf, IntKind.min, IntKind.max, IntKind.signed, IntKind.bits] using wx1
  have b2 : 0 ≤ x2 ∧ x2 ≤ 18446744073709551615 := by simpa [Lit.wf, IntKind.min, IntKind.max, IntKind.signed, IntKind.bits] using wx2
  obtain ⟨y2, rfl⟩ : ∃ y : Nat, x2 = (y : Int) := ⟨x2.toNat, by omega⟩
  have hw := (law_blockWrites l0 a0 len0 cap0 y2 x1 W hI0 (by omega) (by omega) b1.1 b1.2 (by omega)).mono (fun e w' h => (id h : e = .returned (.bool true) ∧ Upd [] W w'))
  clear hA0 hval0
  refine (hw).mono fun e W' ⟨he, hup⟩ => ?_
  have bel := hup.below
  subst he
  exact ⟨_, rfl, _, _, _, [], _, [], hW', trodAll_mk1 (shut_bool Tryz.underlying4 _), (trodAll_cons_mk (Below.trod laidOut (by kernel_rfl) (of_decide_eq_true (by kernel_rfl)) k0 bel lt0) (trodAll_cons_mk (shut_int Tryz.underlying3 wx1) (trodAll_cons_mk (shut_int Tryz.underlying23 wx2) trodAll_mk0))), rfl, bel.frame _, fun h => by cases h⟩

theorem over : Rows.blockWritesRow.holds Tryz.pinned (OpenSpec.ofChange Rows.blockWritesSpec) :=
  OpenClaim.holds_of_wide 3 Tryz.f3 rfl rfl rfl rfl rfl rfl rfl ⟨rfl, rfl, rfl, rfl, rfl⟩ rfl rfl rfl rfl rfl (by kernel_rfl) Tryz.func3 (by kernel_rfl)
    (of_decide_eq_true (by kernel_rfl)) (by unfold Func.isWrapper; first | (rw [if_pos (by decide +kernel)]; kernel_rfl) | (rw [if_neg (by decide +kernel)]; exact ⟨rfl, rfl⟩))
    (fun os started H enc _ => lifted os started H enc)

theorem proved : Rows.BlockWritesSaid := over
end Go.Proofs.YtdehkaknbmbieaaGreat.blockWrites
namespace Go.Proofs.YtdehkaknbmbieaaGreat
set_option linter.unusedVariables false
set_option linter.unusedSimpArgs false
set_option linter.unusedSectionVars false
theorem blockWrites_said : Rows.BlockWritesSaid := blockWrites.proved
#print axioms blockWrites_said
end Go.Proofs.YtdehkaknbmbieaaGreat

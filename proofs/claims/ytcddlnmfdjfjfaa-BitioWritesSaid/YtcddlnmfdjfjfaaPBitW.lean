/- Proved: Rows.BitioWritesSaid: called with any steps, the law BitioWrites returns true and leaves its argument as it was. No condition beyond the statement's own. -/
import Derived.Test.YtcddlnmfdjfjfaaLawBitW
import Derived.Test.YtcddlnmfdjfjfaaOpen
import Derived.ShutString
import Derived.ChangeOld
import Derived.Carry
namespace Go.Proofs.Ytcddlnmfdjfjfaa.bitioWrites
open Go.ChangeShapes Go.WideShapes Go.ChangeAt Go.RowKit Go.Deep
open Go.ChangeMaps (open_string shut_string)
set_option linter.unusedVariables false

theorem own : ownKnob Try.prog.godebug = none := by kernel_rfl
theorem laidOut : laidOutB Try.prog = true := by kernel_rfl

theorem wf_u64 {n : Int} (h : (Lit.int .u64 n).wf = true) : 0 ≤ n ∧ n ≤ 18446744073709551615 := by simpa [Lit.wf, IntKind.min, IntKind.max, IntKind.signed, IntKind.bits] using h
theorem wf_u32 {n : Int} (h : (Lit.int .u32 n).wf = true) : 0 ≤ n ∧ n ≤ 4294967295 := by simpa [Lit.wf, IntKind.min, IntKind.max, IntKind.signed, IntKind.bits] using h
theorem wf_i64 {n : Int} (h : (Lit.int .i64 n).wf = true) : -9223372036854775808 ≤ n ∧ n ≤ 9223372036854775807 := by simpa [Lit.wf, IntKind.min, IntKind.max, IntKind.signed, IntKind.bits] using h

set_option maxRecDepth 100000 in
theorem lifted (os : Os) (started : os.Started) (H : Type) (enc : TypeId × Value → H) :
    ReturnsInHanded {} Try.checked os 3 .any (Rows.bitioWritesSpec.pre6 enc Try.prog Try.f3 Rows.bitioWritesRow.domain false) (Rows.bitioWritesSpec.post enc Try.prog Try.f3 false true false false) := by
  refine returnsInHanded_of_change (C := Try.checked) own started (by kernel_rfl) Try.func3
    (ChangeSpec.witness6 (enc := enc) (C := Try.checked) false ⟨#[], #[.slice none 0 0], []⟩ 8 (by kernel_rfl) (by kernel_rfl) (by kernel_rfl) (by kernel_rfl)) ?_
  intro W base args ds gs before hval0 hW hcnd _
  have hval : ∀ (j : Nat) t v, Try.f3.params[j]? = some t → args[j]? = some v → Value.okWide Try.prog W .any base t v := hval0
  have hW' := hW
  obtain ⟨p, q, hA0, hV, rfl, hfz, hnd⟩ := hW
  have hA : DataW.TrodAll enc Try.prog W 0 (fun _ => true) true Try.f3.params.toList args.toList ds p := hA0
  rw [Try.params3] at hA hval
  obtain ⟨v0, vs0, d0, ds0, p0, q0, hargs, rfl, rfl, h0, r0⟩ := trodAll_cons hA
  obtain ⟨rfl, rfl, rfl⟩ := trodAll_nil r0
  obtain rfl : args = #[v0] := by cases args; simp_all
  obtain ⟨rfl, rfl⟩ := trodVars_none hV
  obtain ⟨a0, len0, cap0, rfl⟩ := okWide_slice Try.underlying22 (hval 0 22 v0 rfl rfl)
  have k0 := h0
  have lt0 : ∀ x ∈ p0, x.block < W.heap.size := by obtain ⟨m, hm⟩ := k0; exact DataW.trod_lt m _ _ _ hm
  obtain ⟨fuel, hf⟩ := h0
  obtain ⟨_, hlc, hcm, hel⟩ := open_recs Try.underlying22 Try.underlying34 (by kernel_rfl) (by kernel_rfl) hf
  have hst : ∃ st, StepsIn W a0 len0 st := by
    have : ∀ i, ∃ s : Nat × Nat × Int × ByteArray, i < len0 → ∃ b off, a0 = some ⟨b, off, none⟩ ∧
        W.cell? ⟨b, off + i * 4, none⟩ = some (.int .u64 (s.1 : Nat)) ∧ W.cell? ⟨b, off + i * 4 + 1, none⟩ = some (.int .u32 (s.2.1 : Nat)) ∧
        W.cell? ⟨b, off + i * 4 + 2, none⟩ = some (.int .i64 s.2.2.1) ∧ W.cell? ⟨b, off + i * 4 + 3, none⟩ = some (.string s.2.2.2) ∧
        s.1 < 18446744073709551616 ∧ s.2.1 < 4294967296 ∧ -9223372036854775808 ≤ s.2.2.1 ∧ s.2.2.1 ≤ 9223372036854775807 ∧ s.2.2.2.size ≤ 9223372036854775807 := fun i => by
      by_cases hi : i < len0
      · obtain ⟨b, off, n, rfl, hj⟩ := hel i hi (by decide)
        obtain ⟨u0, y0, e0, t0⟩ := hj 0 _ rfl
        obtain ⟨u1, y1, e1, t1⟩ := hj 1 _ rfl
        obtain ⟨u2, y2, e2, t2⟩ := hj 2 _ rfl
        obtain ⟨u3, y3, e3, t3⟩ := hj 3 _ rfl
        obtain ⟨n0, g0, _, w0⟩ := DataW.trod_int Try.underlying31 t0
        obtain ⟨n1, g1, _, w1⟩ := DataW.trod_int Try.underlying32 t1
        obtain ⟨n2, g2, _, w2⟩ := DataW.trod_int Try.underlying3 t2
        obtain ⟨n3, g3, _, w3⟩ := DataW.trod_string Try.underlying9 t3
        simp only [List.cons.injEq, and_true] at g0 g1 g2 g3
        subst g0 g1 g2 g3
        have b0 := wf_u64 w0
        have b1 := wf_u32 w1
        have b2 := wf_i64 w2
        unfold maxLen at w3
        refine ⟨(n0.toNat, n1.toNat, n2, n3), fun _ => ⟨b, off, rfl, ?_, ?_, e2, e3, by simp; omega, by simp; omega, b2.1, b2.2, w3⟩⟩
        · rw [show ((n0.toNat : Nat) : Int) = n0 by omega]; exact e0
        · rw [show ((n1.toNat : Nat) : Int) = n1 by omega]; exact e1
      · exact ⟨(0, 0, 0, .empty), fun h => absurd h hi⟩
    obtain ⟨st, hst⟩ := Classical.skolem.1 this
    exact ⟨st, hst⟩
  obtain ⟨st, hst⟩ := hst
  clear hA0 hval0
  refine (law_bitioWrites a0 len0 cap0 st W hlc (by unfold maxLen at hcm; exact hcm) hst).mono fun e W' ⟨he, hup⟩ => ?_
  have bel := hup.below
  subst he
  exact ⟨_, rfl, _, _, _, [], _, [], hW', trodAll_mk1 (shut_bool Try.underlying4 _), (trodAll_cons_mk (Below.trod laidOut (by kernel_rfl) (of_decide_eq_true (by kernel_rfl)) k0 bel lt0) trodAll_mk0), rfl, bel.frame _, fun h => by cases h⟩

theorem over : Rows.bitioWritesRow.holds Try.pinned (OpenSpec.ofChange Rows.bitioWritesSpec) :=
  OpenClaim.holds_of_wide 3 Try.f3 rfl rfl rfl rfl rfl rfl rfl ⟨rfl, rfl, rfl, rfl, rfl⟩ rfl rfl rfl rfl rfl (by kernel_rfl) Try.func3 (by kernel_rfl)
    (of_decide_eq_true (by kernel_rfl)) (by unfold Func.isWrapper; first | (rw [if_pos (by decide +kernel)]; kernel_rfl) | (rw [if_neg (by decide +kernel)]; exact ⟨rfl, rfl⟩))
    (fun os started H enc _ => lifted os started H enc)

theorem proved : Rows.BitioWritesSaid := over
end Go.Proofs.Ytcddlnmfdjfjfaa.bitioWrites
namespace Go.Proofs.Ytcddlnmfdjfjfaa
theorem bitioWrites_said : Rows.BitioWritesSaid := bitioWrites.proved
#print axioms bitioWrites_said
end Go.Proofs.Ytcddlnmfdjfjfaa

/- Proved: Rows.BitioBackSaid: called with any steps, any text and any number, the law BitioBack returns true and leaves its arguments as they were. No condition beyond the statement's own. -/
import Derived.Test.YtcddlnmfdjfjfaaBkW
import Derived.Test.YtcddlnmfdjfjfaaOpen
import Derived.ShutString
import Derived.ChangeOld
import Derived.Carry
namespace Go.Proofs.Ytcddlnmfdjfjfaa.bitioBack
open Go.ChangeShapes Go.WideShapes Go.ChangeAt Go.RowKit Go.Deep
open Go.ChangeMaps (open_string shut_string)
set_option linter.unusedVariables false

theorem own : ownKnob Try.prog.godebug = none := by kernel_rfl
theorem laidOut : laidOutB Try.prog = true := by kernel_rfl
section
variable {H : Type} {enc : TypeId × Value → H} {W : World} {base : Nat} {spare : Nat → Bool} {held : Bool}
theorem steps3_in {fuel a len cap} {x : DataW H × List MemPlace} (h : DataW.trod enc Try.prog W base spare held fuel 22 [.slice a len cap] = some x) : len ≤ cap ∧ cap ≤ maxLen ∧ ∃ f, StepsIn W a len f := by
  obtain ⟨_, hlc, hcm, hel⟩ := open_recs Try.underlying22 Try.underlying34 (by kernel_rfl) (by kernel_rfl) h
  refine ⟨hlc, hcm, ?_⟩
  have : ∀ i, ∃ s : Nat × Nat × Int × ByteArray, i < len → ∃ b off, a = some ⟨b, off, none⟩ ∧
      W.cell? ⟨b, off + i * 4, none⟩ = some (.int .u64 (s.1 : Nat)) ∧ W.cell? ⟨b, off + i * 4 + 1, none⟩ = some (.int .u32 (s.2.1 : Nat)) ∧
      W.cell? ⟨b, off + i * 4 + 2, none⟩ = some (.int .i64 s.2.2.1) ∧ W.cell? ⟨b, off + i * 4 + 3, none⟩ = some (.string s.2.2.2) ∧
      s.1 < 18446744073709551616 ∧ s.2.1 < 4294967296 ∧ -9223372036854775808 ≤ s.2.2.1 ∧ s.2.2.1 ≤ 9223372036854775807 ∧ s.2.2.2.size ≤ 9223372036854775807 := fun i => by
    by_cases hi : i < len
    · obtain ⟨b, off, n, rfl, hj⟩ := hel i hi (by decide)
      obtain ⟨u0, y0, e0, t0⟩ := hj 0 _ rfl
      obtain ⟨u1, y1, e1, t1⟩ := hj 1 _ rfl
      obtain ⟨u2, y2, e2, t2⟩ := hj 2 _ rfl
      obtain ⟨u3, y3, e3, t3⟩ := hj 3 _ rfl
      obtain ⟨n0, g0, _, w0⟩ := DataW.trod_int Try.underlying31 t0
      obtain ⟨n1, g1, _, w1⟩ := DataW.trod_int Try.underlying32 t1
      obtain ⟨n2, g2, _, w2⟩ := DataW.trod_int Try.underlying3 t2
      obtain ⟨n3, g3, _, w3⟩ := DataW.trod_string Try.underlying9 t3
      simp only [List.cons.injEq, and_true] at g0 g1 g2 g3
      subst g0 g1 g2 g3
      have b0 : 0 ≤ n0 ∧ n0 ≤ 18446744073709551615 := by simpa [Lit.wf, IntKind.min, IntKind.max, IntKind.signed, IntKind.bits] using w0
      have b1 : 0 ≤ n1 ∧ n1 ≤ 4294967295 := by simpa [Lit.wf, IntKind.min, IntKind.max, IntKind.signed, IntKind.bits] using w1
      have b2 : -9223372036854775808 ≤ n2 ∧ n2 ≤ 9223372036854775807 := by simpa [Lit.wf, IntKind.min, IntKind.max, IntKind.signed, IntKind.bits] using w2
      unfold maxLen at w3
      refine ⟨(n0.toNat, n1.toNat, n2, n3), fun _ => ⟨b, off, rfl, ?_, ?_, e2, e3, by simp; omega, by simp; omega, b2.1, b2.2, w3⟩⟩
      · rw [show ((n0.toNat : Nat) : Int) = n0 by omega]; exact e0
      · rw [show ((n1.toNat : Nat) : Int) = n1 by omega]; exact e1
    · exact ⟨(0, 0, 0, .empty), fun h => absurd h hi⟩
  obtain ⟨st, hst⟩ := Classical.skolem.1 this
  exact ⟨st, hst⟩
end

set_option maxRecDepth 100000 in
theorem lifted (os : Os) (started : os.Started) (H : Type) (enc : TypeId × Value → H) :
    ReturnsInHanded {} Try.checked os 5 .any (Rows.bitioBackSpec.pre6 enc Try.prog Try.f5 Rows.bitioBackRow.domain false) (Rows.bitioBackSpec.post enc Try.prog Try.f5 false true false false) := by
  refine returnsInHanded_of_change (C := Try.checked) own started (by kernel_rfl) Try.func5
    (ChangeSpec.witness6 (enc := enc) (C := Try.checked) false ⟨#[], #[.slice none 0 0, .string ByteArray.empty, .int .u64 0], []⟩ 8 (by kernel_rfl) (by kernel_rfl) (by kernel_rfl) (by kernel_rfl)) ?_
  intro W base args ds gs before hval0 hW hcnd _
  have hval : ∀ (j : Nat) t v, Try.f5.params[j]? = some t → args[j]? = some v → Value.okWide Try.prog W .any base t v := hval0
  have hW' := hW
  obtain ⟨p, q, hA0, hV, rfl, hfz, hnd⟩ := hW
  have hA : DataW.TrodAll enc Try.prog W 0 (fun _ => true) true Try.f5.params.toList args.toList ds p := hA0
  rw [Try.params5] at hA hval
  obtain ⟨v0, vs0, d0, ds0, p0, q0, hargs, rfl, rfl, h0, r0⟩ := trodAll_cons hA
  obtain ⟨v1, vs1, d1, ds1, p1, q1, rfl, rfl, rfl, h1, r1⟩ := trodAll_cons r0
  obtain ⟨v2, vs2, d2, ds2, p2, q2, rfl, rfl, rfl, h2, r2⟩ := trodAll_cons r1
  obtain ⟨rfl, rfl, rfl⟩ := trodAll_nil r2
  obtain rfl : args = #[v0, v1, v2] := by cases args; simp_all
  obtain ⟨rfl, rfl⟩ := trodVars_none hV
  obtain ⟨a0, len0, cap0, rfl⟩ := okWide_slice Try.underlying22 (hval 0 22 v0 rfl rfl)
  have k0 := h0
  have lt0 : ∀ x ∈ p0, x.block < W.heap.size := by obtain ⟨m, hm⟩ := k0; exact DataW.trod_lt m _ _ _ hm
  obtain ⟨fuel0, hf0⟩ := h0
  obtain ⟨s1, rfl, rfl, rfl, ws1⟩ := open_string Try.underlying9 (hval 1 9 v1 rfl rfl) h1
  obtain ⟨x2, rfl, rfl, rfl, wx2⟩ := open_int Try.underlying31 (hval 2 31 v2 rfl rfl) h2
  obtain ⟨hlc0, hcm0, f0, hin0⟩ := steps3_in hf0
  unfold maxLen at hcm0
  have hs1 : s1.size ≤ 9223372036854775807 := by have := ws1; unfold maxLen at this; omega
  have hx2 : 0 ≤ x2 ∧ x2 ≤ 18446744073709551615 := by simpa [Lit.wf, IntKind.min, IntKind.max, IntKind.signed, IntKind.bits] using wx2
  have e2 : ((x2.toNat : Nat) : Int) = x2 := by omega
  have hw := back_walk a0 len0 cap0 f0 s1 x2.toNat W hlc0 hcm0 hin0 hs1 (by omega)
  rw [e2] at hw
  clear hA0 hval0
  refine (hw).mono fun e W' ⟨he, hup⟩ => ?_
  have bel := hup.below
  subst he
  exact ⟨_, rfl, _, _, _, [], _, [], hW', trodAll_mk1 (shut_bool Try.underlying4 _), (trodAll_cons_mk (Below.trod laidOut (by kernel_rfl) (of_decide_eq_true (by kernel_rfl)) k0 bel lt0) (trodAll_cons_mk (shut_string Try.underlying9 ws1) (trodAll_cons_mk (shut_int Try.underlying31 wx2) trodAll_mk0))), rfl, bel.frame _, fun h => by cases h⟩

theorem over : Rows.bitioBackRow.holds Try.pinned (OpenSpec.ofChange Rows.bitioBackSpec) :=
  OpenClaim.holds_of_wide 5 Try.f5 rfl rfl rfl rfl rfl rfl rfl ⟨rfl, rfl, rfl, rfl, rfl⟩ rfl rfl rfl rfl rfl (by kernel_rfl) Try.func5 (by kernel_rfl)
    (of_decide_eq_true (by kernel_rfl)) (by unfold Func.isWrapper; first | (rw [if_pos (by decide +kernel)]; kernel_rfl) | (rw [if_neg (by decide +kernel)]; exact ⟨rfl, rfl⟩))
    (fun os started H enc _ => lifted os started H enc)

theorem proved : Rows.BitioBackSaid := over
end Go.Proofs.Ytcddlnmfdjfjfaa.bitioBack
namespace Go.Proofs.Ytcddlnmfdjfjfaa
theorem bitioBack_said : Rows.BitioBackSaid := bitioBack.proved
#print axioms bitioBack_said
end Go.Proofs.Ytcddlnmfdjfjfaa

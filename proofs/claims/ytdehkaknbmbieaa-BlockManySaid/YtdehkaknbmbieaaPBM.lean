/- Proved: Rows.BlockManySaid: called with any tokens and any lengths, the law BlockMany returns true and leaves its arguments as they were. No condition beyond the statement's own. -/
import Derived.Test.YtdehkaknbmbieaaLawBN
import Derived.Test.YtdehkaknbmbieaaOpen
import Derived.ShutString
import Derived.ChangeOld
import Derived.Carry
namespace Go.Proofs.Ytdehkaknbmbieaa.blockMany
open Go.ChangeShapes Go.WideShapes Go.ChangeAt Go.RowKit Go.Deep
open Go.ChangeMaps (open_string shut_string)
set_option linter.unusedVariables false

theorem own : ownKnob Try.prog.godebug = none := by kernel_rfl
theorem laidOut : laidOutB Try.prog = true := by kernel_rfl

set_option maxRecDepth 100000 in
theorem lifted (os : Os) (started : os.Started) (H : Type) (enc : TypeId × Value → H) :
    ReturnsInHanded {} Try.checked os 6 .any (Rows.blockManySpec.pre6 enc Try.prog Try.f6 Rows.blockManyRow.domain false) (Rows.blockManySpec.post enc Try.prog Try.f6 false true false false) := by
  refine returnsInHanded_of_change (C := Try.checked) own started (by kernel_rfl) Try.func6
    (ChangeSpec.witness6 (enc := enc) (C := Try.checked) false ⟨#[], #[.slice none 0 0, .slice none 0 0, .slice none 0 0], []⟩ 8 (by kernel_rfl) (by kernel_rfl) (by kernel_rfl) (by kernel_rfl)) ?_
  intro W base args ds gs before hval0 hW hcnd _
  have hval : ∀ (j : Nat) t v, Try.f6.params[j]? = some t → args[j]? = some v → Value.okWide Try.prog W .any base t v := hval0
  have hW' := hW
  obtain ⟨p, q, hA0, hV, rfl, hfz, hnd⟩ := hW
  have hA : DataW.TrodAll enc Try.prog W 0 (fun _ => true) true Try.f6.params.toList args.toList ds p := hA0
  rw [Try.params6] at hA hval
  obtain ⟨v0, vs0, d0, ds0, p0, q0, hargs, rfl, rfl, h0, r0⟩ := trodAll_cons hA
  obtain ⟨v1, vs1, d1, ds1, p1, q1, rfl, rfl, rfl, h1, r1⟩ := trodAll_cons r0
  obtain ⟨v2, vs2, d2, ds2, p2, q2, rfl, rfl, rfl, h2, r2⟩ := trodAll_cons r1
  obtain ⟨rfl, rfl, rfl⟩ := trodAll_nil r2
  obtain rfl : args = #[v0, v1, v2] := by cases args; simp_all
  obtain ⟨rfl, rfl⟩ := trodVars_none hV
  obtain ⟨a0, len0, cap0, rfl⟩ := okWide_slice Try.underlying35 (hval 0 35 v0 rfl rfl)
  have k0 := h0
  have lt0 : ∀ x ∈ p0, x.block < W.heap.size := by obtain ⟨m, hm⟩ := k0; exact DataW.trod_lt m _ _ _ hm
  obtain ⟨fuel0, hf0⟩ := h0
  obtain ⟨a1, len1, cap1, rfl⟩ := okWide_slice Try.underlying36 (hval 1 36 v1 rfl rfl)
  have k1 := h1
  have lt1 : ∀ x ∈ p1, x.block < W.heap.size := by obtain ⟨m, hm⟩ := k1; exact DataW.trod_lt m _ _ _ hm
  obtain ⟨fuel1, hf1⟩ := h1
  obtain ⟨a2, len2, cap2, rfl⟩ := okWide_slice Try.underlying36 (hval 2 36 v2 rfl rfl)
  have k2 := h2
  have lt2 : ∀ x ∈ p2, x.block < W.heap.size := by obtain ⟨m, hm⟩ := k2; exact DataW.trod_lt m _ _ _ hm
  obtain ⟨fuel2, hf2⟩ := h2
  obtain ⟨_, hlc0, hcm0, hel0⟩ := open_recs Try.underlying35 Try.underlying40 (by kernel_rfl) (by kernel_rfl) hf0
  unfold maxLen at hcm0
  have hst0 : ∃ l, TokIn W a0 len0 l := by
    have : ∀ i, ∃ t : Tok, i < len0 → ∃ b off, a0 = some ⟨b, off, none⟩ ∧ (W.cell? ⟨b, off + i * 3, none⟩ = some (.int .u8 (t.byte : Nat)) ∧ W.cell? ⟨b, off + i * 3 + 1, none⟩ = some (.int .i64 t.long) ∧ W.cell? ⟨b, off + i * 3 + 2, none⟩ = some (.int .i64 t.back)) ∧ t.byte < 256 ∧ (-9223372036854775808 ≤ t.long ∧ t.long ≤ 9223372036854775807) ∧ (-9223372036854775808 ≤ t.back ∧ t.back ≤ 9223372036854775807) := fun i => by
      by_cases hi : i < len0
      · obtain ⟨b, off, n, rfl, hj⟩ := hel0 i hi (by decide)
        obtain ⟨u0, y0, e0, t0⟩ := hj 0 _ rfl
        obtain ⟨u1, y1, e1, t1⟩ := hj 1 _ rfl
        obtain ⟨u2, y2, e2, t2⟩ := hj 2 _ rfl
        obtain ⟨n0, g0, _, w0⟩ := DataW.trod_int Try.underlying5 t0
        obtain ⟨n1, g1, _, w1⟩ := DataW.trod_int Try.underlying3 t1
        obtain ⟨n2, g2, _, w2⟩ := DataW.trod_int Try.underlying3 t2
        simp only [List.cons.injEq, and_true] at g0 g1 g2
        subst g0 g1 g2
        have b0 : 0 ≤ n0 ∧ n0 ≤ 255 := by simpa [Lit.wf, IntKind.min, IntKind.max, IntKind.signed, IntKind.bits] using w0
        have b1 : -9223372036854775808 ≤ n1 ∧ n1 ≤ 9223372036854775807 := by simpa [Lit.wf, IntKind.min, IntKind.max, IntKind.signed, IntKind.bits] using w1
        have b2 : -9223372036854775808 ≤ n2 ∧ n2 ≤ 9223372036854775807 := by simpa [Lit.wf, IntKind.min, IntKind.max, IntKind.signed, IntKind.bits] using w2
        refine ⟨⟨n0.toNat, n1, n2⟩, fun _ => ⟨b, off, rfl, ⟨?_, e1, e2⟩, by show n0.toNat < 256; omega, b1, b2⟩⟩
        rw [show ((n0.toNat : Nat) : Int) = n0 by omega]
        exact e0
      · exact ⟨⟨0, 0, 0⟩, fun h => absurd h hi⟩
    obtain ⟨st, hst⟩ := Classical.skolem.1 this
    refine ⟨(List.range len0).map st, by simp, fun i hi => ?_⟩
    have hi2 : i < len0 := by simpa using hi
    rw [List.getElem_map, List.getElem_range]
    exact hst i hi2
  obtain ⟨l0, hI0⟩ := hst0
  obtain ⟨hlc1, hcm1, z1, hz1, hcell1⟩ := open_nums Try.underlying36 Try.underlying31 (by kernel_rfl) hf1
  unfold maxLen at hcm1
  have hI1 : UintsIn W a1 len1 (z1.map Int.toNat) := ⟨by simpa using hz1, fun i hi => by
    have hi2 : i < z1.length := by simpa using hi
    obtain ⟨b, off, e, c, wf⟩ := hcell1 i hi2
    have hb : 0 ≤ z1[i] ∧ z1[i] ≤ 18446744073709551615 := by simpa [Lit.wf, IntKind.min, IntKind.max, IntKind.signed, IntKind.bits] using wf
    rw [List.getElem_map]
    refine ⟨b, off, e, ?_, by omega⟩
    rw [show ((z1[i].toNat : Nat) : Int) = z1[i] by omega]
    exact c⟩
  obtain ⟨hlc2, hcm2, z2, hz2, hcell2⟩ := open_nums Try.underlying36 Try.underlying31 (by kernel_rfl) hf2
  unfold maxLen at hcm2
  have hI2 : UintsIn W a2 len2 (z2.map Int.toNat) := ⟨by simpa using hz2, fun i hi => by
    have hi2 : i < z2.length := by simpa using hi
    obtain ⟨b, off, e, c, wf⟩ := hcell2 i hi2
    have hb : 0 ≤ z2[i] ∧ z2[i] ≤ 18446744073709551615 := by simpa [Lit.wf, IntKind.min, IntKind.max, IntKind.signed, IntKind.bits] using wf
    rw [List.getElem_map]
    refine ⟨b, off, e, ?_, by omega⟩
    rw [show ((z2[i].toNat : Nat) : Int) = z2[i] by omega]
    exact c⟩
  have hw := (law_blockMany l0 a0 a1 a2 len0 cap0 len1 cap1 len2 cap2 _ _ W hI0 hI1 hI2 (by omega) (by omega) (by omega) (by omega)).mono (fun e w' h => (id h : e = .returned (.bool true) ∧ Upd [] W w'))
  clear hA0 hval0
  refine (hw).mono fun e W' ⟨he, hup⟩ => ?_
  have bel := hup.below
  subst he
  exact ⟨_, rfl, _, _, _, [], _, [], hW', trodAll_mk1 (shut_bool Try.underlying4 _), (trodAll_cons_mk (Below.trod laidOut (by kernel_rfl) (of_decide_eq_true (by kernel_rfl)) k0 bel lt0) (trodAll_cons_mk (Below.trod laidOut (by kernel_rfl) (of_decide_eq_true (by kernel_rfl)) k1 bel lt1) (trodAll_cons_mk (Below.trod laidOut (by kernel_rfl) (of_decide_eq_true (by kernel_rfl)) k2 bel lt2) trodAll_mk0))), rfl, bel.frame _, fun h => by cases h⟩

theorem over : Rows.blockManyRow.holds Try.pinned (OpenSpec.ofChange Rows.blockManySpec) :=
  OpenClaim.holds_of_wide 6 Try.f6 rfl rfl rfl rfl rfl rfl rfl ⟨rfl, rfl, rfl, rfl, rfl⟩ rfl rfl rfl rfl rfl (by kernel_rfl) Try.func6 (by kernel_rfl)
    (of_decide_eq_true (by kernel_rfl)) (by unfold Func.isWrapper; first | (rw [if_pos (by decide +kernel)]; kernel_rfl) | (rw [if_neg (by decide +kernel)]; exact ⟨rfl, rfl⟩))
    (fun os started H enc _ => lifted os started H enc)

theorem proved : Rows.BlockManySaid := over
end Go.Proofs.Ytdehkaknbmbieaa.blockMany
namespace Go.Proofs.Ytdehkaknbmbieaa
set_option linter.unusedVariables false
set_option linter.unusedSimpArgs false
set_option linter.unusedSectionVars false
theorem blockMany_said : Rows.BlockManySaid := blockMany.proved
#print axioms blockMany_said
end Go.Proofs.Ytdehkaknbmbieaa

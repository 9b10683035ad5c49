/- Proved: Rows.ExtentPlaysSaid: called with any steps, any span and any two numbers, the law ExtentPlays returns true and leaves its arguments as they were. No condition beyond the statement's own. -/
import Derived.Test.YtibmhadnfggmlaaExtY
import Derived.Test.YtibmhadnfggmlaaOpen2
import Derived.Test.YtibmhadnfggmlaaOpen
import Derived.ShutString
import Derived.ChangeOld
import Derived.Carry
namespace Go.Proofs.Ytibmhadnfggmlaa.extentPlays
open Go.ChangeShapes Go.WideShapes Go.ChangeAt Go.RowKit Go.Deep
open Go.ChangeMaps (open_string shut_string)
set_option linter.unusedVariables false

theorem own : ownKnob Try.prog.godebug = none := by kernel_rfl
theorem laidOut : laidOutB Try.prog = true := by kernel_rfl
section
variable {H : Type} {enc : TypeId × Value → H} {W : World} {base : Nat} {spare : Nat → Bool} {held : Bool}
set_option maxRecDepth 100000 in
theorem steps_in {fuel a len cap} {x : DataW H × List MemPlace} (h : DataW.trod enc Try.prog W base spare held fuel 22 [.slice a len cap] = some x) : len ≤ cap ∧ cap ≤ maxLen ∧ ∃ f, StepsIn W a len f := by
  obtain ⟨hlc, hcm, hel⟩ := open_elems (S := 3) Try.underlying22 Try.underlying31 (by kernel_rfl) (by omega) h
  have cI : Try.prog.cellsOf 3 = 1 := by kernel_rfl
  have cS : Try.prog.cellsOf 24 = 2 := by kernel_rfl
  have cB : Try.prog.cellsOf 4 = 1 := by kernel_rfl
  refine ⟨hlc, hcm, ?_⟩
  have : ∀ i, ∃ s : (Int × Int) × Bool, i < len → ∃ b off, a = some ⟨b, off, none⟩ ∧ W.cell? ⟨b, off + i * 3, none⟩ = some (.int .i64 s.1.1) ∧ W.cell? ⟨b, off + i * 3 + 1, none⟩ = some (.int .i64 s.1.2) ∧ W.cell? ⟨b, off + i * 3 + 2, none⟩ = some (.bool s.2) := fun i => by
    by_cases hi : i < len
    · obtain ⟨b, off, cs, n, y, rfl, hcl, hcs, htr⟩ := hel i hi
      obtain ⟨u0, u1, u2, rfl⟩ : ∃ u0 u1 u2, cs = [u0, u1, u2] := by
        match cs, hcl with
        | [u0, u1, u2], _ => exact ⟨u0, u1, u2, rfl⟩
      obtain ⟨ys, k, _, _, _, hyl, hfs⟩ := DataW.trod_struct Try.underlying31 htr
      have f0 := hfs 0 _ rfl
      have f1 := hfs 1 _ rfl
      have hyl2 : ys.length = 2 := hyl
      rw [List.getElem?_eq_getElem (by omega)] at f0 f1
      simp only [List.getElem_toArray, List.getElem_cons_zero, List.getElem_cons_succ] at f0 f1
      rw [cS] at f0
      rw [cB] at f1
      simp only [List.drop_zero, List.drop_succ_cons, List.take_succ_cons, List.take_zero] at f0 f1
      obtain ⟨zs, k2, _, _, _, hzl, hgs⟩ := DataW.trod_struct Try.underlying24 f0
      have g0 := hgs 0 _ rfl
      have g1 := hgs 1 _ rfl
      have hzl2 : zs.length = 2 := hzl
      rw [List.getElem?_eq_getElem (by omega)] at g0 g1
      simp only [List.getElem_toArray, List.getElem_cons_zero, List.getElem_cons_succ] at g0 g1
      rw [cI] at g0 g1
      simp only [List.drop_zero, List.drop_succ_cons, List.take_succ_cons, List.take_zero] at g0 g1
      obtain ⟨n0, e0, _, w0⟩ := DataW.trod_int Try.underlying3 g0
      obtain ⟨n1, e1, _, w1⟩ := DataW.trod_int Try.underlying3 g1
      obtain ⟨n2, e2, _⟩ := DataW.trod_bool Try.underlying4 f1
      simp only [List.cons.injEq, and_true] at e0 e1 e2
      subst e0 e1 e2
      exact ⟨((n0, n1), n2), fun _ => ⟨b, off, rfl, hcs 0 (by omega), hcs 1 (by omega), hcs 2 (by omega)⟩⟩
    · exact ⟨((0, 0), false), fun h => absurd h hi⟩
  obtain ⟨st, hst⟩ := Classical.skolem.1 this
  exact ⟨st, hst⟩
set_option maxRecDepth 100000 in
theorem pair_in {fuel} {cs : Array Value} {x : DataW H × List MemPlace} (h : DataW.trod enc Try.prog W base spare held fuel 25 cs.toList = some x) (hsz : cs.size = 2) : ∃ a b : Int, cs = #[.int .i64 a, .int .i64 b] := by
  have cI : Try.prog.cellsOf 3 = 1 := by kernel_rfl
  obtain ⟨c0, c1, rfl⟩ : ∃ c0 c1, cs = #[c0, c1] := by
    obtain ⟨l⟩ := cs
    have hl : l.length = 2 := by simpa using hsz
    match l, hl with
    | [c0, c1], _ => exact ⟨c0, c1, rfl⟩
  obtain ⟨xs, m, _, _, _, hxl, hel⟩ := DataW.trod_array Try.underlying25 h
  have q0 := hel 0 (by omega)
  have q1 := hel 1 (by omega)
  rw [List.getElem?_eq_getElem (by omega), cI] at q0 q1
  simp only [List.drop_zero, List.drop_succ_cons, List.take_succ_cons, List.take_zero, Nat.zero_mul, Nat.one_mul] at q0 q1
  obtain ⟨n0, e0, _, w0⟩ := DataW.trod_int Try.underlying3 q0
  obtain ⟨n1, e1, _, w1⟩ := DataW.trod_int Try.underlying3 q1
  simp only [List.cons.injEq, and_true] at e0 e1
  exact ⟨n0, n1, by rw [e0, e1]⟩
end

set_option maxRecDepth 100000 in
theorem lifted (os : Os) (started : os.Started) (H : Type) (enc : TypeId × Value → H) :
    ReturnsInHanded {} Try.checked os 3 .any (Rows.extentPlaysSpec.pre6 enc Try.prog Try.f3 Rows.extentPlaysRow.domain false) (Rows.extentPlaysSpec.post enc Try.prog Try.f3 false true false false) := by
  refine returnsInHanded_of_change (C := Try.checked) own started (by kernel_rfl) Try.func3
    (ChangeSpec.witness6 (enc := enc) (C := Try.checked) false ⟨#[], #[.slice none 0 0, .agg #[.int .i64 0, .int .i64 0], .agg #[.int .i64 0, .int .i64 0]], []⟩ 8 (by kernel_rfl) (by kernel_rfl) (by kernel_rfl) (by kernel_rfl)) ?_
  intro W base args ds gs before hval0 hW hcnd _
  have hval : ∀ (j : Nat) t v, Try.f3.params[j]? = some t → args[j]? = some v → Value.okWide Try.prog W .any base t v := hval0
  have hW' := hW
  obtain ⟨p, q, hA0, hV, rfl, hfz, hnd⟩ := hW
  have hA : DataW.TrodAll enc Try.prog W 0 (fun _ => true) true Try.f3.params.toList args.toList ds p := hA0
  rw [Try.params3] at hA hval
  obtain ⟨v0, vs0, d0, ds0, p0, q0, hargs, rfl, rfl, h0, r0⟩ := trodAll_cons hA
  obtain ⟨v1, vs1, d1, ds1, p1, q1, rfl, rfl, rfl, h1, r1⟩ := trodAll_cons r0
  obtain ⟨v2, vs2, d2, ds2, p2, q2, rfl, rfl, rfl, h2, r2⟩ := trodAll_cons r1
  obtain ⟨rfl, rfl, rfl⟩ := trodAll_nil r2
  obtain rfl : args = #[v0, v1, v2] := by cases args; simp_all
  obtain ⟨rfl, rfl⟩ := trodVars_none hV
  obtain ⟨a0, len0, cap0, rfl⟩ := okWide_slice Try.underlying22 (hval 0 22 v0 rfl rfl)
  have k0 := h0
  have lt0 : ∀ x ∈ p0, x.block < W.heap.size := by obtain ⟨m, hm⟩ := k0; exact DataW.trod_lt m _ _ _ hm
  obtain ⟨fuel0, hf0⟩ := h0
  obtain ⟨cs1, rfl, hcs1⟩ := okWide_struct Try.underlying24 (hval 1 24 v1 rfl rfl)
  have k1 := h1
  have lt1 : ∀ x ∈ p1, x.block < W.heap.size := by obtain ⟨m, hm⟩ := k1; exact DataW.trod_lt m _ _ _ hm
  obtain ⟨fuel1, hf1⟩ := h1
  obtain ⟨cs2, rfl, hcs2⟩ := okWide_arr Try.underlying25 (hval 2 25 v2 rfl rfl)
  have k2 := h2
  have lt2 : ∀ x ∈ p2, x.block < W.heap.size := by obtain ⟨m, hm⟩ := k2; exact DataW.trod_lt m _ _ _ hm
  obtain ⟨fuel2, hf2⟩ := h2
  obtain ⟨hlc0, hcm0, f0, hin0⟩ := steps_in hf0
  unfold maxLen at hcm0
  have hn1 : ∃ a b : Int, cs1 = #[.int .i64 a, .int .i64 b] := by
    have hsz : cs1.size = 2 := hcs1.trans (by kernel_rfl)
    obtain ⟨n, hj⟩ := open_rec Try.underlying24 (by kernel_rfl) (by simp only [Value.cells]; simpa using hsz) hf1
    obtain ⟨u0, y0, e0, t0⟩ := hj 0 _ rfl
    obtain ⟨u1, y1, e1, t1⟩ := hj 1 _ rfl
    obtain ⟨n0, g0, _, w0⟩ := DataW.trod_int Try.underlying3 t0
    obtain ⟨n1, g1, _, w1⟩ := DataW.trod_int Try.underlying3 t1
    simp only [List.cons.injEq, and_true] at g0 g1
    subst g0 g1
    refine ⟨n0, n1, ?_⟩
    apply Array.ext'
    simp only [Value.cells] at e0 e1
    have hl : cs1.toList.length = 2 := by simpa using hsz
    apply List.ext_getElem?
    intro i
    rcases (by omega : i = 0 ∨ i = 1 ∨ 2 ≤ i) with rfl | rfl | h4
    · exact e0
    · exact e1
    · rw [List.getElem?_eq_none (by omega), List.getElem?_eq_none (by simpa using h4)]
  obtain ⟨xa1, xb1, rfl⟩ := hn1
  obtain ⟨ta2, tb2, rfl⟩ := pair_in hf2 (hcs2.trans (by kernel_rfl))
  have hw := plays_walk a0 len0 cap0 f0 (xa1, xb1) ta2 tb2 W hcm0 hlc0 hin0
  clear hA0 hval0
  refine (hw).mono fun e W' ⟨he, hup⟩ => ?_
  have bel := hup.below
  subst he
  exact ⟨_, rfl, _, _, _, [], _, [], hW', trodAll_mk1 (shut_bool Try.underlying4 _), (trodAll_cons_mk (Below.trod laidOut (by kernel_rfl) (of_decide_eq_true (by kernel_rfl)) k0 bel lt0) (trodAll_cons_mk (Below.trod laidOut (by kernel_rfl) (of_decide_eq_true (by kernel_rfl)) k1 bel lt1) (trodAll_cons_mk (Below.trod laidOut (by kernel_rfl) (of_decide_eq_true (by kernel_rfl)) k2 bel lt2) trodAll_mk0))), rfl, bel.frame _, fun h => by cases h⟩

theorem over : Rows.extentPlaysRow.holds Try.pinned (OpenSpec.ofChange Rows.extentPlaysSpec) :=
  OpenClaim.holds_of_wide 3 Try.f3 rfl rfl rfl rfl rfl rfl rfl ⟨rfl, rfl, rfl, rfl, rfl⟩ rfl rfl rfl rfl rfl (by kernel_rfl) Try.func3 (by kernel_rfl)
    (of_decide_eq_true (by kernel_rfl)) (by unfold Func.isWrapper; first | (rw [if_pos (by decide +kernel)]; kernel_rfl) | (rw [if_neg (by decide +kernel)]; exact ⟨rfl, rfl⟩))
    (fun os started H enc _ => lifted os started H enc)

theorem proved : Rows.ExtentPlaysSaid := over
end Go.Proofs.Ytibmhadnfggmlaa.extentPlays
namespace Go.Proofs.Ytibmhadnfggmlaa
theorem extentPlays_said : Rows.ExtentPlaysSaid := extentPlays.proved
#print axioms extentPlays_said
end Go.Proofs.Ytibmhadnfggmlaa

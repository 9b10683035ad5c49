/- Law 10: lives; BlockMany: its walk. -/
import Derived.Test.YtdehkaknbmbieaaSiz
import Derived.Test.YtdehkaknbmbieaaGU
namespace Go.Proofs.Ytdehkaknbmbieaa
set_option linter.unusedVariables false
set_option linter.unusedSimpArgs false
set_option linter.unusedSectionVars false
open Go.RowKit
attribute [local go_sem] Oper.semAt_some
set_option linter.unusedVariables false
set_option linter.unusedSimpArgs false

theorem fix256 : (ints (fixP 4)).getD 256 0 = 7 := by decide +kernel
theorem body_nil : bodyI (ints (fixP 4)) (ints (List.replicate 32 5)) (manyF []) = 7 := by
  rw [bodyI_bits _ _ (ints_in15 fix15.1) (ints_in15 fix15.2.1) [] (by simp) (by simp)]
  show (ints (fixP 4)).getD 256 0 = 7
  exact fix256
theorem tokIn_nil (w : World) : TokIn w none 0 [] := ⟨rfl, fun i h => absurd h (by simp)⟩
set_option maxRecDepth 100000 in
set_option maxHeartbeats 3200000 in
theorem lives10_any (w : World) : Calls Try.prog 21 #[] w fun e w' => LivesP w e w' := by
  have HS := Lib.hid (sizes_any [] none 0 0 w (tokIn_nil w) (by omega) (by simp))
  go_enter Try.func21, Try.ntmps21
  go_wp2_with fail
  refine HS.out.mono ?_
  rintro e w2 ⟨lits, backs, lens, steps, t, hM, hT, rfl, hU⟩
  have HU := Lib.hid hU
  rw [body_nil]
  generalize ((3 + (14 + 3 * t + szT lens steps) : Nat) : Int) + bodyI (ints lits) (ints backs) (manyF []) = Z
  generalize ((35 + 8 * expLen [] : Nat) : Int) = Y
  clear hM hT hU HS
  have hix : ∀ w, (Instr.index 61 (.agg #[.int .i64 Y, (.int .i64 10), .int .i64 Z]) (.int .i64 1)).run Try.prog w = .ok (.int .i64 10) w := fun w => by
    have := run_indexAgg (P := Try.prog) 61 3 3 Try.underlying61 .i64 Try.underlying3 (by kernel_rfl) [.int .i64 Y, (.int .i64 10), .int .i64 Z] rfl .i64 1 (by omega) w
    exact this
  go_wp2
  go_ret
  exact ⟨rfl, HU.out⟩
/-- Lengths that are asked, cut to what may be. -/
def xAt (l : List Nat) (n i : Nat) : List Nat := (List.range n).map fun j => if j < i then l.getD j 0 % 16 else 0
theorem xAt_len (l : List Nat) (n i : Nat) : (xAt l n i).length = n := by simp [xAt]
theorem xAt_zero (l : List Nat) (n : Nat) : xAt l n 0 = List.replicate n 0 := by
  unfold xAt
  have e : ∀ j : Nat, (if j < 0 then l.getD j 0 % 16 else 0) = 0 := fun j => if_neg (by omega)
  simp only [e, List.map_const', List.length_range]
theorem xAt_set (l : List Nat) (n i : Nat) (hi : i < n) : (xAt l n i).set i (l.getD i 0 % 16) = xAt l n (i + 1) := by
  refine List.ext_getElem? (fun j => ?_)
  unfold xAt
  rw [List.getElem?_set]
  by_cases h : i = j
  · subst h
    rw [if_pos rfl, if_pos (by simpa using hi), List.getElem?_map, List.getElem?_range hi]
    simp
  · rw [if_neg h, List.getElem?_map, List.getElem?_map]
    cases e : (List.range n)[j]? with
    | none => rfl
    | some y =>
      obtain ⟨hy, e2⟩ := List.getElem?_eq_some_iff.1 e
      simp at e2
      subst e2
      simp only [Option.map_some]
      by_cases h2 : j < i
      · rw [if_pos h2, if_pos (by omega)]
      · rw [if_neg h2, if_neg (by omega)]
theorem xAt_skip (l : List Nat) (n i : Nat) (h : l.length ≤ i) : xAt l n (i + 1) = xAt l n i := by
  unfold xAt
  refine List.map_congr_left (fun j _ => ?_)
  by_cases h2 : j < i
  · rw [if_pos h2, if_pos (by omega)]
  · rw [if_neg h2]
    split
    · rw [List.getD_eq_getElem?_getD, List.getElem?_eq_none (by omega)]; rfl
    · rfl
theorem xAt_15 (l : List Nat) (n i : Nat) : ∀ x ∈ xAt l n i, x ≤ 15 := by
  intro x hx
  obtain ⟨j, _, rfl⟩ := List.mem_map.1 hx
  split <;> omega
/-- Numbers without sign that can be read where a slice leads. -/
structure UintsIn (w : World) (a : Option Addr) (len : Nat) (l : List Nat) : Prop where
  len : l.length = len
  cell : ∀ i (h : i < l.length), ∃ b off, a = some ⟨b, off, none⟩ ∧ w.cell? ⟨b, off + i, none⟩ = some (.int .u64 (l[i] : Nat)) ∧ l[i] < 18446744073709551616
theorem UintsIn.pure {w w' : World} {a : Option Addr} {len : Nat} {l : List Nat} (h : UintsIn w a len l) (hU : Upd [] w w') : UintsIn w' a len l :=
  ⟨h.len, fun i hi => by
    obtain ⟨b, off, e, c, r⟩ := h.cell i hi
    exact ⟨b, off, e, (hU.at (World.block_lt_of_cell? w _ c) (by simp) _).trans c, r⟩⟩
theorem addAt_pad (a z : List Nat) (c : Nat) (h : c < a.length) : addAt (a ++ z) c = addAt a c ++ z := by
  unfold addAt
  rw [List.set_append_left _ _ h, List.getD_eq_getElem?_getD, List.getElem?_append_left h]
  rfl
end Go.Proofs.Ytdehkaknbmbieaa

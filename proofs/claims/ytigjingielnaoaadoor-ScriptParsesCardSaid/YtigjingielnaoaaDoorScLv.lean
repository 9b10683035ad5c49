/- Layer 35: the document's example: its walk. -/
import Derived.Deep.QuietTactic
import Derived.BigQuiet
import Derived.Test.YtigjingielnaoaaDoorScN
namespace Go.Proofs.YtigjingielnaoaaDoor
set_option linter.unusedVariables false
set_option linter.unusedSimpArgs false
set_option linter.unusedSectionVars false
open Go.RowKit
attribute [local go_sem] Oper.semAt_some
set_option linter.unusedVariables false
set_option linter.unusedSimpArgs false

/-- The example's event, its cells. -/
def ev0 : List Value := [.int .i64 5, .string ⟨#[]⟩, .string ⟨#[]⟩, .int .i64 0, .int .i64 0, .int .u32 0, .string ⟨#[]⟩, .int .i64 3, .slice none 0 0]
section
variable {P : Program}
theorem run_indexAggS (T e : TypeId) (n : Nat) (hT : P.underlying T = some (.array n e)) (he : P.underlying e = some .string)
    (hs : (P.info? e).map (·.size) = some 1) (cs : List Value) (hl : cs.length = n) (k : IntKind) (i : Nat) (hi : i < n) (w : World) :
    (Instr.index T (.agg cs.toArray) (.int k (i : Int))).run P w = .ok (cs.getD i undef) w := by
  obtain ⟨f, hf1, hf2⟩ := Option.map_eq_some_iff.1 hs
  simp [Instr.index, asIntOf, run_underlying hT, sizeOf, typeInfo, hf1, hf2, hi, part, isAgg, run_underlying he]
  simp [show i < cs.length by omega]
end
/-- The names of the steps. -/
def opNames : List (List Nat) := [[112, 117, 116], [99, 108, 101, 97, 114], [114, 101, 110, 97, 109, 101], [101, 100, 105, 116], [115, 121, 110, 99], [112, 97, 99, 107], [117, 110, 112, 97, 99, 107], [99, 111, 109, 112, 97, 99, 116], [118, 101, 114, 105, 102, 121], [115, 116, 97, 116, 117, 115], [112, 111, 119, 101, 114], [102, 97, 105, 108], [108, 105, 109, 105, 116], [114, 101, 99, 111, 118, 101, 114]]
set_option maxRecDepth 100000 in
theorem name_sync (w : World) : Calls Tryd.prog 74 #[.int .i64 5] w fun e w' => e = .returned (.string ⟨#[115, 121, 110, 99]⟩) ∧ w' = w := by
  have hix := run_indexAggS (P := Tryd.prog) 120 9 14 Tryd.underlying120 Tryd.underlying9 (by kernel_rfl) (opNames.map fun p => .string (strOf p)) rfl .i64 4 (by omega) w
  have e : (opNames.map fun p => (Value.string (strOf p))).toArray = #[.string ⟨#[112, 117, 116]⟩, .string ⟨#[99, 108, 101, 97, 114]⟩, .string ⟨#[114, 101, 110, 97, 109, 101]⟩, .string ⟨#[101, 100, 105, 116]⟩, .string ⟨#[115, 121, 110, 99]⟩, .string ⟨#[112, 97, 99, 107]⟩, .string ⟨#[117, 110, 112, 97, 99, 107]⟩, .string ⟨#[99, 111, 109, 112, 97, 99, 116]⟩, .string ⟨#[118, 101, 114, 105, 102, 121]⟩, .string ⟨#[115, 116, 97, 116, 117, 115]⟩, .string ⟨#[112, 111, 119, 101, 114]⟩, .string ⟨#[102, 97, 105, 108]⟩, .string ⟨#[108, 105, 109, 105, 116]⟩, .string ⟨#[114, 101, 99, 111, 118, 101, 114]⟩] := rfl
  rw [e] at hix
  have e2 : (opNames.map fun p => (Value.string (strOf p))).getD 4 undef = .string ⟨#[115, 121, 110, 99]⟩ := rfl
  rw [e2] at hix
  simp only [Int.cast_ofNat_Int] at hix
  clear e e2
  go_enter Tryd.func74, Tryd.ntmps74
  go_wp2
  go_ret
  exact ⟨rfl, rfl⟩
theorem policy3 (w : World) : Calls Tryd.prog 104 #[.int .i64 3] w fun e w' => e = .returned (.bool true) ∧ w' = w := by
  go_enter Tryd.func104, Tryd.ntmps104
  go_wp2
  go_ret
  exact ⟨rfl, rfl⟩
set_option maxRecDepth 100000 in
theorem rname3 (w : World) : Calls Tryd.prog 76 #[.int .i64 3] w fun e w' => e = .returned (.string ⟨#[110, 101, 119, 101, 114]⟩) ∧ w' = w := by
  go_enter Tryd.func76, Tryd.ntmps76
  go_wp2_with fail
  refine (policy3 _).mono ?_
  rintro e w1 ⟨rfl, hw1⟩
  subst hw1
  have hix := run_indexAggS (P := Tryd.prog) 121 9 4 Tryd.underlying121 Tryd.underlying9 (by kernel_rfl) [.string ⟨#[115, 107, 105, 112]⟩, .string ⟨#[108, 101, 102, 116]⟩, .string ⟨#[114, 105, 103, 104, 116]⟩, .string ⟨#[110, 101, 119, 101, 114]⟩] rfl .i64 3 (by omega) w1
  have e2 : ([.string ⟨#[115, 107, 105, 112]⟩, .string ⟨#[108, 101, 102, 116]⟩, .string ⟨#[114, 105, 103, 104, 116]⟩, .string ⟨#[110, 101, 119, 101, 114]⟩] : List Value).getD 3 undef = .string ⟨#[110, 101, 119, 101, 114]⟩ := rfl
  rw [e2] at hix
  simp only [Int.cast_ofNat_Int] at hix
  go_wp2
  go_ret
  exact ⟨rfl, rfl⟩
theorem equal0 (w : World) : Calls Tryd.prog 122 #[.slice none 0 0, .slice none 0 0] w fun e w' => e = .returned (.bool true) ∧ w' = w := by
  go_enter Tryd.func122, Tryd.ntmps122
  go_wp2
  go_loopg [13] 1 (fun gg s13 wr => gg = 1 ∧ s13 = .int .i64 0 ∧ wr = w)
  case atStart => exact ⟨rfl, rfl, rfl⟩
  case round =>
    obtain ⟨rfl, rfl, rfl⟩ := hrel
    go_wp2
    go_ret
    exact ⟨rfl, rfl⟩
set_option maxRecDepth 100000 in
set_option maxHeartbeats 3200000 in
theorem may0 (w : World) : Calls Tryd.prog 102 #[.agg ev0.toArray] w fun e w' => e = .returned (.bool true) ∧ Upd [] w w' := by
  have HB := Lib.hid (Blk.new w ev0 44)
  have HU := Lib.hid ((Upd.refl [] w).alloc (.cells ev0.toArray 44))
  unfold ev0 at HB HU ⊢
  go_enter Tryd.func102, Tryd.ntmps102
  have c0 := HB.out.cell 0 rfl
  have c7 := HB.out.cell 7 rfl
  go_wp2_with fail
  refine (policy3 _).mono ?_
  rintro e w1 ⟨rfl, hw1⟩
  subst hw1
  go_wp2
  go_ret
  exact ⟨rfl, HU.out⟩
theorem results_ev {fn : Func} {p : Tmp} (h : fn.results = #[.cell p 44]) (tmps : Array Value) (w : World) (g : Nat) (c0 c1 c2 c3 c4 c5 c6 c7 c8 : Value) (hp : tmps.getD p undef = .pointer (some ⟨g, 0, none⟩)) (hB : Blk w g [c0, c1, c2, c3, c4, c5, c6, c7, c8] 44) :
    (results fn tmps).run Tryd.prog w = .ok (.agg #[c0, c1, c2, c3, c4, c5, c6, c7, c8]) w := by
  have h0 := hB.cell 0 rfl
  have h1 := hB.cell 1 rfl
  have h2 := hB.cell 2 rfl
  have h3 := hB.cell 3 rfl
  have h4 := hB.cell 4 rfl
  have h5 := hB.cell 5 rfl
  have h6 := hB.cell 6 rfl
  have h7 := hB.cell 7 rfl
  have h8 := hB.cell 8 rfl
  have hp2 : tmps[p]?.getD undef = .pointer (some ⟨g, 0, none⟩) := by rw [← hp]; simp
  simp [results, h, go_sem, hp2, h0, h1, h2, h3, h4, h5, h6, h7, h8]
set_option maxRecDepth 100000 in
set_option maxHeartbeats 3200000 in
theorem bare0 (w : World) : Calls Tryd.prog 51 #[.agg ev0.toArray] w fun e w' => e = .returned (.agg ev0.toArray) ∧ Upd [] w w' := by
  unfold ev0
  go_enter Tryd.func51, Tryd.ntmps51
  go_upto_region 17 with fail
  have HBo : Hid (Blk (((w.alloc (.cells #[.int .i64 5, .string ⟨#[]⟩, .string ⟨#[]⟩, .int .i64 0, .int .i64 0, .int .u32 0, .string ⟨#[]⟩, .int .i64 3, .slice none 0 0] 44)).alloc (.cells #[.int .i64 0, .string ⟨#[]⟩, .string ⟨#[]⟩, .int .i64 0, .int .i64 0, .int .u32 0, .string ⟨#[]⟩, .int .i64 0, .slice none 0 0] 44)).alloc (.cells #[.int .i64 5, .string ⟨#[]⟩, .string ⟨#[]⟩, .int .i64 0, .int .i64 0, .int .u32 0, .string ⟨#[]⟩, .int .i64 3, .slice none 0 0] 44)) (w.heap.size + 1) [.int .i64 0, .string ⟨#[]⟩, .string ⟨#[]⟩, .int .i64 0, .int .i64 0, .int .u32 0, .string ⟨#[]⟩, .int .i64 0, .slice none 0 0] 44) := Lib.hid (by
    have h := (Blk.new (w.alloc (.cells #[.int .i64 5, .string ⟨#[]⟩, .string ⟨#[]⟩, .int .i64 0, .int .i64 0, .int .u32 0, .string ⟨#[]⟩, .int .i64 3, .slice none 0 0] 44)) [.int .i64 0, .string ⟨#[]⟩, .string ⟨#[]⟩, .int .i64 0, .int .i64 0, .int .u32 0, .string ⟨#[]⟩, .int .i64 0, .slice none 0 0] 44).alloc (.cells #[.int .i64 5, .string ⟨#[]⟩, .string ⟨#[]⟩, .int .i64 0, .int .i64 0, .int .u32 0, .string ⟨#[]⟩, .int .i64 3, .slice none 0 0] 44)
    simpa using h)
  have HBl : Hid (Blk (((w.alloc (.cells #[.int .i64 5, .string ⟨#[]⟩, .string ⟨#[]⟩, .int .i64 0, .int .i64 0, .int .u32 0, .string ⟨#[]⟩, .int .i64 3, .slice none 0 0] 44)).alloc (.cells #[.int .i64 0, .string ⟨#[]⟩, .string ⟨#[]⟩, .int .i64 0, .int .i64 0, .int .u32 0, .string ⟨#[]⟩, .int .i64 0, .slice none 0 0] 44)).alloc (.cells #[.int .i64 5, .string ⟨#[]⟩, .string ⟨#[]⟩, .int .i64 0, .int .i64 0, .int .u32 0, .string ⟨#[]⟩, .int .i64 3, .slice none 0 0] 44)) (w.heap.size + 1 + 1) [.int .i64 5, .string ⟨#[]⟩, .string ⟨#[]⟩, .int .i64 0, .int .i64 0, .int .u32 0, .string ⟨#[]⟩, .int .i64 3, .slice none 0 0] 44) := Lib.hid (by
    have h := Blk.new ((w.alloc (.cells #[.int .i64 5, .string ⟨#[]⟩, .string ⟨#[]⟩, .int .i64 0, .int .i64 0, .int .u32 0, .string ⟨#[]⟩, .int .i64 3, .slice none 0 0] 44)).alloc (.cells #[.int .i64 0, .string ⟨#[]⟩, .string ⟨#[]⟩, .int .i64 0, .int .i64 0, .int .u32 0, .string ⟨#[]⟩, .int .i64 0, .slice none 0 0] 44)) [.int .i64 5, .string ⟨#[]⟩, .string ⟨#[]⟩, .int .i64 0, .int .i64 0, .int .u32 0, .string ⟨#[]⟩, .int .i64 3, .slice none 0 0] 44
    simpa using h)
  have HU := Lib.hid ((((Upd.refl [] w).alloc (.cells #[.int .i64 5, .string ⟨#[]⟩, .string ⟨#[]⟩, .int .i64 0, .int .i64 0, .int .u32 0, .string ⟨#[]⟩, .int .i64 3, .slice none 0 0] 44)).alloc (.cells #[.int .i64 0, .string ⟨#[]⟩, .string ⟨#[]⟩, .int .i64 0, .int .i64 0, .int .u32 0, .string ⟨#[]⟩, .int .i64 0, .slice none 0 0] 44)).alloc (.cells #[.int .i64 5, .string ⟨#[]⟩, .string ⟨#[]⟩, .int .i64 0, .int .i64 0, .int .u32 0, .string ⟨#[]⟩, .int .i64 3, .slice none 0 0] 44))
  change Code.wp _ _ _ _ (((w.alloc (.cells #[.int .i64 5, .string ⟨#[]⟩, .string ⟨#[]⟩, .int .i64 0, .int .i64 0, .int .u32 0, .string ⟨#[]⟩, .int .i64 3, .slice none 0 0] 44)).alloc (.cells #[.int .i64 0, .string ⟨#[]⟩, .string ⟨#[]⟩, .int .i64 0, .int .i64 0, .int .u32 0, .string ⟨#[]⟩, .int .i64 0, .slice none 0 0] 44)).alloc (.cells #[.int .i64 5, .string ⟨#[]⟩, .string ⟨#[]⟩, .int .i64 0, .int .i64 0, .int .u32 0, .string ⟨#[]⟩, .int .i64 3, .slice none 0 0] 44))
  generalize ((w.alloc (.cells #[.int .i64 5, .string ⟨#[]⟩, .string ⟨#[]⟩, .int .i64 0, .int .i64 0, .int .u32 0, .string ⟨#[]⟩, .int .i64 3, .slice none 0 0] 44)).alloc (.cells #[.int .i64 0, .string ⟨#[]⟩, .string ⟨#[]⟩, .int .i64 0, .int .i64 0, .int .u32 0, .string ⟨#[]⟩, .int .i64 0, .slice none 0 0] 44)).alloc (.cells #[.int .i64 5, .string ⟨#[]⟩, .string ⟨#[]⟩, .int .i64 0, .int .i64 0, .int .u32 0, .string ⟨#[]⟩, .int .i64 3, .slice none 0 0] 44) = w4 at *
  obtain ⟨o, ho⟩ : ∃ o, w.heap.size + 1 = o := ⟨_, rfl⟩
  have HO := Lib.hid (show w.heap.size ≤ o by omega)
  rw [ho] at HBo HBl ⊢
  generalize o + 1 = lb at *
  clear ho
  have c0 := HBl.out.cell 0 rfl
  have o0 := HBo.out.cell 0 rfl
  have f0 := HBo.out.frz 0
  have c1 := HBl.out.cell 1 rfl
  have o1 := HBo.out.cell 1 rfl
  have f1 := HBo.out.frz 1
  have c2 := HBl.out.cell 2 rfl
  have o2 := HBo.out.cell 2 rfl
  have f2 := HBo.out.frz 2
  have c3 := HBl.out.cell 3 rfl
  have o3 := HBo.out.cell 3 rfl
  have f3 := HBo.out.frz 3
  have c4 := HBl.out.cell 4 rfl
  have o4 := HBo.out.cell 4 rfl
  have f4 := HBo.out.frz 4
  have c5 := HBl.out.cell 5 rfl
  have o5 := HBo.out.cell 5 rfl
  have f5 := HBo.out.frz 5
  have c6 := HBl.out.cell 6 rfl
  have o6 := HBo.out.cell 6 rfl
  have f6 := HBo.out.frz 6
  have c7 := HBl.out.cell 7 rfl
  have o7 := HBo.out.cell 7 rfl
  have f7 := HBo.out.frz 7
  have c8 := HBl.out.cell 8 rfl
  have o8 := HBo.out.cell 8 rfl
  have f8 := HBo.out.frz 8
  go_wp2
  refine bodyPost_ret (results_ev rfl _ _ o _ _ _ _ _ _ _ _ _ rfl (Blk.set (Blk.set (Blk.set (Blk.set (Blk.set (Blk.set (Blk.set (Blk.set (Blk.set HBo.out 0 (.int .i64 5)) 1 (.string ⟨#[]⟩)) 2 (.string ⟨#[]⟩)) 3 (.int .i64 0)) 4 (.int .i64 0)) 5 (.int .u32 0)) 6 (.string ⟨#[]⟩)) 7 (.int .i64 3)) 8 (.slice none 0 0))) rfl ?_
  exact ⟨rfl, (Upd.setCell (Upd.setCell (Upd.setCell (Upd.setCell (Upd.setCell (Upd.setCell (Upd.setCell (Upd.setCell (Upd.setCell HU.out (p := ⟨o, 0, none⟩) (.inr HO.out) (.int .i64 5)) (p := ⟨o, 1, none⟩) (.inr HO.out) (.string ⟨#[]⟩)) (p := ⟨o, 2, none⟩) (.inr HO.out) (.string ⟨#[]⟩)) (p := ⟨o, 3, none⟩) (.inr HO.out) (.int .i64 0)) (p := ⟨o, 4, none⟩) (.inr HO.out) (.int .i64 0)) (p := ⟨o, 5, none⟩) (.inr HO.out) (.int .u32 0)) (p := ⟨o, 6, none⟩) (.inr HO.out) (.string ⟨#[]⟩)) (p := ⟨o, 7, none⟩) (.inr HO.out) (.int .i64 3)) (p := ⟨o, 8, none⟩) (.inr HO.out) (.slice none 0 0))⟩
set_option maxRecDepth 100000 in
set_option maxHeartbeats 3200000 in
theorem same0 (w : World) : Calls Tryd.prog 103 #[.agg ev0.toArray, .agg ev0.toArray] w fun e w' => e = .returned (.bool true) ∧ Upd [] w w' := by
  have HB := Lib.hid ((Blk.new w ev0 44).alloc (.cells ev0.toArray 44))
  have HB2 : Hid (Blk ((w.alloc (.cells ev0.toArray 44)).alloc (.cells ev0.toArray 44)) (w.heap.size + 1) ev0 44) := Lib.hid (by
    have h := Blk.new (w.alloc (.cells ev0.toArray 44)) ev0 44
    simpa using h)
  have HU := Lib.hid (((Upd.refl [] w).alloc (.cells ev0.toArray 44)).alloc (.cells ev0.toArray 44))
  unfold ev0 at HB HB2 HU ⊢
  go_enter Tryd.func103, Tryd.ntmps103
  have c0 := HB.out.cell 0 rfl
  have c1 := HB.out.cell 1 rfl
  have c2 := HB.out.cell 2 rfl
  have c3 := HB.out.cell 3 rfl
  have c4 := HB.out.cell 4 rfl
  have c5 := HB.out.cell 5 rfl
  have c6 := HB.out.cell 6 rfl
  have c7 := HB.out.cell 7 rfl
  have c8 := HB.out.cell 8 rfl
  have d0 := HB2.out.cell 0 rfl
  have d1 := HB2.out.cell 1 rfl
  have d2 := HB2.out.cell 2 rfl
  have d3 := HB2.out.cell 3 rfl
  have d4 := HB2.out.cell 4 rfl
  have d5 := HB2.out.cell 5 rfl
  have d6 := HB2.out.cell 6 rfl
  have d7 := HB2.out.cell 7 rfl
  have d8 := HB2.out.cell 8 rfl
  go_wp2_with fail
  refine (equal0 _).mono ?_
  rintro e w2 ⟨rfl, hw2⟩
  subst hw2
  go_wp2
  go_ret
  exact ⟨rfl, HU.out⟩
set_option maxRecDepth 100000 in
set_option maxHeartbeats 3200000 in
theorem right0 (w : World) : Calls Tryd.prog 73 #[.agg ev0.toArray] w fun e w' => e = .returned (.bool true) ∧ Upd [] w w' := by
  have HB0 := Lib.hid (Blk.new w ev0 44)
  have HU0 := Lib.hid ((Upd.refl [] w).alloc (.cells ev0.toArray 44))
  have HM := Lib.hid may0
  have HBA := Lib.hid bare0
  have HSA := Lib.hid same0
  unfold ev0 at HB0 HU0 HM HBA HSA ⊢
  go_enter Tryd.func73, Tryd.ntmps73
  go_upto_region 1 with fail
  change Code.wp _ _ _ _ (w.alloc (.cells #[.int .i64 5, .string ⟨#[]⟩, .string ⟨#[]⟩, .int .i64 0, .int .i64 0, .int .u32 0, .string ⟨#[]⟩, .int .i64 3, .slice none 0 0] 44))
  generalize w.alloc (.cells #[.int .i64 5, .string ⟨#[]⟩, .string ⟨#[]⟩, .int .i64 0, .int .i64 0, .int .u32 0, .string ⟨#[]⟩, .int .i64 3, .slice none 0 0] 44) = w0 at *
  generalize w.heap.size = q0 at *
  refine wp_region_held_drew (S := fun w' => Blk w' q0 [.int .i64 5, .string ⟨#[]⟩, .string ⟨#[]⟩, .int .i64 0, .int .i64 0, .int .u32 0, .string ⟨#[]⟩, .int .i64 3, .slice none 0 0] 44 ∧ Upd [] w w') (by kernel_rfl) ⟨HB0.out, HU0.out.drew⟩ (fun hHeld => ?_)
  change wpAnyH _ _ _ _ _ 9 #[false, false, false, false, false, false, false, false, false] _ _
  refine heldTake (i := 0) (d := some 3) (v := ?v0_1) rfl rfl (by kernel_rfl) (by kernel_rfl) (by kernel_rfl) (fun _ _ _ h => h) (by rfl) ?hy0_1 (by assumption) ?r0_1
  case hy0_1 => (intro w5 hSw; have q0c0 := hSw.1.cell 0 rfl; have q0c1 := hSw.1.cell 1 rfl; have q0c2 := hSw.1.cell 2 rfl; have q0c3 := hSw.1.cell 3 rfl; have q0c4 := hSw.1.cell 4 rfl; have q0c5 := hSw.1.cell 5 rfl; have q0c6 := hSw.1.cell 6 rfl; have q0c7 := hSw.1.cell 7 rfl; have q0c8 := hSw.1.cell 8 rfl; go_simp; try with_reducible rfl)
  try simp only [Act.put, List.setIfInBounds_toArray, List.set_cons_zero, List.set_cons_succ]
  change wpAnyH _ _ _ _ _ 8 #[true, false, false, false, false, false, false, false, false] _ _
  refine wpAnyH_ready (rs := [1]) (by kernel_rfl) (by simp) ?_
  refine AllReadyH.cons rfl (fun K hK => ?_) AllReadyH.nil
  go_simp
  refine (HM.out _).mono ?_
  rintro e z9 ⟨rfl, hz9⟩
  go_wp2
  refine hK.out _ _ ⟨hHeld.1.upd hz9 (by simp), hHeld.2.then hz9⟩ (fun hHeld => ?_)
  clear hK K
  try simp only [Act.put, List.setIfInBounds_toArray, List.set_cons_zero, List.set_cons_succ]
  change wpAnyH _ _ _ _ _ 7 #[true, true, false, false, false, false, false, false, false] _ _
  refine heldTake (i := 2) (d := some 5) (v := ?v2_3) rfl rfl (by kernel_rfl) (by kernel_rfl) (by kernel_rfl) (fun _ _ _ h => h) (by rfl) ?hy2_3 (by assumption) ?r2_3
  case hy2_3 => (intro w hSw; (try dsimp only at hSw); go_simp; try with_reducible rfl)
  try simp only [Act.put, List.setIfInBounds_toArray, List.set_cons_zero, List.set_cons_succ]
  change wpAnyH _ _ _ _ _ 6 #[true, true, true, false, false, false, false, false, false] _ _
  refine heldTake (i := 3) (d := some 6) (v := ?v3_4) rfl rfl (by kernel_rfl) (by kernel_rfl) (by kernel_rfl) (fun _ _ _ h => h) (by rfl) ?hy3_4 (by assumption) ?r3_4
  case hy3_4 => (intro w5 hSw; have q0c0 := hSw.1.cell 0 rfl; have q0c1 := hSw.1.cell 1 rfl; have q0c2 := hSw.1.cell 2 rfl; have q0c3 := hSw.1.cell 3 rfl; have q0c4 := hSw.1.cell 4 rfl; have q0c5 := hSw.1.cell 5 rfl; have q0c6 := hSw.1.cell 6 rfl; have q0c7 := hSw.1.cell 7 rfl; have q0c8 := hSw.1.cell 8 rfl; go_simp; try with_reducible rfl)
  try simp only [Act.put, List.setIfInBounds_toArray, List.set_cons_zero, List.set_cons_succ]
  change wpAnyH _ _ _ _ _ 5 #[true, true, true, true, false, false, false, false, false] _ _
  refine heldTake (i := 4) (d := some 7) (v := ?v4_5) rfl rfl (by kernel_rfl) (by kernel_rfl) (by kernel_rfl) (fun _ _ _ h => h) (by rfl) ?hy4_5 (by assumption) ?r4_5
  case hy4_5 => (intro w5 hSw; have q0c0 := hSw.1.cell 0 rfl; have q0c1 := hSw.1.cell 1 rfl; have q0c2 := hSw.1.cell 2 rfl; have q0c3 := hSw.1.cell 3 rfl; have q0c4 := hSw.1.cell 4 rfl; have q0c5 := hSw.1.cell 5 rfl; have q0c6 := hSw.1.cell 6 rfl; have q0c7 := hSw.1.cell 7 rfl; have q0c8 := hSw.1.cell 8 rfl; go_simp; try with_reducible rfl)
  try simp only [Act.put, List.setIfInBounds_toArray, List.set_cons_zero, List.set_cons_succ]
  change wpAnyH _ _ _ _ _ 4 #[true, true, true, true, true, false, false, false, false] _ _
  refine wpAnyH_ready (rs := [5]) (by kernel_rfl) (by simp) ?_
  refine AllReadyH.cons rfl (fun K hK => ?_) AllReadyH.nil
  go_simp
  refine (HBA.out _).mono ?_
  rintro e z9 ⟨rfl, hz9⟩
  go_wp2
  refine hK.out _ _ ⟨hHeld.1.upd hz9 (by simp), hHeld.2.then hz9⟩ (fun hHeld => ?_)
  clear hK K
  try simp only [Act.put, List.setIfInBounds_toArray, List.set_cons_zero, List.set_cons_succ]
  change wpAnyH _ _ _ _ _ 3 #[true, true, true, true, true, true, false, false, false] _ _
  refine wpAnyH_ready (rs := [6]) (by kernel_rfl) (by simp) ?_
  refine AllReadyH.cons rfl (fun K hK => ?_) AllReadyH.nil
  go_simp
  refine (HSA.out _).mono ?_
  rintro e z9 ⟨rfl, hz9⟩
  go_wp2
  refine hK.out _ _ ⟨hHeld.1.upd hz9 (by simp), hHeld.2.then hz9⟩ (fun hHeld => ?_)
  clear hK K
  try simp only [Act.put, List.setIfInBounds_toArray, List.set_cons_zero, List.set_cons_succ]
  change wpAnyH _ _ _ _ _ 2 #[true, true, true, true, true, true, true, false, false] _ _
  refine heldTake (i := 7) (d := some 10) (v := ?v7_8) rfl rfl (by kernel_rfl) (by kernel_rfl) (by kernel_rfl) (fun _ _ _ h => h) (by rfl) ?hy7_8 (by assumption) ?r7_8
  case hy7_8 => (intro w hSw; (try dsimp only at hSw); go_simp; try with_reducible rfl)
  try simp only [Act.put, List.setIfInBounds_toArray, List.set_cons_zero, List.set_cons_succ]
  change wpAnyH _ _ _ _ _ 1 #[true, true, true, true, true, true, true, true, false] _ _
  refine heldTake (i := 8) (d := some 2) (v := ?v8_9) rfl rfl (by kernel_rfl) (by kernel_rfl) (by kernel_rfl) (fun _ _ _ h => h) (by rfl) ?hy8_9 (by assumption) ?r8_9
  case hy8_9 => (intro w hSw; (try dsimp only at hSw); go_simp; try with_reducible rfl)
  try simp only [Act.put, List.setIfInBounds_toArray, List.set_cons_zero, List.set_cons_succ]
  change wpAnyH _ _ _ _ _ 0 #[true, true, true, true, true, true, true, true, true] _ _
  refine wpAnyH_done (by kernel_rfl) ?_ 0
  go_wp2_with fail
  go_ret
  exact ⟨rfl, hHeld.2⟩
theorem infoStr4 : (Tryd.prog.info? 9).map (fun i => (i.zero, i.size, i.bytes)) = some (some (.string ByteArray.empty), 1, 16) := by kernel_rfl
/-- What Line's closure gives. -/
def Ln1P (b : Nat) (v : Value) (ps qs : List (List Nat)) (w : World) (e : Ending) (w' : World) : Prop := e = .returned (.tuple #[]) ∧ ∃ v', Blk w' b [v'] 40 ∧ Row w' 9 1 v' (ps.length + qs.length) (strsV (ps ++ qs)) ∧ Upd (b :: v.ownBlock.toList) w w' ∧ Later w v v'
set_option maxRecDepth 100000 in
set_option maxHeartbeats 3200000 in
theorem line1_any (b g : Nat) (v : Value) (ps qs : List (List Nat)) (w : World) (hB : Blk w b [v] 40) (hR : Row w 9 1 v ps.length (strsV ps)) (hg : Blk w g (strsV qs) 9) (hn : ps.length + qs.length ≤ 100) :
    Calls Tryd.prog 75 #[.slice (some ⟨g, 0, none⟩) qs.length qs.length, .pointer (some ⟨b, 0, none⟩)] w fun e w' => Ln1P b v ps qs w e w' := by
  obtain ⟨i0, hi, jz0, jz1, jz2⟩ := info_parts infoStr4
  obtain ⟨va, vc, rfl⟩ := hR.form
  have hnb : (Value.slice va ps.length vc).ownBlock ≠ some b := hR.ne_cellsS hB (by decide)
  have c0 := hB.cell 0 rfl
  have f0 := hB.frz 0
  have HB := Lib.hid hB
  have HR := Lib.hid hR
  have HNW : Hid (∀ j u, (strsV qs)[j]? = some u → w.cell? ((⟨g, 0, none⟩ : Addr).add j) = some u) := Lib.hid (fun j u hu => by rw [Addr.add_lit, Nat.zero_add]; exact hg.cell j hu)
  have HST : Hid (∀ u ∈ strsV qs, u.oneCell' = true) := Lib.hid (fun u hu => by obtain ⟨p, _, rfl⟩ := List.mem_map.1 hu; rfl)
  have HQL : Hid ((strsV qs).length = qs.length * 1) := Lib.hid (by rw [Nat.mul_one]; exact List.length_map _)
  have HSV : Hid (strsV (ps ++ qs) = strsV ps ++ strsV qs) := Lib.hid (by simp [strsV])
  generalize strsV qs = Q at *
  obtain ⟨m, hm⟩ : ∃ m, qs.length = m := ⟨_, rfl⟩
  have HM := Lib.hid hm
  rw [hm] at HQL hn ⊢
  clear hm
  clear hg hB hR
  go_enter Tryd.func75, Tryd.ntmps75
  go_wp2_with (at_builtin; refine wpList_app _ rfl _ _ 40 rfl 9 i0 _ 1 16 Tryd.underlying40 hi jz0 jz1 jz2 rfl (by omega) (.slice va ps.length vc) ps.length _ rfl HR.out ⟨g, 0, none⟩ m m Q rfl HQL.out HNW.out HST.out (by unfold maxLen; omega) (by omega) ?_)
  intro v5 w5 hR5 hU5 hT5
  obtain ⟨v5a, v5c, rfl⟩ := hR5.form
  have hB5 := HB.out.upd hU5 (by simpa using hnb)
  have k0 := hB5.cell 0 rfl
  have g0 := hB5.frz 0
  have hnf : (Value.slice v5a (ps.length + m) v5c).ownBlock ≠ some b := hR5.ne_cellsS hB5 (by decide)
  have hfin : Ln1P b (.slice va ps.length vc) ps qs w (.returned (.tuple #[])) (w5.setCell ⟨b, 0, none⟩ (.slice v5a (ps.length + m) v5c)) := by
    refine ⟨rfl, _, hB5.set 0 (.slice v5a (ps.length + m) v5c), ?_, (hU5.mono (fun k hk => .inl (by simp [hk]))).setCell (.inl (by simp)) _, hT5⟩
    rw [HM.out, HSV.out]
    exact hR5.setFar _ hnf
  have HFIN := Lib.hid hfin
  clear hR5 hU5 hT5 hB5 hfin c0 f0
  go_wp2
  go_returns
  exact HFIN.out
set_option maxRecDepth 100000 in
set_option maxHeartbeats 3200000 in
theorem line0 (w : World) : Calls Tryd.prog 44 #[.agg ev0.toArray] w fun e w' => e = .returned (.string (strOf (joinC 9 [[115, 121, 110, 99], [110, 101, 119, 101, 114]]))) ∧ Upd [] w w' := by
  have HB0 := Lib.hid (Blk.new w ev0 44)
  have HU0 := Lib.hid ((Upd.refl [] w).alloc (.cells ev0.toArray 44))
  have HR := Lib.hid right0
  unfold ev0 at HB0 HU0 HR ⊢
  go_enter Tryd.func44, Tryd.ntmps44
  go_wp2_with fail
  change Calls _ _ _ (w.alloc (.cells #[.int .i64 5, .string ⟨#[]⟩, .string ⟨#[]⟩, .int .i64 0, .int .i64 0, .int .u32 0, .string ⟨#[]⟩, .int .i64 3, .slice none 0 0] 44)) _
  generalize w.alloc (.cells #[.int .i64 5, .string ⟨#[]⟩, .string ⟨#[]⟩, .int .i64 0, .int .i64 0, .int .u32 0, .string ⟨#[]⟩, .int .i64 3, .slice none 0 0] 44) = w0 at *
  generalize w.heap.size = q0 at *
  refine (HR.out _).mono ?_
  rintro e w1 ⟨rfl, hu1⟩
  have HB1 := Lib.hid (HB0.out.upd hu1 (by simp))
  have HU1 := Lib.hid (HU0.out.then hu1)
  clear hu1 HB0 HU0 HR
  have c0 := HB1.out.cell 0 rfl
  go_wp2_with fail
  refine (name_sync _).mono ?_
  rintro e w2 ⟨rfl, hw2⟩
  subst hw2
  go_upto_region 4 with fail
  have HG : Hid (Blk ((w2.alloc (.cells #[.string ⟨#[115, 121, 110, 99]⟩] 9)).alloc (.cells #[(.slice (some ⟨w2.heap.size, 0, none⟩) 1 1)] 40)) w2.heap.size [.string ⟨#[115, 121, 110, 99]⟩] 9) := Lib.hid ((Blk.new w2 [.string ⟨#[115, 121, 110, 99]⟩] 9).alloc _)
  have HA : Hid (Blk ((w2.alloc (.cells #[.string ⟨#[115, 121, 110, 99]⟩] 9)).alloc (.cells #[(.slice (some ⟨w2.heap.size, 0, none⟩) 1 1)] 40)) (w2.heap.size + 1) [(.slice (some ⟨w2.heap.size, 0, none⟩) 1 1)] 40) := Lib.hid (by
    have h := Blk.new (w2.alloc (.cells #[.string ⟨#[115, 121, 110, 99]⟩] 9)) [(.slice (some ⟨w2.heap.size, 0, none⟩) 1 1)] 40
    simpa using h)
  have HRW : Hid (Row ((w2.alloc (.cells #[.string ⟨#[115, 121, 110, 99]⟩] 9)).alloc (.cells #[(.slice (some ⟨w2.heap.size, 0, none⟩) 1 1)] 40)) 9 1 (.slice (some ⟨w2.heap.size, 0, none⟩) 1 1) 1 (strsV [[115, 121, 110, 99]])) := Lib.hid ((Row.new w2 [.string ⟨#[115, 121, 110, 99]⟩] 9 1 1 (by unfold maxLen; omega) rfl).alloc _)
  have HBQ := Lib.hid ((HB1.out.alloc (.cells #[.string ⟨#[115, 121, 110, 99]⟩] 9)).alloc (.cells #[(.slice (some ⟨w2.heap.size, 0, none⟩) 1 1)] 40))
  have HUQ := Lib.hid ((HU1.out.alloc (.cells #[.string ⟨#[115, 121, 110, 99]⟩] 9)).alloc (.cells #[(.slice (some ⟨w2.heap.size, 0, none⟩) 1 1)] 40))
  have HLE : Hid (w.heap.size ≤ w2.heap.size + 1) := Lib.hid (by have := HU1.out.size; omega)
  have HLG : Hid (w.heap.size ≤ w2.heap.size) := Lib.hid HU1.out.size
  change Code.wp _ _ _ _ ((w2.alloc (.cells #[.string ⟨#[115, 121, 110, 99]⟩] 9)).alloc (.cells #[(.slice (some ⟨w2.heap.size, 0, none⟩) 1 1)] 40))
  generalize ((w2.alloc (.cells #[.string ⟨#[115, 121, 110, 99]⟩] 9)).alloc (.cells #[(.slice (some ⟨w2.heap.size, 0, none⟩) 1 1)] 40)) = w4 at *
  clear HB1 HU1 c0
  generalize w2.heap.size + 1 = a at *
  generalize w2.heap.size = g at *
  have c0 := HBQ.out.cell 0 rfl
  have c4 := HBQ.out.cell 4 rfl
  have c7 := HBQ.out.cell 7 rfl
  go_upto_region 14 with fail
  go_wp2_with fail
  refine (rname3 _).mono ?_
  rintro e w5 ⟨rfl, hw5⟩
  subst hw5
  have HBX := Lib.hid (HBQ.out.alloc (.cells #[.string ⟨#[110, 101, 119, 101, 114]⟩] 9))
  have HAX := Lib.hid (HA.out.alloc (.cells #[.string ⟨#[110, 101, 119, 101, 114]⟩] 9))
  have HRX := Lib.hid (HRW.out.alloc (.cells #[.string ⟨#[110, 101, 119, 101, 114]⟩] 9))
  have HUX := Lib.hid (HUQ.out.alloc (.cells #[.string ⟨#[110, 101, 119, 101, 114]⟩] 9))
  have HNX := Lib.hid (Blk.new w5 [.string ⟨#[110, 101, 119, 101, 114]⟩] 9)
  go_wp2_with fail
  refine (line1_any a w5.heap.size (.slice (some ⟨g, 0, none⟩) 1 1) [[115, 121, 110, 99]] [[110, 101, 119, 101, 114]] _ HAX.out HRX.out HNX.out (by decide)).mono ?_
  rintro e w6 ⟨rfl, v6, hB6, hR6, hU6, _⟩
  have HU6 := Lib.hid (HUX.out.trans hU6 (fun k hk => by
    simp [Value.ownBlock] at hk
    rcases hk with rfl | rfl
    · exact .inr HLE.out
    · exact .inr HLG.out))
  have HB6 := Lib.hid hB6
  have HT6 := Lib.hid hR6.textsAt
  clear hB6 hR6 hU6 c0 c4 c7
  have d0 := HB6.out.cell 0 rfl
  go_wp2_with fail
  refine (joinC_any [[115, 121, 110, 99], [110, 101, 119, 101, 114]] 9 v6 _ HT6.out (by decide) (by decide) (by decide)).mono ?_
  rintro e w7 ⟨rfl, hu7⟩
  have HU7 := Lib.hid (HU6.out.then hu7)
  clear hu7
  go_wp2
  go_ret
  exact ⟨rfl, HU7.out⟩
end Go.Proofs.YtigjingielnaoaaDoor

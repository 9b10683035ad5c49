/- Package script: bare, for any event: its walk. -/
import Derived.Test.YtigjingielnaoaaDoorSSame
namespace Go.Proofs.YtigjingielnaoaaDoor
set_option linter.unusedVariables false
set_option linter.unusedSimpArgs false
set_option linter.unusedSectionVars false
open Go.RowKit
set_option linter.unusedVariables false
set_option linter.unusedSimpArgs false

/-- An event with what plays a part in its step. -/
def bareE (e : EvN) : EvN :=
  if e.op = 1 ∨ e.op = 4 then ⟨e.op, e.p, ⟨#[]⟩, e.k, e.m, e.t, e.D, 0, .slice none 0 0, []⟩
  else if e.op = 2 then ⟨e.op, e.p, ⟨#[]⟩, 0, 0, 0, ⟨#[]⟩, 0, .slice none 0 0, []⟩
  else if e.op = 3 then ⟨e.op, e.p, e.q, 0, 0, 0, ⟨#[]⟩, 0, .slice none 0 0, []⟩
  else if e.op = 5 ∨ e.op = 11 ∨ e.op = 12 ∨ e.op = 13 then ⟨e.op, ⟨#[]⟩, ⟨#[]⟩, 0, 0, 0, ⟨#[]⟩, e.n, .slice none 0 0, []⟩
  else if e.op = 14 then ⟨e.op, ⟨#[]⟩, ⟨#[]⟩, 0, 0, 0, ⟨#[]⟩, 0, e.v, e.l⟩
  else ⟨e.op, ⟨#[]⟩, ⟨#[]⟩, 0, 0, 0, ⟨#[]⟩, 0, .slice none 0 0, []⟩
set_option maxRecDepth 100000 in
set_option maxHeartbeats 6400000 in
theorem sbare_any (e : EvN) (w : World) (hv : ∃ a n c, e.v = .slice a n c) :
    Calls Tryd.prog 51 #[e.val] w fun r w' => r = .returned (bareE e).val ∧ Upd [] w w' := by
  obtain ⟨op, p, q, k, m, t, D, n, v, l⟩ := e
  dsimp only at hv
  have hcase : op = 1 ∨ op = 4 ∨ op = 2 ∨ op = 3 ∨ op = 5 ∨ op = 11 ∨ op = 12 ∨ op = 13 ∨ op = 14 ∨ (op ≠ 1 ∧ op ≠ 4 ∧ op ≠ 2 ∧ op ≠ 3 ∧ op ≠ 5 ∧ op ≠ 11 ∧ op ≠ 12 ∧ op ≠ 13 ∧ op ≠ 14) := by omega
  rcases hcase with rfl | rfl | rfl | rfl | rfl | rfl | rfl | rfl | rfl | ⟨h1, h4, h2, h3, h5, h11, h12, h13, h14⟩
  · have HV : Hid ((bareE ⟨1, p, q, k, m, t, D, n, v, l⟩).val = .agg #[.int .i64 1, .string p, .string ⟨#[]⟩, .int .i64 k, .int .i64 m, .int .u32 (t : Nat), .string D, .int .i64 0, .slice none 0 0]) := Lib.hid (by first | rfl | (simp [bareE, EvN.val, EvN.cells]))
    rw [HV.out]
    unfold EvN.val EvN.cells
    dsimp only
    go_enter Tryd.func51, Tryd.ntmps51
    go_upto_region 5 with fail
    have HBp : Hid (Blk (((w.alloc (.cells #[.int .i64 1, .string p, .string q, .int .i64 k, .int .i64 m, .int .u32 (t : Nat), .string D, .int .i64 n, v] 44)).alloc (.cells #[.int .i64 0, .string ⟨#[]⟩, .string ⟨#[]⟩, .int .i64 0, .int .i64 0, .int .u32 0, .string ⟨#[]⟩, .int .i64 0, .slice none 0 0] 44)).alloc (.cells #[.int .i64 1, .string ⟨#[]⟩, .string ⟨#[]⟩, .int .i64 0, .int .i64 0, .int .u32 0, .string ⟨#[]⟩, .int .i64 0, .slice none 0 0] 44)) w.heap.size [.int .i64 1, .string p, .string q, .int .i64 k, .int .i64 m, .int .u32 (t : Nat), .string D, .int .i64 n, v] 44) := Lib.hid (((Blk.new w [.int .i64 1, .string p, .string q, .int .i64 k, .int .i64 m, .int .u32 (t : Nat), .string D, .int .i64 n, v] 44).alloc (.cells #[.int .i64 0, .string ⟨#[]⟩, .string ⟨#[]⟩, .int .i64 0, .int .i64 0, .int .u32 0, .string ⟨#[]⟩, .int .i64 0, .slice none 0 0] 44)).alloc (.cells #[.int .i64 1, .string ⟨#[]⟩, .string ⟨#[]⟩, .int .i64 0, .int .i64 0, .int .u32 0, .string ⟨#[]⟩, .int .i64 0, .slice none 0 0] 44))
    have HBo : Hid (Blk (((w.alloc (.cells #[.int .i64 1, .string p, .string q, .int .i64 k, .int .i64 m, .int .u32 (t : Nat), .string D, .int .i64 n, v] 44)).alloc (.cells #[.int .i64 0, .string ⟨#[]⟩, .string ⟨#[]⟩, .int .i64 0, .int .i64 0, .int .u32 0, .string ⟨#[]⟩, .int .i64 0, .slice none 0 0] 44)).alloc (.cells #[.int .i64 1, .string ⟨#[]⟩, .string ⟨#[]⟩, .int .i64 0, .int .i64 0, .int .u32 0, .string ⟨#[]⟩, .int .i64 0, .slice none 0 0] 44)) (w.heap.size + 1) [.int .i64 0, .string ⟨#[]⟩, .string ⟨#[]⟩, .int .i64 0, .int .i64 0, .int .u32 0, .string ⟨#[]⟩, .int .i64 0, .slice none 0 0] 44) := Lib.hid (by
      have h := (Blk.new (w.alloc (.cells #[.int .i64 1, .string p, .string q, .int .i64 k, .int .i64 m, .int .u32 (t : Nat), .string D, .int .i64 n, v] 44)) [.int .i64 0, .string ⟨#[]⟩, .string ⟨#[]⟩, .int .i64 0, .int .i64 0, .int .u32 0, .string ⟨#[]⟩, .int .i64 0, .slice none 0 0] 44).alloc (.cells #[.int .i64 1, .string ⟨#[]⟩, .string ⟨#[]⟩, .int .i64 0, .int .i64 0, .int .u32 0, .string ⟨#[]⟩, .int .i64 0, .slice none 0 0] 44)
      simpa using h)
    have HBl : Hid (Blk (((w.alloc (.cells #[.int .i64 1, .string p, .string q, .int .i64 k, .int .i64 m, .int .u32 (t : Nat), .string D, .int .i64 n, v] 44)).alloc (.cells #[.int .i64 0, .string ⟨#[]⟩, .string ⟨#[]⟩, .int .i64 0, .int .i64 0, .int .u32 0, .string ⟨#[]⟩, .int .i64 0, .slice none 0 0] 44)).alloc (.cells #[.int .i64 1, .string ⟨#[]⟩, .string ⟨#[]⟩, .int .i64 0, .int .i64 0, .int .u32 0, .string ⟨#[]⟩, .int .i64 0, .slice none 0 0] 44)) (w.heap.size + 1 + 1) [.int .i64 1, .string ⟨#[]⟩, .string ⟨#[]⟩, .int .i64 0, .int .i64 0, .int .u32 0, .string ⟨#[]⟩, .int .i64 0, .slice none 0 0] 44) := Lib.hid (by
      have h := Blk.new ((w.alloc (.cells #[.int .i64 1, .string p, .string q, .int .i64 k, .int .i64 m, .int .u32 (t : Nat), .string D, .int .i64 n, v] 44)).alloc (.cells #[.int .i64 0, .string ⟨#[]⟩, .string ⟨#[]⟩, .int .i64 0, .int .i64 0, .int .u32 0, .string ⟨#[]⟩, .int .i64 0, .slice none 0 0] 44)) [.int .i64 1, .string ⟨#[]⟩, .string ⟨#[]⟩, .int .i64 0, .int .i64 0, .int .u32 0, .string ⟨#[]⟩, .int .i64 0, .slice none 0 0] 44
      simpa using h)
    have HU := Lib.hid ((((Upd.refl [] w).alloc (.cells #[.int .i64 1, .string p, .string q, .int .i64 k, .int .i64 m, .int .u32 (t : Nat), .string D, .int .i64 n, v] 44)).alloc (.cells #[.int .i64 0, .string ⟨#[]⟩, .string ⟨#[]⟩, .int .i64 0, .int .i64 0, .int .u32 0, .string ⟨#[]⟩, .int .i64 0, .slice none 0 0] 44)).alloc (.cells #[.int .i64 1, .string ⟨#[]⟩, .string ⟨#[]⟩, .int .i64 0, .int .i64 0, .int .u32 0, .string ⟨#[]⟩, .int .i64 0, .slice none 0 0] 44))
    change Code.wp _ _ _ _ (((w.alloc (.cells #[.int .i64 1, .string p, .string q, .int .i64 k, .int .i64 m, .int .u32 (t : Nat), .string D, .int .i64 n, v] 44)).alloc (.cells #[.int .i64 0, .string ⟨#[]⟩, .string ⟨#[]⟩, .int .i64 0, .int .i64 0, .int .u32 0, .string ⟨#[]⟩, .int .i64 0, .slice none 0 0] 44)).alloc (.cells #[.int .i64 1, .string ⟨#[]⟩, .string ⟨#[]⟩, .int .i64 0, .int .i64 0, .int .u32 0, .string ⟨#[]⟩, .int .i64 0, .slice none 0 0] 44))
    generalize ((w.alloc (.cells #[.int .i64 1, .string p, .string q, .int .i64 k, .int .i64 m, .int .u32 (t : Nat), .string D, .int .i64 n, v] 44)).alloc (.cells #[.int .i64 0, .string ⟨#[]⟩, .string ⟨#[]⟩, .int .i64 0, .int .i64 0, .int .u32 0, .string ⟨#[]⟩, .int .i64 0, .slice none 0 0] 44)).alloc (.cells #[.int .i64 1, .string ⟨#[]⟩, .string ⟨#[]⟩, .int .i64 0, .int .i64 0, .int .u32 0, .string ⟨#[]⟩, .int .i64 0, .slice none 0 0] 44) = w4 at *
    obtain ⟨pb, hpb⟩ : ∃ pb, w.heap.size = pb := ⟨_, rfl⟩
    have HP := Lib.hid (show w.heap.size ≤ pb by omega)
    rw [hpb] at HBp HBo HBl ⊢
    obtain ⟨o, ho⟩ : ∃ o, pb + 1 = o := ⟨_, rfl⟩
    have HO := Lib.hid (show w.heap.size ≤ o by omega)
    have hopb : o ≠ pb := by omega
    rw [ho] at HBo HBl ⊢
    obtain ⟨lb, hlb⟩ : ∃ lb, o + 1 = lb := ⟨_, rfl⟩
    have HL := Lib.hid (show w.heap.size ≤ lb by omega)
    have HN : Hid (o ≠ lb ∧ pb ≠ lb) := Lib.hid (by omega)
    have hlpb : lb ≠ pb := by omega
    rw [hlb] at HBl ⊢
    clear ho hlb hpb
    have p1 := HBp.out.cell 1 rfl
    have p3 := HBp.out.cell 3 rfl
    have p4 := HBp.out.cell 4 rfl
    have p5 := HBp.out.cell 5 rfl
    have p6 := HBp.out.cell 6 rfl
    have l1 := HBl.out.cell 1 rfl
    have g1 := HBl.out.frz 1
    have l3 := HBl.out.cell 3 rfl
    have g3 := HBl.out.frz 3
    have l4 := HBl.out.cell 4 rfl
    have g4 := HBl.out.frz 4
    have l5 := HBl.out.cell 5 rfl
    have g5 := HBl.out.frz 5
    have l6 := HBl.out.cell 6 rfl
    have g6 := HBl.out.frz 6
    go_big_region
    have HBl5 : Hid (Blk (((((((w4).setCell ⟨lb, 1, none⟩ (.string p)).setCell ⟨lb, 3, none⟩ (.int .i64 k)).setCell ⟨lb, 4, none⟩ (.int .i64 m)).setCell ⟨lb, 5, none⟩ (.int .u32 (t : Nat))).setCell ⟨lb, 6, none⟩ (.string D)).drew) lb [.int .i64 1, .string p, .string ⟨#[]⟩, .int .i64 k, .int .i64 m, .int .u32 (t : Nat), .string D, .int .i64 0, .slice none 0 0] 44) := Lib.hid (Blk.upd (Blk.set (Blk.set (Blk.set (Blk.set (Blk.set HBl.out 1 (.string p)) 3 (.int .i64 k)) 4 (.int .i64 m)) 5 (.int .u32 (t : Nat))) 6 (.string D)) ((Upd.refl [] _).drew) (by simp))
    have HBo5 : Hid (Blk (((((((w4).setCell ⟨lb, 1, none⟩ (.string p)).setCell ⟨lb, 3, none⟩ (.int .i64 k)).setCell ⟨lb, 4, none⟩ (.int .i64 m)).setCell ⟨lb, 5, none⟩ (.int .u32 (t : Nat))).setCell ⟨lb, 6, none⟩ (.string D)).drew) o [.int .i64 0, .string ⟨#[]⟩, .string ⟨#[]⟩, .int .i64 0, .int .i64 0, .int .u32 0, .string ⟨#[]⟩, .int .i64 0, .slice none 0 0] 44) := Lib.hid (Blk.upd (Blk.setFar (Blk.setFar (Blk.setFar (Blk.setFar (Blk.setFar HBo.out (a := ⟨lb, 1, none⟩) (.string p) HN.out.1) (a := ⟨lb, 3, none⟩) (.int .i64 k) HN.out.1) (a := ⟨lb, 4, none⟩) (.int .i64 m) HN.out.1) (a := ⟨lb, 5, none⟩) (.int .u32 (t : Nat)) HN.out.1) (a := ⟨lb, 6, none⟩) (.string D) HN.out.1) ((Upd.refl [] _).drew) (by simp))
    have HU5 : Hid (Upd [] w (((((((w4).setCell ⟨lb, 1, none⟩ (.string p)).setCell ⟨lb, 3, none⟩ (.int .i64 k)).setCell ⟨lb, 4, none⟩ (.int .i64 m)).setCell ⟨lb, 5, none⟩ (.int .u32 (t : Nat))).setCell ⟨lb, 6, none⟩ (.string D)).drew)) := Lib.hid ((Upd.setCell (Upd.setCell (Upd.setCell (Upd.setCell (Upd.setCell HU.out (p := ⟨lb, 1, none⟩) (.inr HL.out) (.string p)) (p := ⟨lb, 3, none⟩) (.inr HL.out) (.int .i64 k)) (p := ⟨lb, 4, none⟩) (.inr HL.out) (.int .i64 m)) (p := ⟨lb, 5, none⟩) (.inr HL.out) (.int .u32 (t : Nat))) (p := ⟨lb, 6, none⟩) (.inr HL.out) (.string D))).drew
    clear p1 l1 g1 p3 l3 g3 p4 l4 g4 p5 l5 g5 p6 l6 g6 HBp HBo HBl HU
    generalize ((((((w4).setCell ⟨lb, 1, none⟩ (.string p)).setCell ⟨lb, 3, none⟩ (.int .i64 k)).setCell ⟨lb, 4, none⟩ (.int .i64 m)).setCell ⟨lb, 5, none⟩ (.int .u32 (t : Nat))).setCell ⟨lb, 6, none⟩ (.string D)).drew = w5 at *
    go_upto_region 17 with fail
    have c0 := HBl5.out.cell 0 rfl
    have o0 := HBo5.out.cell 0 rfl
    have f0 := HBo5.out.frz 0
    have c1 := HBl5.out.cell 1 rfl
    have o1 := HBo5.out.cell 1 rfl
    have f1 := HBo5.out.frz 1
    have c2 := HBl5.out.cell 2 rfl
    have o2 := HBo5.out.cell 2 rfl
    have f2 := HBo5.out.frz 2
    have c3 := HBl5.out.cell 3 rfl
    have o3 := HBo5.out.cell 3 rfl
    have f3 := HBo5.out.frz 3
    have c4 := HBl5.out.cell 4 rfl
    have o4 := HBo5.out.cell 4 rfl
    have f4 := HBo5.out.frz 4
    have c5 := HBl5.out.cell 5 rfl
    have o5 := HBo5.out.cell 5 rfl
    have f5 := HBo5.out.frz 5
    have c6 := HBl5.out.cell 6 rfl
    have o6 := HBo5.out.cell 6 rfl
    have f6 := HBo5.out.frz 6
    have c7 := HBl5.out.cell 7 rfl
    have o7 := HBo5.out.cell 7 rfl
    have f7 := HBo5.out.frz 7
    have c8 := HBl5.out.cell 8 rfl
    have o8 := HBo5.out.cell 8 rfl
    have f8 := HBo5.out.frz 8
    go_wp2
    refine bodyPost_ret (results_ev rfl _ _ o _ _ _ _ _ _ _ _ _ rfl (Blk.set (Blk.set (Blk.set (Blk.set (Blk.set (Blk.set (Blk.set (Blk.set (Blk.set HBo5.out 0 (.int .i64 1)) 1 (.string p)) 2 (.string ⟨#[]⟩)) 3 (.int .i64 k)) 4 (.int .i64 m)) 5 (.int .u32 (t : Nat))) 6 (.string D)) 7 (.int .i64 0)) 8 (.slice none 0 0))) rfl ?_
    exact ⟨rfl, (Upd.setCell (Upd.setCell (Upd.setCell (Upd.setCell (Upd.setCell (Upd.setCell (Upd.setCell (Upd.setCell (Upd.setCell HU5.out (p := ⟨o, 0, none⟩) (.inr HO.out) (.int .i64 1)) (p := ⟨o, 1, none⟩) (.inr HO.out) (.string p)) (p := ⟨o, 2, none⟩) (.inr HO.out) (.string ⟨#[]⟩)) (p := ⟨o, 3, none⟩) (.inr HO.out) (.int .i64 k)) (p := ⟨o, 4, none⟩) (.inr HO.out) (.int .i64 m)) (p := ⟨o, 5, none⟩) (.inr HO.out) (.int .u32 (t : Nat))) (p := ⟨o, 6, none⟩) (.inr HO.out) (.string D)) (p := ⟨o, 7, none⟩) (.inr HO.out) (.int .i64 0)) (p := ⟨o, 8, none⟩) (.inr HO.out) (.slice none 0 0))⟩
  · have HV : Hid ((bareE ⟨4, p, q, k, m, t, D, n, v, l⟩).val = .agg #[.int .i64 4, .string p, .string ⟨#[]⟩, .int .i64 k, .int .i64 m, .int .u32 (t : Nat), .string D, .int .i64 0, .slice none 0 0]) := Lib.hid (by first | rfl | (simp [bareE, EvN.val, EvN.cells]))
    rw [HV.out]
    unfold EvN.val EvN.cells
    dsimp only
    go_enter Tryd.func51, Tryd.ntmps51
    go_upto_region 5 with fail
    have HBp : Hid (Blk (((w.alloc (.cells #[.int .i64 4, .string p, .string q, .int .i64 k, .int .i64 m, .int .u32 (t : Nat), .string D, .int .i64 n, v] 44)).alloc (.cells #[.int .i64 0, .string ⟨#[]⟩, .string ⟨#[]⟩, .int .i64 0, .int .i64 0, .int .u32 0, .string ⟨#[]⟩, .int .i64 0, .slice none 0 0] 44)).alloc (.cells #[.int .i64 4, .string ⟨#[]⟩, .string ⟨#[]⟩, .int .i64 0, .int .i64 0, .int .u32 0, .string ⟨#[]⟩, .int .i64 0, .slice none 0 0] 44)) w.heap.size [.int .i64 4, .string p, .string q, .int .i64 k, .int .i64 m, .int .u32 (t : Nat), .string D, .int .i64 n, v] 44) := Lib.hid (((Blk.new w [.int .i64 4, .string p, .string q, .int .i64 k, .int .i64 m, .int .u32 (t : Nat), .string D, .int .i64 n, v] 44).alloc (.cells #[.int .i64 0, .string ⟨#[]⟩, .string ⟨#[]⟩, .int .i64 0, .int .i64 0, .int .u32 0, .string ⟨#[]⟩, .int .i64 0, .slice none 0 0] 44)).alloc (.cells #[.int .i64 4, .string ⟨#[]⟩, .string ⟨#[]⟩, .int .i64 0, .int .i64 0, .int .u32 0, .string ⟨#[]⟩, .int .i64 0, .slice none 0 0] 44))
    have HBo : Hid (Blk (((w.alloc (.cells #[.int .i64 4, .string p, .string q, .int .i64 k, .int .i64 m, .int .u32 (t : Nat), .string D, .int .i64 n, v] 44)).alloc (.cells #[.int .i64 0, .string ⟨#[]⟩, .string ⟨#[]⟩, .int .i64 0, .int .i64 0, .int .u32 0, .string ⟨#[]⟩, .int .i64 0, .slice none 0 0] 44)).alloc (.cells #[.int .i64 4, .string ⟨#[]⟩, .string ⟨#[]⟩, .int .i64 0, .int .i64 0, .int .u32 0, .string ⟨#[]⟩, .int .i64 0, .slice none 0 0] 44)) (w.heap.size + 1) [.int .i64 0, .string ⟨#[]⟩, .string ⟨#[]⟩, .int .i64 0, .int .i64 0, .int .u32 0, .string ⟨#[]⟩, .int .i64 0, .slice none 0 0] 44) := Lib.hid (by
      have h := (Blk.new (w.alloc (.cells #[.int .i64 4, .string p, .string q, .int .i64 k, .int .i64 m, .int .u32 (t : Nat), .string D, .int .i64 n, v] 44)) [.int .i64 0, .string ⟨#[]⟩, .string ⟨#[]⟩, .int .i64 0, .int .i64 0, .int .u32 0, .string ⟨#[]⟩, .int .i64 0, .slice none 0 0] 44).alloc (.cells #[.int .i64 4, .string ⟨#[]⟩, .string ⟨#[]⟩, .int .i64 0, .int .i64 0, .int .u32 0, .string ⟨#[]⟩, .int .i64 0, .slice none 0 0] 44)
      simpa using h)
    have HBl : Hid (Blk (((w.alloc (.cells #[.int .i64 4, .string p, .string q, .int .i64 k, .int .i64 m, .int .u32 (t : Nat), .string D, .int .i64 n, v] 44)).alloc (.cells #[.int .i64 0, .string ⟨#[]⟩, .string ⟨#[]⟩, .int .i64 0, .int .i64 0, .int .u32 0, .string ⟨#[]⟩, .int .i64 0, .slice none 0 0] 44)).alloc (.cells #[.int .i64 4, .string ⟨#[]⟩, .string ⟨#[]⟩, .int .i64 0, .int .i64 0, .int .u32 0, .string ⟨#[]⟩, .int .i64 0, .slice none 0 0] 44)) (w.heap.size + 1 + 1) [.int .i64 4, .string ⟨#[]⟩, .string ⟨#[]⟩, .int .i64 0, .int .i64 0, .int .u32 0, .string ⟨#[]⟩, .int .i64 0, .slice none 0 0] 44) := Lib.hid (by
      have h := Blk.new ((w.alloc (.cells #[.int .i64 4, .string p, .string q, .int .i64 k, .int .i64 m, .int .u32 (t : Nat), .string D, .int .i64 n, v] 44)).alloc (.cells #[.int .i64 0, .string ⟨#[]⟩, .string ⟨#[]⟩, .int .i64 0, .int .i64 0, .int .u32 0, .string ⟨#[]⟩, .int .i64 0, .slice none 0 0] 44)) [.int .i64 4, .string ⟨#[]⟩, .string ⟨#[]⟩, .int .i64 0, .int .i64 0, .int .u32 0, .string ⟨#[]⟩, .int .i64 0, .slice none 0 0] 44
      simpa using h)
    have HU := Lib.hid ((((Upd.refl [] w).alloc (.cells #[.int .i64 4, .string p, .string q, .int .i64 k, .int .i64 m, .int .u32 (t : Nat), .string D, .int .i64 n, v] 44)).alloc (.cells #[.int .i64 0, .string ⟨#[]⟩, .string ⟨#[]⟩, .int .i64 0, .int .i64 0, .int .u32 0, .string ⟨#[]⟩, .int .i64 0, .slice none 0 0] 44)).alloc (.cells #[.int .i64 4, .string ⟨#[]⟩, .string ⟨#[]⟩, .int .i64 0, .int .i64 0, .int .u32 0, .string ⟨#[]⟩, .int .i64 0, .slice none 0 0] 44))
    change Code.wp _ _ _ _ (((w.alloc (.cells #[.int .i64 4, .string p, .string q, .int .i64 k, .int .i64 m, .int .u32 (t : Nat), .string D, .int .i64 n, v] 44)).alloc (.cells #[.int .i64 0, .string ⟨#[]⟩, .string ⟨#[]⟩, .int .i64 0, .int .i64 0, .int .u32 0, .string ⟨#[]⟩, .int .i64 0, .slice none 0 0] 44)).alloc (.cells #[.int .i64 4, .string ⟨#[]⟩, .string ⟨#[]⟩, .int .i64 0, .int .i64 0, .int .u32 0, .string ⟨#[]⟩, .int .i64 0, .slice none 0 0] 44))
    generalize ((w.alloc (.cells #[.int .i64 4, .string p, .string q, .int .i64 k, .int .i64 m, .int .u32 (t : Nat), .string D, .int .i64 n, v] 44)).alloc (.cells #[.int .i64 0, .string ⟨#[]⟩, .string ⟨#[]⟩, .int .i64 0, .int .i64 0, .int .u32 0, .string ⟨#[]⟩, .int .i64 0, .slice none 0 0] 44)).alloc (.cells #[.int .i64 4, .string ⟨#[]⟩, .string ⟨#[]⟩, .int .i64 0, .int .i64 0, .int .u32 0, .string ⟨#[]⟩, .int .i64 0, .slice none 0 0] 44) = w4 at *
    obtain ⟨pb, hpb⟩ : ∃ pb, w.heap.size = pb := ⟨_, rfl⟩
    have HP := Lib.hid (show w.heap.size ≤ pb by omega)
    rw [hpb] at HBp HBo HBl ⊢
    obtain ⟨o, ho⟩ : ∃ o, pb + 1 = o := ⟨_, rfl⟩
    have HO := Lib.hid (show w.heap.size ≤ o by omega)
    have hopb : o ≠ pb := by omega
    rw [ho] at HBo HBl ⊢
    obtain ⟨lb, hlb⟩ : ∃ lb, o + 1 = lb := ⟨_, rfl⟩
    have HL := Lib.hid (show w.heap.size ≤ lb by omega)
    have HN : Hid (o ≠ lb ∧ pb ≠ lb) := Lib.hid (by omega)
    have hlpb : lb ≠ pb := by omega
    rw [hlb] at HBl ⊢
    clear ho hlb hpb
    have p1 := HBp.out.cell 1 rfl
    have p3 := HBp.out.cell 3 rfl
    have p4 := HBp.out.cell 4 rfl
    have p5 := HBp.out.cell 5 rfl
    have p6 := HBp.out.cell 6 rfl
    have l1 := HBl.out.cell 1 rfl
    have g1 := HBl.out.frz 1
    have l3 := HBl.out.cell 3 rfl
    have g3 := HBl.out.frz 3
    have l4 := HBl.out.cell 4 rfl
    have g4 := HBl.out.frz 4
    have l5 := HBl.out.cell 5 rfl
    have g5 := HBl.out.frz 5
    have l6 := HBl.out.cell 6 rfl
    have g6 := HBl.out.frz 6
    go_big_region
    have HBl5 : Hid (Blk (((((((w4).setCell ⟨lb, 1, none⟩ (.string p)).setCell ⟨lb, 3, none⟩ (.int .i64 k)).setCell ⟨lb, 4, none⟩ (.int .i64 m)).setCell ⟨lb, 5, none⟩ (.int .u32 (t : Nat))).setCell ⟨lb, 6, none⟩ (.string D)).drew) lb [.int .i64 4, .string p, .string ⟨#[]⟩, .int .i64 k, .int .i64 m, .int .u32 (t : Nat), .string D, .int .i64 0, .slice none 0 0] 44) := Lib.hid (Blk.upd (Blk.set (Blk.set (Blk.set (Blk.set (Blk.set HBl.out 1 (.string p)) 3 (.int .i64 k)) 4 (.int .i64 m)) 5 (.int .u32 (t : Nat))) 6 (.string D)) ((Upd.refl [] _).drew) (by simp))
    have HBo5 : Hid (Blk (((((((w4).setCell ⟨lb, 1, none⟩ (.string p)).setCell ⟨lb, 3, none⟩ (.int .i64 k)).setCell ⟨lb, 4, none⟩ (.int .i64 m)).setCell ⟨lb, 5, none⟩ (.int .u32 (t : Nat))).setCell ⟨lb, 6, none⟩ (.string D)).drew) o [.int .i64 0, .string ⟨#[]⟩, .string ⟨#[]⟩, .int .i64 0, .int .i64 0, .int .u32 0, .string ⟨#[]⟩, .int .i64 0, .slice none 0 0] 44) := Lib.hid (Blk.upd (Blk.setFar (Blk.setFar (Blk.setFar (Blk.setFar (Blk.setFar HBo.out (a := ⟨lb, 1, none⟩) (.string p) HN.out.1) (a := ⟨lb, 3, none⟩) (.int .i64 k) HN.out.1) (a := ⟨lb, 4, none⟩) (.int .i64 m) HN.out.1) (a := ⟨lb, 5, none⟩) (.int .u32 (t : Nat)) HN.out.1) (a := ⟨lb, 6, none⟩) (.string D) HN.out.1) ((Upd.refl [] _).drew) (by simp))
    have HU5 : Hid (Upd [] w (((((((w4).setCell ⟨lb, 1, none⟩ (.string p)).setCell ⟨lb, 3, none⟩ (.int .i64 k)).setCell ⟨lb, 4, none⟩ (.int .i64 m)).setCell ⟨lb, 5, none⟩ (.int .u32 (t : Nat))).setCell ⟨lb, 6, none⟩ (.string D)).drew)) := Lib.hid ((Upd.setCell (Upd.setCell (Upd.setCell (Upd.setCell (Upd.setCell HU.out (p := ⟨lb, 1, none⟩) (.inr HL.out) (.string p)) (p := ⟨lb, 3, none⟩) (.inr HL.out) (.int .i64 k)) (p := ⟨lb, 4, none⟩) (.inr HL.out) (.int .i64 m)) (p := ⟨lb, 5, none⟩) (.inr HL.out) (.int .u32 (t : Nat))) (p := ⟨lb, 6, none⟩) (.inr HL.out) (.string D))).drew
    clear p1 l1 g1 p3 l3 g3 p4 l4 g4 p5 l5 g5 p6 l6 g6 HBp HBo HBl HU
    generalize ((((((w4).setCell ⟨lb, 1, none⟩ (.string p)).setCell ⟨lb, 3, none⟩ (.int .i64 k)).setCell ⟨lb, 4, none⟩ (.int .i64 m)).setCell ⟨lb, 5, none⟩ (.int .u32 (t : Nat))).setCell ⟨lb, 6, none⟩ (.string D)).drew = w5 at *
    go_upto_region 17 with fail
    have c0 := HBl5.out.cell 0 rfl
    have o0 := HBo5.out.cell 0 rfl
    have f0 := HBo5.out.frz 0
    have c1 := HBl5.out.cell 1 rfl
    have o1 := HBo5.out.cell 1 rfl
    have f1 := HBo5.out.frz 1
    have c2 := HBl5.out.cell 2 rfl
    have o2 := HBo5.out.cell 2 rfl
    have f2 := HBo5.out.frz 2
    have c3 := HBl5.out.cell 3 rfl
    have o3 := HBo5.out.cell 3 rfl
    have f3 := HBo5.out.frz 3
    have c4 := HBl5.out.cell 4 rfl
    have o4 := HBo5.out.cell 4 rfl
    have f4 := HBo5.out.frz 4
    have c5 := HBl5.out.cell 5 rfl
    have o5 := HBo5.out.cell 5 rfl
    have f5 := HBo5.out.frz 5
    have c6 := HBl5.out.cell 6 rfl
    have o6 := HBo5.out.cell 6 rfl
    have f6 := HBo5.out.frz 6
    have c7 := HBl5.out.cell 7 rfl
    have o7 := HBo5.out.cell 7 rfl
    have f7 := HBo5.out.frz 7
    have c8 := HBl5.out.cell 8 rfl
    have o8 := HBo5.out.cell 8 rfl
    have f8 := HBo5.out.frz 8
    go_wp2
    refine bodyPost_ret (results_ev rfl _ _ o _ _ _ _ _ _ _ _ _ rfl (Blk.set (Blk.set (Blk.set (Blk.set (Blk.set (Blk.set (Blk.set (Blk.set (Blk.set HBo5.out 0 (.int .i64 4)) 1 (.string p)) 2 (.string ⟨#[]⟩)) 3 (.int .i64 k)) 4 (.int .i64 m)) 5 (.int .u32 (t : Nat))) 6 (.string D)) 7 (.int .i64 0)) 8 (.slice none 0 0))) rfl ?_
    exact ⟨rfl, (Upd.setCell (Upd.setCell (Upd.setCell (Upd.setCell (Upd.setCell (Upd.setCell (Upd.setCell (Upd.setCell (Upd.setCell HU5.out (p := ⟨o, 0, none⟩) (.inr HO.out) (.int .i64 4)) (p := ⟨o, 1, none⟩) (.inr HO.out) (.string p)) (p := ⟨o, 2, none⟩) (.inr HO.out) (.string ⟨#[]⟩)) (p := ⟨o, 3, none⟩) (.inr HO.out) (.int .i64 k)) (p := ⟨o, 4, none⟩) (.inr HO.out) (.int .i64 m)) (p := ⟨o, 5, none⟩) (.inr HO.out) (.int .u32 (t : Nat))) (p := ⟨o, 6, none⟩) (.inr HO.out) (.string D)) (p := ⟨o, 7, none⟩) (.inr HO.out) (.int .i64 0)) (p := ⟨o, 8, none⟩) (.inr HO.out) (.slice none 0 0))⟩
  · have HV : Hid ((bareE ⟨2, p, q, k, m, t, D, n, v, l⟩).val = .agg #[.int .i64 2, .string p, .string ⟨#[]⟩, .int .i64 0, .int .i64 0, .int .u32 0, .string ⟨#[]⟩, .int .i64 0, .slice none 0 0]) := Lib.hid (by first | rfl | (simp [bareE, EvN.val, EvN.cells]))
    rw [HV.out]
    unfold EvN.val EvN.cells
    dsimp only
    go_enter Tryd.func51, Tryd.ntmps51
    go_upto_region 17 with fail
    have HBo : Hid (Blk (((w.alloc (.cells #[.int .i64 2, .string p, .string q, .int .i64 k, .int .i64 m, .int .u32 (t : Nat), .string D, .int .i64 n, v] 44)).alloc (.cells #[.int .i64 0, .string ⟨#[]⟩, .string ⟨#[]⟩, .int .i64 0, .int .i64 0, .int .u32 0, .string ⟨#[]⟩, .int .i64 0, .slice none 0 0] 44)).alloc (.cells #[.int .i64 2, .string p, .string ⟨#[]⟩, .int .i64 0, .int .i64 0, .int .u32 0, .string ⟨#[]⟩, .int .i64 0, .slice none 0 0] 44)) (w.heap.size + 1) [.int .i64 0, .string ⟨#[]⟩, .string ⟨#[]⟩, .int .i64 0, .int .i64 0, .int .u32 0, .string ⟨#[]⟩, .int .i64 0, .slice none 0 0] 44) := Lib.hid (by
      have h := (Blk.new (w.alloc (.cells #[.int .i64 2, .string p, .string q, .int .i64 k, .int .i64 m, .int .u32 (t : Nat), .string D, .int .i64 n, v] 44)) [.int .i64 0, .string ⟨#[]⟩, .string ⟨#[]⟩, .int .i64 0, .int .i64 0, .int .u32 0, .string ⟨#[]⟩, .int .i64 0, .slice none 0 0] 44).alloc (.cells #[.int .i64 2, .string p, .string ⟨#[]⟩, .int .i64 0, .int .i64 0, .int .u32 0, .string ⟨#[]⟩, .int .i64 0, .slice none 0 0] 44)
      simpa using h)
    have HBl : Hid (Blk (((w.alloc (.cells #[.int .i64 2, .string p, .string q, .int .i64 k, .int .i64 m, .int .u32 (t : Nat), .string D, .int .i64 n, v] 44)).alloc (.cells #[.int .i64 0, .string ⟨#[]⟩, .string ⟨#[]⟩, .int .i64 0, .int .i64 0, .int .u32 0, .string ⟨#[]⟩, .int .i64 0, .slice none 0 0] 44)).alloc (.cells #[.int .i64 2, .string p, .string ⟨#[]⟩, .int .i64 0, .int .i64 0, .int .u32 0, .string ⟨#[]⟩, .int .i64 0, .slice none 0 0] 44)) (w.heap.size + 1 + 1) [.int .i64 2, .string p, .string ⟨#[]⟩, .int .i64 0, .int .i64 0, .int .u32 0, .string ⟨#[]⟩, .int .i64 0, .slice none 0 0] 44) := Lib.hid (by
      have h := Blk.new ((w.alloc (.cells #[.int .i64 2, .string p, .string q, .int .i64 k, .int .i64 m, .int .u32 (t : Nat), .string D, .int .i64 n, v] 44)).alloc (.cells #[.int .i64 0, .string ⟨#[]⟩, .string ⟨#[]⟩, .int .i64 0, .int .i64 0, .int .u32 0, .string ⟨#[]⟩, .int .i64 0, .slice none 0 0] 44)) [.int .i64 2, .string p, .string ⟨#[]⟩, .int .i64 0, .int .i64 0, .int .u32 0, .string ⟨#[]⟩, .int .i64 0, .slice none 0 0] 44
      simpa using h)
    have HU := Lib.hid ((((Upd.refl [] w).alloc (.cells #[.int .i64 2, .string p, .string q, .int .i64 k, .int .i64 m, .int .u32 (t : Nat), .string D, .int .i64 n, v] 44)).alloc (.cells #[.int .i64 0, .string ⟨#[]⟩, .string ⟨#[]⟩, .int .i64 0, .int .i64 0, .int .u32 0, .string ⟨#[]⟩, .int .i64 0, .slice none 0 0] 44)).alloc (.cells #[.int .i64 2, .string p, .string ⟨#[]⟩, .int .i64 0, .int .i64 0, .int .u32 0, .string ⟨#[]⟩, .int .i64 0, .slice none 0 0] 44))
    change Code.wp _ _ _ _ (((w.alloc (.cells #[.int .i64 2, .string p, .string q, .int .i64 k, .int .i64 m, .int .u32 (t : Nat), .string D, .int .i64 n, v] 44)).alloc (.cells #[.int .i64 0, .string ⟨#[]⟩, .string ⟨#[]⟩, .int .i64 0, .int .i64 0, .int .u32 0, .string ⟨#[]⟩, .int .i64 0, .slice none 0 0] 44)).alloc (.cells #[.int .i64 2, .string p, .string ⟨#[]⟩, .int .i64 0, .int .i64 0, .int .u32 0, .string ⟨#[]⟩, .int .i64 0, .slice none 0 0] 44))
    generalize ((w.alloc (.cells #[.int .i64 2, .string p, .string q, .int .i64 k, .int .i64 m, .int .u32 (t : Nat), .string D, .int .i64 n, v] 44)).alloc (.cells #[.int .i64 0, .string ⟨#[]⟩, .string ⟨#[]⟩, .int .i64 0, .int .i64 0, .int .u32 0, .string ⟨#[]⟩, .int .i64 0, .slice none 0 0] 44)).alloc (.cells #[.int .i64 2, .string p, .string ⟨#[]⟩, .int .i64 0, .int .i64 0, .int .u32 0, .string ⟨#[]⟩, .int .i64 0, .slice none 0 0] 44) = w4 at *
    obtain ⟨o, ho⟩ : ∃ o, w.heap.size + 1 = o := ⟨_, rfl⟩
    have HO := Lib.hid (show w.heap.size ≤ o by omega)
    rw [ho] at HBo HBl ⊢
    generalize o + 1 = lb at *
    clear ho
    have c0 := HBl.out.cell 0 rfl
    have o0 := HBo.out.cell 0 rfl
    have f0 := HBo.out.frz 0
    have c1 := HBl.out.cell 1 rfl
    have o1 := HBo.out.cell 1 rfl
    have f1 := HBo.out.frz 1
    have c2 := HBl.out.cell 2 rfl
    have o2 := HBo.out.cell 2 rfl
    have f2 := HBo.out.frz 2
    have c3 := HBl.out.cell 3 rfl
    have o3 := HBo.out.cell 3 rfl
    have f3 := HBo.out.frz 3
    have c4 := HBl.out.cell 4 rfl
    have o4 := HBo.out.cell 4 rfl
    have f4 := HBo.out.frz 4
    have c5 := HBl.out.cell 5 rfl
    have o5 := HBo.out.cell 5 rfl
    have f5 := HBo.out.frz 5
    have c6 := HBl.out.cell 6 rfl
    have o6 := HBo.out.cell 6 rfl
    have f6 := HBo.out.frz 6
    have c7 := HBl.out.cell 7 rfl
    have o7 := HBo.out.cell 7 rfl
    have f7 := HBo.out.frz 7
    have c8 := HBl.out.cell 8 rfl
    have o8 := HBo.out.cell 8 rfl
    have f8 := HBo.out.frz 8
    go_wp2
    refine bodyPost_ret (results_ev rfl _ _ o _ _ _ _ _ _ _ _ _ rfl (Blk.set (Blk.set (Blk.set (Blk.set (Blk.set (Blk.set (Blk.set (Blk.set (Blk.set HBo.out 0 (.int .i64 2)) 1 (.string p)) 2 (.string ⟨#[]⟩)) 3 (.int .i64 0)) 4 (.int .i64 0)) 5 (.int .u32 0)) 6 (.string ⟨#[]⟩)) 7 (.int .i64 0)) 8 (.slice none 0 0))) rfl ?_
    exact ⟨rfl, (Upd.setCell (Upd.setCell (Upd.setCell (Upd.setCell (Upd.setCell (Upd.setCell (Upd.setCell (Upd.setCell (Upd.setCell HU.out (p := ⟨o, 0, none⟩) (.inr HO.out) (.int .i64 2)) (p := ⟨o, 1, none⟩) (.inr HO.out) (.string p)) (p := ⟨o, 2, none⟩) (.inr HO.out) (.string ⟨#[]⟩)) (p := ⟨o, 3, none⟩) (.inr HO.out) (.int .i64 0)) (p := ⟨o, 4, none⟩) (.inr HO.out) (.int .i64 0)) (p := ⟨o, 5, none⟩) (.inr HO.out) (.int .u32 0)) (p := ⟨o, 6, none⟩) (.inr HO.out) (.string ⟨#[]⟩)) (p := ⟨o, 7, none⟩) (.inr HO.out) (.int .i64 0)) (p := ⟨o, 8, none⟩) (.inr HO.out) (.slice none 0 0))⟩
  · have HV : Hid ((bareE ⟨3, p, q, k, m, t, D, n, v, l⟩).val = .agg #[.int .i64 3, .string p, .string q, .int .i64 0, .int .i64 0, .int .u32 0, .string ⟨#[]⟩, .int .i64 0, .slice none 0 0]) := Lib.hid (by first | rfl | (simp [bareE, EvN.val, EvN.cells]))
    rw [HV.out]
    unfold EvN.val EvN.cells
    dsimp only
    go_enter Tryd.func51, Tryd.ntmps51
    go_upto_region 9 with fail
    have HBp : Hid (Blk (((w.alloc (.cells #[.int .i64 3, .string p, .string q, .int .i64 k, .int .i64 m, .int .u32 (t : Nat), .string D, .int .i64 n, v] 44)).alloc (.cells #[.int .i64 0, .string ⟨#[]⟩, .string ⟨#[]⟩, .int .i64 0, .int .i64 0, .int .u32 0, .string ⟨#[]⟩, .int .i64 0, .slice none 0 0] 44)).alloc (.cells #[.int .i64 3, .string ⟨#[]⟩, .string ⟨#[]⟩, .int .i64 0, .int .i64 0, .int .u32 0, .string ⟨#[]⟩, .int .i64 0, .slice none 0 0] 44)) w.heap.size [.int .i64 3, .string p, .string q, .int .i64 k, .int .i64 m, .int .u32 (t : Nat), .string D, .int .i64 n, v] 44) := Lib.hid (((Blk.new w [.int .i64 3, .string p, .string q, .int .i64 k, .int .i64 m, .int .u32 (t : Nat), .string D, .int .i64 n, v] 44).alloc (.cells #[.int .i64 0, .string ⟨#[]⟩, .string ⟨#[]⟩, .int .i64 0, .int .i64 0, .int .u32 0, .string ⟨#[]⟩, .int .i64 0, .slice none 0 0] 44)).alloc (.cells #[.int .i64 3, .string ⟨#[]⟩, .string ⟨#[]⟩, .int .i64 0, .int .i64 0, .int .u32 0, .string ⟨#[]⟩, .int .i64 0, .slice none 0 0] 44))
    have HBo : Hid (Blk (((w.alloc (.cells #[.int .i64 3, .string p, .string q, .int .i64 k, .int .i64 m, .int .u32 (t : Nat), .string D, .int .i64 n, v] 44)).alloc (.cells #[.int .i64 0, .string ⟨#[]⟩, .string ⟨#[]⟩, .int .i64 0, .int .i64 0, .int .u32 0, .string ⟨#[]⟩, .int .i64 0, .slice none 0 0] 44)).alloc (.cells #[.int .i64 3, .string ⟨#[]⟩, .string ⟨#[]⟩, .int .i64 0, .int .i64 0, .int .u32 0, .string ⟨#[]⟩, .int .i64 0, .slice none 0 0] 44)) (w.heap.size + 1) [.int .i64 0, .string ⟨#[]⟩, .string ⟨#[]⟩, .int .i64 0, .int .i64 0, .int .u32 0, .string ⟨#[]⟩, .int .i64 0, .slice none 0 0] 44) := Lib.hid (by
      have h := (Blk.new (w.alloc (.cells #[.int .i64 3, .string p, .string q, .int .i64 k, .int .i64 m, .int .u32 (t : Nat), .string D, .int .i64 n, v] 44)) [.int .i64 0, .string ⟨#[]⟩, .string ⟨#[]⟩, .int .i64 0, .int .i64 0, .int .u32 0, .string ⟨#[]⟩, .int .i64 0, .slice none 0 0] 44).alloc (.cells #[.int .i64 3, .string ⟨#[]⟩, .string ⟨#[]⟩, .int .i64 0, .int .i64 0, .int .u32 0, .string ⟨#[]⟩, .int .i64 0, .slice none 0 0] 44)
      simpa using h)
    have HBl : Hid (Blk (((w.alloc (.cells #[.int .i64 3, .string p, .string q, .int .i64 k, .int .i64 m, .int .u32 (t : Nat), .string D, .int .i64 n, v] 44)).alloc (.cells #[.int .i64 0, .string ⟨#[]⟩, .string ⟨#[]⟩, .int .i64 0, .int .i64 0, .int .u32 0, .string ⟨#[]⟩, .int .i64 0, .slice none 0 0] 44)).alloc (.cells #[.int .i64 3, .string ⟨#[]⟩, .string ⟨#[]⟩, .int .i64 0, .int .i64 0, .int .u32 0, .string ⟨#[]⟩, .int .i64 0, .slice none 0 0] 44)) (w.heap.size + 1 + 1) [.int .i64 3, .string ⟨#[]⟩, .string ⟨#[]⟩, .int .i64 0, .int .i64 0, .int .u32 0, .string ⟨#[]⟩, .int .i64 0, .slice none 0 0] 44) := Lib.hid (by
      have h := Blk.new ((w.alloc (.cells #[.int .i64 3, .string p, .string q, .int .i64 k, .int .i64 m, .int .u32 (t : Nat), .string D, .int .i64 n, v] 44)).alloc (.cells #[.int .i64 0, .string ⟨#[]⟩, .string ⟨#[]⟩, .int .i64 0, .int .i64 0, .int .u32 0, .string ⟨#[]⟩, .int .i64 0, .slice none 0 0] 44)) [.int .i64 3, .string ⟨#[]⟩, .string ⟨#[]⟩, .int .i64 0, .int .i64 0, .int .u32 0, .string ⟨#[]⟩, .int .i64 0, .slice none 0 0] 44
      simpa using h)
    have HU := Lib.hid ((((Upd.refl [] w).alloc (.cells #[.int .i64 3, .string p, .string q, .int .i64 k, .int .i64 m, .int .u32 (t : Nat), .string D, .int .i64 n, v] 44)).alloc (.cells #[.int .i64 0, .string ⟨#[]⟩, .string ⟨#[]⟩, .int .i64 0, .int .i64 0, .int .u32 0, .string ⟨#[]⟩, .int .i64 0, .slice none 0 0] 44)).alloc (.cells #[.int .i64 3, .string ⟨#[]⟩, .string ⟨#[]⟩, .int .i64 0, .int .i64 0, .int .u32 0, .string ⟨#[]⟩, .int .i64 0, .slice none 0 0] 44))
    change Code.wp _ _ _ _ (((w.alloc (.cells #[.int .i64 3, .string p, .string q, .int .i64 k, .int .i64 m, .int .u32 (t : Nat), .string D, .int .i64 n, v] 44)).alloc (.cells #[.int .i64 0, .string ⟨#[]⟩, .string ⟨#[]⟩, .int .i64 0, .int .i64 0, .int .u32 0, .string ⟨#[]⟩, .int .i64 0, .slice none 0 0] 44)).alloc (.cells #[.int .i64 3, .string ⟨#[]⟩, .string ⟨#[]⟩, .int .i64 0, .int .i64 0, .int .u32 0, .string ⟨#[]⟩, .int .i64 0, .slice none 0 0] 44))
    generalize ((w.alloc (.cells #[.int .i64 3, .string p, .string q, .int .i64 k, .int .i64 m, .int .u32 (t : Nat), .string D, .int .i64 n, v] 44)).alloc (.cells #[.int .i64 0, .string ⟨#[]⟩, .string ⟨#[]⟩, .int .i64 0, .int .i64 0, .int .u32 0, .string ⟨#[]⟩, .int .i64 0, .slice none 0 0] 44)).alloc (.cells #[.int .i64 3, .string ⟨#[]⟩, .string ⟨#[]⟩, .int .i64 0, .int .i64 0, .int .u32 0, .string ⟨#[]⟩, .int .i64 0, .slice none 0 0] 44) = w4 at *
    obtain ⟨pb, hpb⟩ : ∃ pb, w.heap.size = pb := ⟨_, rfl⟩
    have HP := Lib.hid (show w.heap.size ≤ pb by omega)
    rw [hpb] at HBp HBo HBl ⊢
    obtain ⟨o, ho⟩ : ∃ o, pb + 1 = o := ⟨_, rfl⟩
    have HO := Lib.hid (show w.heap.size ≤ o by omega)
    have hopb : o ≠ pb := by omega
    rw [ho] at HBo HBl ⊢
    obtain ⟨lb, hlb⟩ : ∃ lb, o + 1 = lb := ⟨_, rfl⟩
    have HL := Lib.hid (show w.heap.size ≤ lb by omega)
    have HN : Hid (o ≠ lb ∧ pb ≠ lb) := Lib.hid (by omega)
    have hlpb : lb ≠ pb := by omega
    rw [hlb] at HBl ⊢
    clear ho hlb hpb
    have p1 := HBp.out.cell 1 rfl
    have p2 := HBp.out.cell 2 rfl
    have l1 := HBl.out.cell 1 rfl
    have g1 := HBl.out.frz 1
    have l2 := HBl.out.cell 2 rfl
    have g2 := HBl.out.frz 2
    go_big_region
    have HBl5 : Hid (Blk ((((w4).setCell ⟨lb, 1, none⟩ (.string p)).setCell ⟨lb, 2, none⟩ (.string q)).drew) lb [.int .i64 3, .string p, .string q, .int .i64 0, .int .i64 0, .int .u32 0, .string ⟨#[]⟩, .int .i64 0, .slice none 0 0] 44) := Lib.hid (Blk.upd (Blk.set (Blk.set HBl.out 1 (.string p)) 2 (.string q)) ((Upd.refl [] _).drew) (by simp))
    have HBo5 : Hid (Blk ((((w4).setCell ⟨lb, 1, none⟩ (.string p)).setCell ⟨lb, 2, none⟩ (.string q)).drew) o [.int .i64 0, .string ⟨#[]⟩, .string ⟨#[]⟩, .int .i64 0, .int .i64 0, .int .u32 0, .string ⟨#[]⟩, .int .i64 0, .slice none 0 0] 44) := Lib.hid (Blk.upd (Blk.setFar (Blk.setFar HBo.out (a := ⟨lb, 1, none⟩) (.string p) HN.out.1) (a := ⟨lb, 2, none⟩) (.string q) HN.out.1) ((Upd.refl [] _).drew) (by simp))
    have HU5 : Hid (Upd [] w ((((w4).setCell ⟨lb, 1, none⟩ (.string p)).setCell ⟨lb, 2, none⟩ (.string q)).drew)) := Lib.hid ((Upd.setCell (Upd.setCell HU.out (p := ⟨lb, 1, none⟩) (.inr HL.out) (.string p)) (p := ⟨lb, 2, none⟩) (.inr HL.out) (.string q))).drew
    clear p1 l1 g1 p2 l2 g2 HBp HBo HBl HU
    generalize (((w4).setCell ⟨lb, 1, none⟩ (.string p)).setCell ⟨lb, 2, none⟩ (.string q)).drew = w5 at *
    go_upto_region 17 with fail
    have c0 := HBl5.out.cell 0 rfl
    have o0 := HBo5.out.cell 0 rfl
    have f0 := HBo5.out.frz 0
    have c1 := HBl5.out.cell 1 rfl
    have o1 := HBo5.out.cell 1 rfl
    have f1 := HBo5.out.frz 1
    have c2 := HBl5.out.cell 2 rfl
    have o2 := HBo5.out.cell 2 rfl
    have f2 := HBo5.out.frz 2
    have c3 := HBl5.out.cell 3 rfl
    have o3 := HBo5.out.cell 3 rfl
    have f3 := HBo5.out.frz 3
    have c4 := HBl5.out.cell 4 rfl
    have o4 := HBo5.out.cell 4 rfl
    have f4 := HBo5.out.frz 4
    have c5 := HBl5.out.cell 5 rfl
    have o5 := HBo5.out.cell 5 rfl
    have f5 := HBo5.out.frz 5
    have c6 := HBl5.out.cell 6 rfl
    have o6 := HBo5.out.cell 6 rfl
    have f6 := HBo5.out.frz 6
    have c7 := HBl5.out.cell 7 rfl
    have o7 := HBo5.out.cell 7 rfl
    have f7 := HBo5.out.frz 7
    have c8 := HBl5.out.cell 8 rfl
    have o8 := HBo5.out.cell 8 rfl
    have f8 := HBo5.out.frz 8
    go_wp2
    refine bodyPost_ret (results_ev rfl _ _ o _ _ _ _ _ _ _ _ _ rfl (Blk.set (Blk.set (Blk.set (Blk.set (Blk.set (Blk.set (Blk.set (Blk.set (Blk.set HBo5.out 0 (.int .i64 3)) 1 (.string p)) 2 (.string q)) 3 (.int .i64 0)) 4 (.int .i64 0)) 5 (.int .u32 0)) 6 (.string ⟨#[]⟩)) 7 (.int .i64 0)) 8 (.slice none 0 0))) rfl ?_
    exact ⟨rfl, (Upd.setCell (Upd.setCell (Upd.setCell (Upd.setCell (Upd.setCell (Upd.setCell (Upd.setCell (Upd.setCell (Upd.setCell HU5.out (p := ⟨o, 0, none⟩) (.inr HO.out) (.int .i64 3)) (p := ⟨o, 1, none⟩) (.inr HO.out) (.string p)) (p := ⟨o, 2, none⟩) (.inr HO.out) (.string q)) (p := ⟨o, 3, none⟩) (.inr HO.out) (.int .i64 0)) (p := ⟨o, 4, none⟩) (.inr HO.out) (.int .i64 0)) (p := ⟨o, 5, none⟩) (.inr HO.out) (.int .u32 0)) (p := ⟨o, 6, none⟩) (.inr HO.out) (.string ⟨#[]⟩)) (p := ⟨o, 7, none⟩) (.inr HO.out) (.int .i64 0)) (p := ⟨o, 8, none⟩) (.inr HO.out) (.slice none 0 0))⟩
  · have HV : Hid ((bareE ⟨5, p, q, k, m, t, D, n, v, l⟩).val = .agg #[.int .i64 5, .string ⟨#[]⟩, .string ⟨#[]⟩, .int .i64 0, .int .i64 0, .int .u32 0, .string ⟨#[]⟩, .int .i64 n, .slice none 0 0]) := Lib.hid (by first | rfl | (simp [bareE, EvN.val, EvN.cells]))
    rw [HV.out]
    unfold EvN.val EvN.cells
    dsimp only
    go_enter Tryd.func51, Tryd.ntmps51
    go_upto_region 17 with fail
    have HBo : Hid (Blk (((w.alloc (.cells #[.int .i64 5, .string p, .string q, .int .i64 k, .int .i64 m, .int .u32 (t : Nat), .string D, .int .i64 n, v] 44)).alloc (.cells #[.int .i64 0, .string ⟨#[]⟩, .string ⟨#[]⟩, .int .i64 0, .int .i64 0, .int .u32 0, .string ⟨#[]⟩, .int .i64 0, .slice none 0 0] 44)).alloc (.cells #[.int .i64 5, .string ⟨#[]⟩, .string ⟨#[]⟩, .int .i64 0, .int .i64 0, .int .u32 0, .string ⟨#[]⟩, .int .i64 n, .slice none 0 0] 44)) (w.heap.size + 1) [.int .i64 0, .string ⟨#[]⟩, .string ⟨#[]⟩, .int .i64 0, .int .i64 0, .int .u32 0, .string ⟨#[]⟩, .int .i64 0, .slice none 0 0] 44) := Lib.hid (by
      have h := (Blk.new (w.alloc (.cells #[.int .i64 5, .string p, .string q, .int .i64 k, .int .i64 m, .int .u32 (t : Nat), .string D, .int .i64 n, v] 44)) [.int .i64 0, .string ⟨#[]⟩, .string ⟨#[]⟩, .int .i64 0, .int .i64 0, .int .u32 0, .string ⟨#[]⟩, .int .i64 0, .slice none 0 0] 44).alloc (.cells #[.int .i64 5, .string ⟨#[]⟩, .string ⟨#[]⟩, .int .i64 0, .int .i64 0, .int .u32 0, .string ⟨#[]⟩, .int .i64 n, .slice none 0 0] 44)
      simpa using h)
    have HBl : Hid (Blk (((w.alloc (.cells #[.int .i64 5, .string p, .string q, .int .i64 k, .int .i64 m, .int .u32 (t : Nat), .string D, .int .i64 n, v] 44)).alloc (.cells #[.int .i64 0, .string ⟨#[]⟩, .string ⟨#[]⟩, .int .i64 0, .int .i64 0, .int .u32 0, .string ⟨#[]⟩, .int .i64 0, .slice none 0 0] 44)).alloc (.cells #[.int .i64 5, .string ⟨#[]⟩, .string ⟨#[]⟩, .int .i64 0, .int .i64 0, .int .u32 0, .string ⟨#[]⟩, .int .i64 n, .slice none 0 0] 44)) (w.heap.size + 1 + 1) [.int .i64 5, .string ⟨#[]⟩, .string ⟨#[]⟩, .int .i64 0, .int .i64 0, .int .u32 0, .string ⟨#[]⟩, .int .i64 n, .slice none 0 0] 44) := Lib.hid (by
      have h := Blk.new ((w.alloc (.cells #[.int .i64 5, .string p, .string q, .int .i64 k, .int .i64 m, .int .u32 (t : Nat), .string D, .int .i64 n, v] 44)).alloc (.cells #[.int .i64 0, .string ⟨#[]⟩, .string ⟨#[]⟩, .int .i64 0, .int .i64 0, .int .u32 0, .string ⟨#[]⟩, .int .i64 0, .slice none 0 0] 44)) [.int .i64 5, .string ⟨#[]⟩, .string ⟨#[]⟩, .int .i64 0, .int .i64 0, .int .u32 0, .string ⟨#[]⟩, .int .i64 n, .slice none 0 0] 44
      simpa using h)
    have HU := Lib.hid ((((Upd.refl [] w).alloc (.cells #[.int .i64 5, .string p, .string q, .int .i64 k, .int .i64 m, .int .u32 (t : Nat), .string D, .int .i64 n, v] 44)).alloc (.cells #[.int .i64 0, .string ⟨#[]⟩, .string ⟨#[]⟩, .int .i64 0, .int .i64 0, .int .u32 0, .string ⟨#[]⟩, .int .i64 0, .slice none 0 0] 44)).alloc (.cells #[.int .i64 5, .string ⟨#[]⟩, .string ⟨#[]⟩, .int .i64 0, .int .i64 0, .int .u32 0, .string ⟨#[]⟩, .int .i64 n, .slice none 0 0] 44))
    change Code.wp _ _ _ _ (((w.alloc (.cells #[.int .i64 5, .string p, .string q, .int .i64 k, .int .i64 m, .int .u32 (t : Nat), .string D, .int .i64 n, v] 44)).alloc (.cells #[.int .i64 0, .string ⟨#[]⟩, .string ⟨#[]⟩, .int .i64 0, .int .i64 0, .int .u32 0, .string ⟨#[]⟩, .int .i64 0, .slice none 0 0] 44)).alloc (.cells #[.int .i64 5, .string ⟨#[]⟩, .string ⟨#[]⟩, .int .i64 0, .int .i64 0, .int .u32 0, .string ⟨#[]⟩, .int .i64 n, .slice none 0 0] 44))
    generalize ((w.alloc (.cells #[.int .i64 5, .string p, .string q, .int .i64 k, .int .i64 m, .int .u32 (t : Nat), .string D, .int .i64 n, v] 44)).alloc (.cells #[.int .i64 0, .string ⟨#[]⟩, .string ⟨#[]⟩, .int .i64 0, .int .i64 0, .int .u32 0, .string ⟨#[]⟩, .int .i64 0, .slice none 0 0] 44)).alloc (.cells #[.int .i64 5, .string ⟨#[]⟩, .string ⟨#[]⟩, .int .i64 0, .int .i64 0, .int .u32 0, .string ⟨#[]⟩, .int .i64 n, .slice none 0 0] 44) = w4 at *
    obtain ⟨o, ho⟩ : ∃ o, w.heap.size + 1 = o := ⟨_, rfl⟩
    have HO := Lib.hid (show w.heap.size ≤ o by omega)
    rw [ho] at HBo HBl ⊢
    generalize o + 1 = lb at *
    clear ho
    have c0 := HBl.out.cell 0 rfl
    have o0 := HBo.out.cell 0 rfl
    have f0 := HBo.out.frz 0
    have c1 := HBl.out.cell 1 rfl
    have o1 := HBo.out.cell 1 rfl
    have f1 := HBo.out.frz 1
    have c2 := HBl.out.cell 2 rfl
    have o2 := HBo.out.cell 2 rfl
    have f2 := HBo.out.frz 2
    have c3 := HBl.out.cell 3 rfl
    have o3 := HBo.out.cell 3 rfl
    have f3 := HBo.out.frz 3
    have c4 := HBl.out.cell 4 rfl
    have o4 := HBo.out.cell 4 rfl
    have f4 := HBo.out.frz 4
    have c5 := HBl.out.cell 5 rfl
    have o5 := HBo.out.cell 5 rfl
    have f5 := HBo.out.frz 5
    have c6 := HBl.out.cell 6 rfl
    have o6 := HBo.out.cell 6 rfl
    have f6 := HBo.out.frz 6
    have c7 := HBl.out.cell 7 rfl
    have o7 := HBo.out.cell 7 rfl
    have f7 := HBo.out.frz 7
    have c8 := HBl.out.cell 8 rfl
    have o8 := HBo.out.cell 8 rfl
    have f8 := HBo.out.frz 8
    go_wp2
    refine bodyPost_ret (results_ev rfl _ _ o _ _ _ _ _ _ _ _ _ rfl (Blk.set (Blk.set (Blk.set (Blk.set (Blk.set (Blk.set (Blk.set (Blk.set (Blk.set HBo.out 0 (.int .i64 5)) 1 (.string ⟨#[]⟩)) 2 (.string ⟨#[]⟩)) 3 (.int .i64 0)) 4 (.int .i64 0)) 5 (.int .u32 0)) 6 (.string ⟨#[]⟩)) 7 (.int .i64 n)) 8 (.slice none 0 0))) rfl ?_
    exact ⟨rfl, (Upd.setCell (Upd.setCell (Upd.setCell (Upd.setCell (Upd.setCell (Upd.setCell (Upd.setCell (Upd.setCell (Upd.setCell HU.out (p := ⟨o, 0, none⟩) (.inr HO.out) (.int .i64 5)) (p := ⟨o, 1, none⟩) (.inr HO.out) (.string ⟨#[]⟩)) (p := ⟨o, 2, none⟩) (.inr HO.out) (.string ⟨#[]⟩)) (p := ⟨o, 3, none⟩) (.inr HO.out) (.int .i64 0)) (p := ⟨o, 4, none⟩) (.inr HO.out) (.int .i64 0)) (p := ⟨o, 5, none⟩) (.inr HO.out) (.int .u32 0)) (p := ⟨o, 6, none⟩) (.inr HO.out) (.string ⟨#[]⟩)) (p := ⟨o, 7, none⟩) (.inr HO.out) (.int .i64 n)) (p := ⟨o, 8, none⟩) (.inr HO.out) (.slice none 0 0))⟩
  · have HV : Hid ((bareE ⟨11, p, q, k, m, t, D, n, v, l⟩).val = .agg #[.int .i64 11, .string ⟨#[]⟩, .string ⟨#[]⟩, .int .i64 0, .int .i64 0, .int .u32 0, .string ⟨#[]⟩, .int .i64 n, .slice none 0 0]) := Lib.hid (by first | rfl | (simp [bareE, EvN.val, EvN.cells]))
    rw [HV.out]
    unfold EvN.val EvN.cells
    dsimp only
    go_enter Tryd.func51, Tryd.ntmps51
    go_upto_region 17 with fail
    have HBo : Hid (Blk (((w.alloc (.cells #[.int .i64 11, .string p, .string q, .int .i64 k, .int .i64 m, .int .u32 (t : Nat), .string D, .int .i64 n, v] 44)).alloc (.cells #[.int .i64 0, .string ⟨#[]⟩, .string ⟨#[]⟩, .int .i64 0, .int .i64 0, .int .u32 0, .string ⟨#[]⟩, .int .i64 0, .slice none 0 0] 44)).alloc (.cells #[.int .i64 11, .string ⟨#[]⟩, .string ⟨#[]⟩, .int .i64 0, .int .i64 0, .int .u32 0, .string ⟨#[]⟩, .int .i64 n, .slice none 0 0] 44)) (w.heap.size + 1) [.int .i64 0, .string ⟨#[]⟩, .string ⟨#[]⟩, .int .i64 0, .int .i64 0, .int .u32 0, .string ⟨#[]⟩, .int .i64 0, .slice none 0 0] 44) := Lib.hid (by
      have h := (Blk.new (w.alloc (.cells #[.int .i64 11, .string p, .string q, .int .i64 k, .int .i64 m, .int .u32 (t : Nat), .string D, .int .i64 n, v] 44)) [.int .i64 0, .string ⟨#[]⟩, .string ⟨#[]⟩, .int .i64 0, .int .i64 0, .int .u32 0, .string ⟨#[]⟩, .int .i64 0, .slice none 0 0] 44).alloc (.cells #[.int .i64 11, .string ⟨#[]⟩, .string ⟨#[]⟩, .int .i64 0, .int .i64 0, .int .u32 0, .string ⟨#[]⟩, .int .i64 n, .slice none 0 0] 44)
      simpa using h)
    have HBl : Hid (Blk (((w.alloc (.cells #[.int .i64 11, .string p, .string q, .int .i64 k, .int .i64 m, .int .u32 (t : Nat), .string D, .int .i64 n, v] 44)).alloc (.cells #[.int .i64 0, .string ⟨#[]⟩, .string ⟨#[]⟩, .int .i64 0, .int .i64 0, .int .u32 0, .string ⟨#[]⟩, .int .i64 0, .slice none 0 0] 44)).alloc (.cells #[.int .i64 11, .string ⟨#[]⟩, .string ⟨#[]⟩, .int .i64 0, .int .i64 0, .int .u32 0, .string ⟨#[]⟩, .int .i64 n, .slice none 0 0] 44)) (w.heap.size + 1 + 1) [.int .i64 11, .string ⟨#[]⟩, .string ⟨#[]⟩, .int .i64 0, .int .i64 0, .int .u32 0, .string ⟨#[]⟩, .int .i64 n, .slice none 0 0] 44) := Lib.hid (by
      have h := Blk.new ((w.alloc (.cells #[.int .i64 11, .string p, .string q, .int .i64 k, .int .i64 m, .int .u32 (t : Nat), .string D, .int .i64 n, v] 44)).alloc (.cells #[.int .i64 0, .string ⟨#[]⟩, .string ⟨#[]⟩, .int .i64 0, .int .i64 0, .int .u32 0, .string ⟨#[]⟩, .int .i64 0, .slice none 0 0] 44)) [.int .i64 11, .string ⟨#[]⟩, .string ⟨#[]⟩, .int .i64 0, .int .i64 0, .int .u32 0, .string ⟨#[]⟩, .int .i64 n, .slice none 0 0] 44
      simpa using h)
    have HU := Lib.hid ((((Upd.refl [] w).alloc (.cells #[.int .i64 11, .string p, .string q, .int .i64 k, .int .i64 m, .int .u32 (t : Nat), .string D, .int .i64 n, v] 44)).alloc (.cells #[.int .i64 0, .string ⟨#[]⟩, .string ⟨#[]⟩, .int .i64 0, .int .i64 0, .int .u32 0, .string ⟨#[]⟩, .int .i64 0, .slice none 0 0] 44)).alloc (.cells #[.int .i64 11, .string ⟨#[]⟩, .string ⟨#[]⟩, .int .i64 0, .int .i64 0, .int .u32 0, .string ⟨#[]⟩, .int .i64 n, .slice none 0 0] 44))
    change Code.wp _ _ _ _ (((w.alloc (.cells #[.int .i64 11, .string p, .string q, .int .i64 k, .int .i64 m, .int .u32 (t : Nat), .string D, .int .i64 n, v] 44)).alloc (.cells #[.int .i64 0, .string ⟨#[]⟩, .string ⟨#[]⟩, .int .i64 0, .int .i64 0, .int .u32 0, .string ⟨#[]⟩, .int .i64 0, .slice none 0 0] 44)).alloc (.cells #[.int .i64 11, .string ⟨#[]⟩, .string ⟨#[]⟩, .int .i64 0, .int .i64 0, .int .u32 0, .string ⟨#[]⟩, .int .i64 n, .slice none 0 0] 44))
    generalize ((w.alloc (.cells #[.int .i64 11, .string p, .string q, .int .i64 k, .int .i64 m, .int .u32 (t : Nat), .string D, .int .i64 n, v] 44)).alloc (.cells #[.int .i64 0, .string ⟨#[]⟩, .string ⟨#[]⟩, .int .i64 0, .int .i64 0, .int .u32 0, .string ⟨#[]⟩, .int .i64 0, .slice none 0 0] 44)).alloc (.cells #[.int .i64 11, .string ⟨#[]⟩, .string ⟨#[]⟩, .int .i64 0, .int .i64 0, .int .u32 0, .string ⟨#[]⟩, .int .i64 n, .slice none 0 0] 44) = w4 at *
    obtain ⟨o, ho⟩ : ∃ o, w.heap.size + 1 = o := ⟨_, rfl⟩
    have HO := Lib.hid (show w.heap.size ≤ o by omega)
    rw [ho] at HBo HBl ⊢
    generalize o + 1 = lb at *
    clear ho
    have c0 := HBl.out.cell 0 rfl
    have o0 := HBo.out.cell 0 rfl
    have f0 := HBo.out.frz 0
    have c1 := HBl.out.cell 1 rfl
    have o1 := HBo.out.cell 1 rfl
    have f1 := HBo.out.frz 1
    have c2 := HBl.out.cell 2 rfl
    have o2 := HBo.out.cell 2 rfl
    have f2 := HBo.out.frz 2
    have c3 := HBl.out.cell 3 rfl
    have o3 := HBo.out.cell 3 rfl
    have f3 := HBo.out.frz 3
    have c4 := HBl.out.cell 4 rfl
    have o4 := HBo.out.cell 4 rfl
    have f4 := HBo.out.frz 4
    have c5 := HBl.out.cell 5 rfl
    have o5 := HBo.out.cell 5 rfl
    have f5 := HBo.out.frz 5
    have c6 := HBl.out.cell 6 rfl
    have o6 := HBo.out.cell 6 rfl
    have f6 := HBo.out.frz 6
    have c7 := HBl.out.cell 7 rfl
    have o7 := HBo.out.cell 7 rfl
    have f7 := HBo.out.frz 7
    have c8 := HBl.out.cell 8 rfl
    have o8 := HBo.out.cell 8 rfl
    have f8 := HBo.out.frz 8
    go_wp2
    refine bodyPost_ret (results_ev rfl _ _ o _ _ _ _ _ _ _ _ _ rfl (Blk.set (Blk.set (Blk.set (Blk.set (Blk.set (Blk.set (Blk.set (Blk.set (Blk.set HBo.out 0 (.int .i64 11)) 1 (.string ⟨#[]⟩)) 2 (.string ⟨#[]⟩)) 3 (.int .i64 0)) 4 (.int .i64 0)) 5 (.int .u32 0)) 6 (.string ⟨#[]⟩)) 7 (.int .i64 n)) 8 (.slice none 0 0))) rfl ?_
    exact ⟨rfl, (Upd.setCell (Upd.setCell (Upd.setCell (Upd.setCell (Upd.setCell (Upd.setCell (Upd.setCell (Upd.setCell (Upd.setCell HU.out (p := ⟨o, 0, none⟩) (.inr HO.out) (.int .i64 11)) (p := ⟨o, 1, none⟩) (.inr HO.out) (.string ⟨#[]⟩)) (p := ⟨o, 2, none⟩) (.inr HO.out) (.string ⟨#[]⟩)) (p := ⟨o, 3, none⟩) (.inr HO.out) (.int .i64 0)) (p := ⟨o, 4, none⟩) (.inr HO.out) (.int .i64 0)) (p := ⟨o, 5, none⟩) (.inr HO.out) (.int .u32 0)) (p := ⟨o, 6, none⟩) (.inr HO.out) (.string ⟨#[]⟩)) (p := ⟨o, 7, none⟩) (.inr HO.out) (.int .i64 n)) (p := ⟨o, 8, none⟩) (.inr HO.out) (.slice none 0 0))⟩
  · have HV : Hid ((bareE ⟨12, p, q, k, m, t, D, n, v, l⟩).val = .agg #[.int .i64 12, .string ⟨#[]⟩, .string ⟨#[]⟩, .int .i64 0, .int .i64 0, .int .u32 0, .string ⟨#[]⟩, .int .i64 n, .slice none 0 0]) := Lib.hid (by first | rfl | (simp [bareE, EvN.val, EvN.cells]))
    rw [HV.out]
    unfold EvN.val EvN.cells
    dsimp only
    go_enter Tryd.func51, Tryd.ntmps51
    go_upto_region 17 with fail
    have HBo : Hid (Blk (((w.alloc (.cells #[.int .i64 12, .string p, .string q, .int .i64 k, .int .i64 m, .int .u32 (t : Nat), .string D, .int .i64 n, v] 44)).alloc (.cells #[.int .i64 0, .string ⟨#[]⟩, .string ⟨#[]⟩, .int .i64 0, .int .i64 0, .int .u32 0, .string ⟨#[]⟩, .int .i64 0, .slice none 0 0] 44)).alloc (.cells #[.int .i64 12, .string ⟨#[]⟩, .string ⟨#[]⟩, .int .i64 0, .int .i64 0, .int .u32 0, .string ⟨#[]⟩, .int .i64 n, .slice none 0 0] 44)) (w.heap.size + 1) [.int .i64 0, .string ⟨#[]⟩, .string ⟨#[]⟩, .int .i64 0, .int .i64 0, .int .u32 0, .string ⟨#[]⟩, .int .i64 0, .slice none 0 0] 44) := Lib.hid (by
      have h := (Blk.new (w.alloc (.cells #[.int .i64 12, .string p, .string q, .int .i64 k, .int .i64 m, .int .u32 (t : Nat), .string D, .int .i64 n, v] 44)) [.int .i64 0, .string ⟨#[]⟩, .string ⟨#[]⟩, .int .i64 0, .int .i64 0, .int .u32 0, .string ⟨#[]⟩, .int .i64 0, .slice none 0 0] 44).alloc (.cells #[.int .i64 12, .string ⟨#[]⟩, .string ⟨#[]⟩, .int .i64 0, .int .i64 0, .int .u32 0, .string ⟨#[]⟩, .int .i64 n, .slice none 0 0] 44)
      simpa using h)
    have HBl : Hid (Blk (((w.alloc (.cells #[.int .i64 12, .string p, .string q, .int .i64 k, .int .i64 m, .int .u32 (t : Nat), .string D, .int .i64 n, v] 44)).alloc (.cells #[.int .i64 0, .string ⟨#[]⟩, .string ⟨#[]⟩, .int .i64 0, .int .i64 0, .int .u32 0, .string ⟨#[]⟩, .int .i64 0, .slice none 0 0] 44)).alloc (.cells #[.int .i64 12, .string ⟨#[]⟩, .string ⟨#[]⟩, .int .i64 0, .int .i64 0, .int .u32 0, .string ⟨#[]⟩, .int .i64 n, .slice none 0 0] 44)) (w.heap.size + 1 + 1) [.int .i64 12, .string ⟨#[]⟩, .string ⟨#[]⟩, .int .i64 0, .int .i64 0, .int .u32 0, .string ⟨#[]⟩, .int .i64 n, .slice none 0 0] 44) := Lib.hid (by
      have h := Blk.new ((w.alloc (.cells #[.int .i64 12, .string p, .string q, .int .i64 k, .int .i64 m, .int .u32 (t : Nat), .string D, .int .i64 n, v] 44)).alloc (.cells #[.int .i64 0, .string ⟨#[]⟩, .string ⟨#[]⟩, .int .i64 0, .int .i64 0, .int .u32 0, .string ⟨#[]⟩, .int .i64 0, .slice none 0 0] 44)) [.int .i64 12, .string ⟨#[]⟩, .string ⟨#[]⟩, .int .i64 0, .int .i64 0, .int .u32 0, .string ⟨#[]⟩, .int .i64 n, .slice none 0 0] 44
      simpa using h)
    have HU := Lib.hid ((((Upd.refl [] w).alloc (.cells #[.int .i64 12, .string p, .string q, .int .i64 k, .int .i64 m, .int .u32 (t : Nat), .string D, .int .i64 n, v] 44)).alloc (.cells #[.int .i64 0, .string ⟨#[]⟩, .string ⟨#[]⟩, .int .i64 0, .int .i64 0, .int .u32 0, .string ⟨#[]⟩, .int .i64 0, .slice none 0 0] 44)).alloc (.cells #[.int .i64 12, .string ⟨#[]⟩, .string ⟨#[]⟩, .int .i64 0, .int .i64 0, .int .u32 0, .string ⟨#[]⟩, .int .i64 n, .slice none 0 0] 44))
    change Code.wp _ _ _ _ (((w.alloc (.cells #[.int .i64 12, .string p, .string q, .int .i64 k, .int .i64 m, .int .u32 (t : Nat), .string D, .int .i64 n, v] 44)).alloc (.cells #[.int .i64 0, .string ⟨#[]⟩, .string ⟨#[]⟩, .int .i64 0, .int .i64 0, .int .u32 0, .string ⟨#[]⟩, .int .i64 0, .slice none 0 0] 44)).alloc (.cells #[.int .i64 12, .string ⟨#[]⟩, .string ⟨#[]⟩, .int .i64 0, .int .i64 0, .int .u32 0, .string ⟨#[]⟩, .int .i64 n, .slice none 0 0] 44))
    generalize ((w.alloc (.cells #[.int .i64 12, .string p, .string q, .int .i64 k, .int .i64 m, .int .u32 (t : Nat), .string D, .int .i64 n, v] 44)).alloc (.cells #[.int .i64 0, .string ⟨#[]⟩, .string ⟨#[]⟩, .int .i64 0, .int .i64 0, .int .u32 0, .string ⟨#[]⟩, .int .i64 0, .slice none 0 0] 44)).alloc (.cells #[.int .i64 12, .string ⟨#[]⟩, .string ⟨#[]⟩, .int .i64 0, .int .i64 0, .int .u32 0, .string ⟨#[]⟩, .int .i64 n, .slice none 0 0] 44) = w4 at *
    obtain ⟨o, ho⟩ : ∃ o, w.heap.size + 1 = o := ⟨_, rfl⟩
    have HO := Lib.hid (show w.heap.size ≤ o by omega)
    rw [ho] at HBo HBl ⊢
    generalize o + 1 = lb at *
    clear ho
    have c0 := HBl.out.cell 0 rfl
    have o0 := HBo.out.cell 0 rfl
    have f0 := HBo.out.frz 0
    have c1 := HBl.out.cell 1 rfl
    have o1 := HBo.out.cell 1 rfl
    have f1 := HBo.out.frz 1
    have c2 := HBl.out.cell 2 rfl
    have o2 := HBo.out.cell 2 rfl
    have f2 := HBo.out.frz 2
    have c3 := HBl.out.cell 3 rfl
    have o3 := HBo.out.cell 3 rfl
    have f3 := HBo.out.frz 3
    have c4 := HBl.out.cell 4 rfl
    have o4 := HBo.out.cell 4 rfl
    have f4 := HBo.out.frz 4
    have c5 := HBl.out.cell 5 rfl
    have o5 := HBo.out.cell 5 rfl
    have f5 := HBo.out.frz 5
    have c6 := HBl.out.cell 6 rfl
    have o6 := HBo.out.cell 6 rfl
    have f6 := HBo.out.frz 6
    have c7 := HBl.out.cell 7 rfl
    have o7 := HBo.out.cell 7 rfl
    have f7 := HBo.out.frz 7
    have c8 := HBl.out.cell 8 rfl
    have o8 := HBo.out.cell 8 rfl
    have f8 := HBo.out.frz 8
    go_wp2
    refine bodyPost_ret (results_ev rfl _ _ o _ _ _ _ _ _ _ _ _ rfl (Blk.set (Blk.set (Blk.set (Blk.set (Blk.set (Blk.set (Blk.set (Blk.set (Blk.set HBo.out 0 (.int .i64 12)) 1 (.string ⟨#[]⟩)) 2 (.string ⟨#[]⟩)) 3 (.int .i64 0)) 4 (.int .i64 0)) 5 (.int .u32 0)) 6 (.string ⟨#[]⟩)) 7 (.int .i64 n)) 8 (.slice none 0 0))) rfl ?_
    exact ⟨rfl, (Upd.setCell (Upd.setCell (Upd.setCell (Upd.setCell (Upd.setCell (Upd.setCell (Upd.setCell (Upd.setCell (Upd.setCell HU.out (p := ⟨o, 0, none⟩) (.inr HO.out) (.int .i64 12)) (p := ⟨o, 1, none⟩) (.inr HO.out) (.string ⟨#[]⟩)) (p := ⟨o, 2, none⟩) (.inr HO.out) (.string ⟨#[]⟩)) (p := ⟨o, 3, none⟩) (.inr HO.out) (.int .i64 0)) (p := ⟨o, 4, none⟩) (.inr HO.out) (.int .i64 0)) (p := ⟨o, 5, none⟩) (.inr HO.out) (.int .u32 0)) (p := ⟨o, 6, none⟩) (.inr HO.out) (.string ⟨#[]⟩)) (p := ⟨o, 7, none⟩) (.inr HO.out) (.int .i64 n)) (p := ⟨o, 8, none⟩) (.inr HO.out) (.slice none 0 0))⟩
  · have HV : Hid ((bareE ⟨13, p, q, k, m, t, D, n, v, l⟩).val = .agg #[.int .i64 13, .string ⟨#[]⟩, .string ⟨#[]⟩, .int .i64 0, .int .i64 0, .int .u32 0, .string ⟨#[]⟩, .int .i64 n, .slice none 0 0]) := Lib.hid (by first | rfl | (simp [bareE, EvN.val, EvN.cells]))
    rw [HV.out]
    unfold EvN.val EvN.cells
    dsimp only
    go_enter Tryd.func51, Tryd.ntmps51
    go_upto_region 17 with fail
    have HBo : Hid (Blk (((w.alloc (.cells #[.int .i64 13, .string p, .string q, .int .i64 k, .int .i64 m, .int .u32 (t : Nat), .string D, .int .i64 n, v] 44)).alloc (.cells #[.int .i64 0, .string ⟨#[]⟩, .string ⟨#[]⟩, .int .i64 0, .int .i64 0, .int .u32 0, .string ⟨#[]⟩, .int .i64 0, .slice none 0 0] 44)).alloc (.cells #[.int .i64 13, .string ⟨#[]⟩, .string ⟨#[]⟩, .int .i64 0, .int .i64 0, .int .u32 0, .string ⟨#[]⟩, .int .i64 n, .slice none 0 0] 44)) (w.heap.size + 1) [.int .i64 0, .string ⟨#[]⟩, .string ⟨#[]⟩, .int .i64 0, .int .i64 0, .int .u32 0, .string ⟨#[]⟩, .int .i64 0, .slice none 0 0] 44) := Lib.hid (by
      have h := (Blk.new (w.alloc (.cells #[.int .i64 13, .string p, .string q, .int .i64 k, .int .i64 m, .int .u32 (t : Nat), .string D, .int .i64 n, v] 44)) [.int .i64 0, .string ⟨#[]⟩, .string ⟨#[]⟩, .int .i64 0, .int .i64 0, .int .u32 0, .string ⟨#[]⟩, .int .i64 0, .slice none 0 0] 44).alloc (.cells #[.int .i64 13, .string ⟨#[]⟩, .string ⟨#[]⟩, .int .i64 0, .int .i64 0, .int .u32 0, .string ⟨#[]⟩, .int .i64 n, .slice none 0 0] 44)
      simpa using h)
    have HBl : Hid (Blk (((w.alloc (.cells #[.int .i64 13, .string p, .string q, .int .i64 k, .int .i64 m, .int .u32 (t : Nat), .string D, .int .i64 n, v] 44)).alloc (.cells #[.int .i64 0, .string ⟨#[]⟩, .string ⟨#[]⟩, .int .i64 0, .int .i64 0, .int .u32 0, .string ⟨#[]⟩, .int .i64 0, .slice none 0 0] 44)).alloc (.cells #[.int .i64 13, .string ⟨#[]⟩, .string ⟨#[]⟩, .int .i64 0, .int .i64 0, .int .u32 0, .string ⟨#[]⟩, .int .i64 n, .slice none 0 0] 44)) (w.heap.size + 1 + 1) [.int .i64 13, .string ⟨#[]⟩, .string ⟨#[]⟩, .int .i64 0, .int .i64 0, .int .u32 0, .string ⟨#[]⟩, .int .i64 n, .slice none 0 0] 44) := Lib.hid (by
      have h := Blk.new ((w.alloc (.cells #[.int .i64 13, .string p, .string q, .int .i64 k, .int .i64 m, .int .u32 (t : Nat), .string D, .int .i64 n, v] 44)).alloc (.cells #[.int .i64 0, .string ⟨#[]⟩, .string ⟨#[]⟩, .int .i64 0, .int .i64 0, .int .u32 0, .string ⟨#[]⟩, .int .i64 0, .slice none 0 0] 44)) [.int .i64 13, .string ⟨#[]⟩, .string ⟨#[]⟩, .int .i64 0, .int .i64 0, .int .u32 0, .string ⟨#[]⟩, .int .i64 n, .slice none 0 0] 44
      simpa using h)
    have HU := Lib.hid ((((Upd.refl [] w).alloc (.cells #[.int .i64 13, .string p, .string q, .int .i64 k, .int .i64 m, .int .u32 (t : Nat), .string D, .int .i64 n, v] 44)).alloc (.cells #[.int .i64 0, .string ⟨#[]⟩, .string ⟨#[]⟩, .int .i64 0, .int .i64 0, .int .u32 0, .string ⟨#[]⟩, .int .i64 0, .slice none 0 0] 44)).alloc (.cells #[.int .i64 13, .string ⟨#[]⟩, .string ⟨#[]⟩, .int .i64 0, .int .i64 0, .int .u32 0, .string ⟨#[]⟩, .int .i64 n, .slice none 0 0] 44))
    change Code.wp _ _ _ _ (((w.alloc (.cells #[.int .i64 13, .string p, .string q, .int .i64 k, .int .i64 m, .int .u32 (t : Nat), .string D, .int .i64 n, v] 44)).alloc (.cells #[.int .i64 0, .string ⟨#[]⟩, .string ⟨#[]⟩, .int .i64 0, .int .i64 0, .int .u32 0, .string ⟨#[]⟩, .int .i64 0, .slice none 0 0] 44)).alloc (.cells #[.int .i64 13, .string ⟨#[]⟩, .string ⟨#[]⟩, .int .i64 0, .int .i64 0, .int .u32 0, .string ⟨#[]⟩, .int .i64 n, .slice none 0 0] 44))
    generalize ((w.alloc (.cells #[.int .i64 13, .string p, .string q, .int .i64 k, .int .i64 m, .int .u32 (t : Nat), .string D, .int .i64 n, v] 44)).alloc (.cells #[.int .i64 0, .string ⟨#[]⟩, .string ⟨#[]⟩, .int .i64 0, .int .i64 0, .int .u32 0, .string ⟨#[]⟩, .int .i64 0, .slice none 0 0] 44)).alloc (.cells #[.int .i64 13, .string ⟨#[]⟩, .string ⟨#[]⟩, .int .i64 0, .int .i64 0, .int .u32 0, .string ⟨#[]⟩, .int .i64 n, .slice none 0 0] 44) = w4 at *
    obtain ⟨o, ho⟩ : ∃ o, w.heap.size + 1 = o := ⟨_, rfl⟩
    have HO := Lib.hid (show w.heap.size ≤ o by omega)
    rw [ho] at HBo HBl ⊢
    generalize o + 1 = lb at *
    clear ho
    have c0 := HBl.out.cell 0 rfl
    have o0 := HBo.out.cell 0 rfl
    have f0 := HBo.out.frz 0
    have c1 := HBl.out.cell 1 rfl
    have o1 := HBo.out.cell 1 rfl
    have f1 := HBo.out.frz 1
    have c2 := HBl.out.cell 2 rfl
    have o2 := HBo.out.cell 2 rfl
    have f2 := HBo.out.frz 2
    have c3 := HBl.out.cell 3 rfl
    have o3 := HBo.out.cell 3 rfl
    have f3 := HBo.out.frz 3
    have c4 := HBl.out.cell 4 rfl
    have o4 := HBo.out.cell 4 rfl
    have f4 := HBo.out.frz 4
    have c5 := HBl.out.cell 5 rfl
    have o5 := HBo.out.cell 5 rfl
    have f5 := HBo.out.frz 5
    have c6 := HBl.out.cell 6 rfl
    have o6 := HBo.out.cell 6 rfl
    have f6 := HBo.out.frz 6
    have c7 := HBl.out.cell 7 rfl
    have o7 := HBo.out.cell 7 rfl
    have f7 := HBo.out.frz 7
    have c8 := HBl.out.cell 8 rfl
    have o8 := HBo.out.cell 8 rfl
    have f8 := HBo.out.frz 8
    go_wp2
    refine bodyPost_ret (results_ev rfl _ _ o _ _ _ _ _ _ _ _ _ rfl (Blk.set (Blk.set (Blk.set (Blk.set (Blk.set (Blk.set (Blk.set (Blk.set (Blk.set HBo.out 0 (.int .i64 13)) 1 (.string ⟨#[]⟩)) 2 (.string ⟨#[]⟩)) 3 (.int .i64 0)) 4 (.int .i64 0)) 5 (.int .u32 0)) 6 (.string ⟨#[]⟩)) 7 (.int .i64 n)) 8 (.slice none 0 0))) rfl ?_
    exact ⟨rfl, (Upd.setCell (Upd.setCell (Upd.setCell (Upd.setCell (Upd.setCell (Upd.setCell (Upd.setCell (Upd.setCell (Upd.setCell HU.out (p := ⟨o, 0, none⟩) (.inr HO.out) (.int .i64 13)) (p := ⟨o, 1, none⟩) (.inr HO.out) (.string ⟨#[]⟩)) (p := ⟨o, 2, none⟩) (.inr HO.out) (.string ⟨#[]⟩)) (p := ⟨o, 3, none⟩) (.inr HO.out) (.int .i64 0)) (p := ⟨o, 4, none⟩) (.inr HO.out) (.int .i64 0)) (p := ⟨o, 5, none⟩) (.inr HO.out) (.int .u32 0)) (p := ⟨o, 6, none⟩) (.inr HO.out) (.string ⟨#[]⟩)) (p := ⟨o, 7, none⟩) (.inr HO.out) (.int .i64 n)) (p := ⟨o, 8, none⟩) (.inr HO.out) (.slice none 0 0))⟩
  · obtain ⟨va, vn, vc, rfl⟩ := hv
    have HV : Hid ((bareE ⟨14, p, q, k, m, t, D, n, .slice va vn vc, l⟩).val = .agg #[.int .i64 14, .string ⟨#[]⟩, .string ⟨#[]⟩, .int .i64 0, .int .i64 0, .int .u32 0, .string ⟨#[]⟩, .int .i64 0, .slice va vn vc]) := Lib.hid (by first | rfl | (simp [bareE, EvN.val, EvN.cells]))
    rw [HV.out]
    unfold EvN.val EvN.cells
    dsimp only
    go_enter Tryd.func51, Tryd.ntmps51
    go_upto_region 17 with fail
    have HBo : Hid (Blk (((w.alloc (.cells #[.int .i64 14, .string p, .string q, .int .i64 k, .int .i64 m, .int .u32 (t : Nat), .string D, .int .i64 n, .slice va vn vc] 44)).alloc (.cells #[.int .i64 0, .string ⟨#[]⟩, .string ⟨#[]⟩, .int .i64 0, .int .i64 0, .int .u32 0, .string ⟨#[]⟩, .int .i64 0, .slice none 0 0] 44)).alloc (.cells #[.int .i64 14, .string ⟨#[]⟩, .string ⟨#[]⟩, .int .i64 0, .int .i64 0, .int .u32 0, .string ⟨#[]⟩, .int .i64 0, .slice va vn vc] 44)) (w.heap.size + 1) [.int .i64 0, .string ⟨#[]⟩, .string ⟨#[]⟩, .int .i64 0, .int .i64 0, .int .u32 0, .string ⟨#[]⟩, .int .i64 0, .slice none 0 0] 44) := Lib.hid (by
      have h := (Blk.new (w.alloc (.cells #[.int .i64 14, .string p, .string q, .int .i64 k, .int .i64 m, .int .u32 (t : Nat), .string D, .int .i64 n, .slice va vn vc] 44)) [.int .i64 0, .string ⟨#[]⟩, .string ⟨#[]⟩, .int .i64 0, .int .i64 0, .int .u32 0, .string ⟨#[]⟩, .int .i64 0, .slice none 0 0] 44).alloc (.cells #[.int .i64 14, .string ⟨#[]⟩, .string ⟨#[]⟩, .int .i64 0, .int .i64 0, .int .u32 0, .string ⟨#[]⟩, .int .i64 0, .slice va vn vc] 44)
      simpa using h)
    have HBl : Hid (Blk (((w.alloc (.cells #[.int .i64 14, .string p, .string q, .int .i64 k, .int .i64 m, .int .u32 (t : Nat), .string D, .int .i64 n, .slice va vn vc] 44)).alloc (.cells #[.int .i64 0, .string ⟨#[]⟩, .string ⟨#[]⟩, .int .i64 0, .int .i64 0, .int .u32 0, .string ⟨#[]⟩, .int .i64 0, .slice none 0 0] 44)).alloc (.cells #[.int .i64 14, .string ⟨#[]⟩, .string ⟨#[]⟩, .int .i64 0, .int .i64 0, .int .u32 0, .string ⟨#[]⟩, .int .i64 0, .slice va vn vc] 44)) (w.heap.size + 1 + 1) [.int .i64 14, .string ⟨#[]⟩, .string ⟨#[]⟩, .int .i64 0, .int .i64 0, .int .u32 0, .string ⟨#[]⟩, .int .i64 0, .slice va vn vc] 44) := Lib.hid (by
      have h := Blk.new ((w.alloc (.cells #[.int .i64 14, .string p, .string q, .int .i64 k, .int .i64 m, .int .u32 (t : Nat), .string D, .int .i64 n, .slice va vn vc] 44)).alloc (.cells #[.int .i64 0, .string ⟨#[]⟩, .string ⟨#[]⟩, .int .i64 0, .int .i64 0, .int .u32 0, .string ⟨#[]⟩, .int .i64 0, .slice none 0 0] 44)) [.int .i64 14, .string ⟨#[]⟩, .string ⟨#[]⟩, .int .i64 0, .int .i64 0, .int .u32 0, .string ⟨#[]⟩, .int .i64 0, .slice va vn vc] 44
      simpa using h)
    have HU := Lib.hid ((((Upd.refl [] w).alloc (.cells #[.int .i64 14, .string p, .string q, .int .i64 k, .int .i64 m, .int .u32 (t : Nat), .string D, .int .i64 n, .slice va vn vc] 44)).alloc (.cells #[.int .i64 0, .string ⟨#[]⟩, .string ⟨#[]⟩, .int .i64 0, .int .i64 0, .int .u32 0, .string ⟨#[]⟩, .int .i64 0, .slice none 0 0] 44)).alloc (.cells #[.int .i64 14, .string ⟨#[]⟩, .string ⟨#[]⟩, .int .i64 0, .int .i64 0, .int .u32 0, .string ⟨#[]⟩, .int .i64 0, .slice va vn vc] 44))
    change Code.wp _ _ _ _ (((w.alloc (.cells #[.int .i64 14, .string p, .string q, .int .i64 k, .int .i64 m, .int .u32 (t : Nat), .string D, .int .i64 n, .slice va vn vc] 44)).alloc (.cells #[.int .i64 0, .string ⟨#[]⟩, .string ⟨#[]⟩, .int .i64 0, .int .i64 0, .int .u32 0, .string ⟨#[]⟩, .int .i64 0, .slice none 0 0] 44)).alloc (.cells #[.int .i64 14, .string ⟨#[]⟩, .string ⟨#[]⟩, .int .i64 0, .int .i64 0, .int .u32 0, .string ⟨#[]⟩, .int .i64 0, .slice va vn vc] 44))
    generalize ((w.alloc (.cells #[.int .i64 14, .string p, .string q, .int .i64 k, .int .i64 m, .int .u32 (t : Nat), .string D, .int .i64 n, .slice va vn vc] 44)).alloc (.cells #[.int .i64 0, .string ⟨#[]⟩, .string ⟨#[]⟩, .int .i64 0, .int .i64 0, .int .u32 0, .string ⟨#[]⟩, .int .i64 0, .slice none 0 0] 44)).alloc (.cells #[.int .i64 14, .string ⟨#[]⟩, .string ⟨#[]⟩, .int .i64 0, .int .i64 0, .int .u32 0, .string ⟨#[]⟩, .int .i64 0, .slice va vn vc] 44) = w4 at *
    obtain ⟨o, ho⟩ : ∃ o, w.heap.size + 1 = o := ⟨_, rfl⟩
    have HO := Lib.hid (show w.heap.size ≤ o by omega)
    rw [ho] at HBo HBl ⊢
    generalize o + 1 = lb at *
    clear ho
    have c0 := HBl.out.cell 0 rfl
    have o0 := HBo.out.cell 0 rfl
    have f0 := HBo.out.frz 0
    have c1 := HBl.out.cell 1 rfl
    have o1 := HBo.out.cell 1 rfl
    have f1 := HBo.out.frz 1
    have c2 := HBl.out.cell 2 rfl
    have o2 := HBo.out.cell 2 rfl
    have f2 := HBo.out.frz 2
    have c3 := HBl.out.cell 3 rfl
    have o3 := HBo.out.cell 3 rfl
    have f3 := HBo.out.frz 3
    have c4 := HBl.out.cell 4 rfl
    have o4 := HBo.out.cell 4 rfl
    have f4 := HBo.out.frz 4
    have c5 := HBl.out.cell 5 rfl
    have o5 := HBo.out.cell 5 rfl
    have f5 := HBo.out.frz 5
    have c6 := HBl.out.cell 6 rfl
    have o6 := HBo.out.cell 6 rfl
    have f6 := HBo.out.frz 6
    have c7 := HBl.out.cell 7 rfl
    have o7 := HBo.out.cell 7 rfl
    have f7 := HBo.out.frz 7
    have c8 := HBl.out.cell 8 rfl
    have o8 := HBo.out.cell 8 rfl
    have f8 := HBo.out.frz 8
    go_wp2
    refine bodyPost_ret (results_ev rfl _ _ o _ _ _ _ _ _ _ _ _ rfl (Blk.set (Blk.set (Blk.set (Blk.set (Blk.set (Blk.set (Blk.set (Blk.set (Blk.set HBo.out 0 (.int .i64 14)) 1 (.string ⟨#[]⟩)) 2 (.string ⟨#[]⟩)) 3 (.int .i64 0)) 4 (.int .i64 0)) 5 (.int .u32 0)) 6 (.string ⟨#[]⟩)) 7 (.int .i64 0)) 8 (.slice va vn vc))) rfl ?_
    exact ⟨rfl, (Upd.setCell (Upd.setCell (Upd.setCell (Upd.setCell (Upd.setCell (Upd.setCell (Upd.setCell (Upd.setCell (Upd.setCell HU.out (p := ⟨o, 0, none⟩) (.inr HO.out) (.int .i64 14)) (p := ⟨o, 1, none⟩) (.inr HO.out) (.string ⟨#[]⟩)) (p := ⟨o, 2, none⟩) (.inr HO.out) (.string ⟨#[]⟩)) (p := ⟨o, 3, none⟩) (.inr HO.out) (.int .i64 0)) (p := ⟨o, 4, none⟩) (.inr HO.out) (.int .i64 0)) (p := ⟨o, 5, none⟩) (.inr HO.out) (.int .u32 0)) (p := ⟨o, 6, none⟩) (.inr HO.out) (.string ⟨#[]⟩)) (p := ⟨o, 7, none⟩) (.inr HO.out) (.int .i64 0)) (p := ⟨o, 8, none⟩) (.inr HO.out) (.slice va vn vc))⟩
  · have HV : Hid ((bareE ⟨op, p, q, k, m, t, D, n, v, l⟩).val = .agg #[.int .i64 op, .string ⟨#[]⟩, .string ⟨#[]⟩, .int .i64 0, .int .i64 0, .int .u32 0, .string ⟨#[]⟩, .int .i64 0, .slice none 0 0]) := Lib.hid (by unfold bareE; rw [if_neg (by simp; omega), if_neg (by simp; omega), if_neg (by simp; omega), if_neg (by simp; omega), if_neg (by simp; omega)]; rfl)
    have e1 : (op == 1) = false := by simpa using h1
    have e4 : (op == 4) = false := by simpa using h4
    have e2 : (op == 2) = false := by simpa using h2
    have e3 : (op == 3) = false := by simpa using h3
    have e5 : (op == 5) = false := by simpa using h5
    have e11 : (op == 11) = false := by simpa using h11
    have e12 : (op == 12) = false := by simpa using h12
    have e13 : (op == 13) = false := by simpa using h13
    have e14 : (op == 14) = false := by simpa using h14
    rw [HV.out]
    unfold EvN.val EvN.cells
    dsimp only
    go_enter Tryd.func51, Tryd.ntmps51
    go_upto_region 17 with fail
    have HBo : Hid (Blk (((w.alloc (.cells #[.int .i64 op, .string p, .string q, .int .i64 k, .int .i64 m, .int .u32 (t : Nat), .string D, .int .i64 n, v] 44)).alloc (.cells #[.int .i64 0, .string ⟨#[]⟩, .string ⟨#[]⟩, .int .i64 0, .int .i64 0, .int .u32 0, .string ⟨#[]⟩, .int .i64 0, .slice none 0 0] 44)).alloc (.cells #[.int .i64 op, .string ⟨#[]⟩, .string ⟨#[]⟩, .int .i64 0, .int .i64 0, .int .u32 0, .string ⟨#[]⟩, .int .i64 0, .slice none 0 0] 44)) (w.heap.size + 1) [.int .i64 0, .string ⟨#[]⟩, .string ⟨#[]⟩, .int .i64 0, .int .i64 0, .int .u32 0, .string ⟨#[]⟩, .int .i64 0, .slice none 0 0] 44) := Lib.hid (by
      have h := (Blk.new (w.alloc (.cells #[.int .i64 op, .string p, .string q, .int .i64 k, .int .i64 m, .int .u32 (t : Nat), .string D, .int .i64 n, v] 44)) [.int .i64 0, .string ⟨#[]⟩, .string ⟨#[]⟩, .int .i64 0, .int .i64 0, .int .u32 0, .string ⟨#[]⟩, .int .i64 0, .slice none 0 0] 44).alloc (.cells #[.int .i64 op, .string ⟨#[]⟩, .string ⟨#[]⟩, .int .i64 0, .int .i64 0, .int .u32 0, .string ⟨#[]⟩, .int .i64 0, .slice none 0 0] 44)
      simpa using h)
    have HBl : Hid (Blk (((w.alloc (.cells #[.int .i64 op, .string p, .string q, .int .i64 k, .int .i64 m, .int .u32 (t : Nat), .string D, .int .i64 n, v] 44)).alloc (.cells #[.int .i64 0, .string ⟨#[]⟩, .string ⟨#[]⟩, .int .i64 0, .int .i64 0, .int .u32 0, .string ⟨#[]⟩, .int .i64 0, .slice none 0 0] 44)).alloc (.cells #[.int .i64 op, .string ⟨#[]⟩, .string ⟨#[]⟩, .int .i64 0, .int .i64 0, .int .u32 0, .string ⟨#[]⟩, .int .i64 0, .slice none 0 0] 44)) (w.heap.size + 1 + 1) [.int .i64 op, .string ⟨#[]⟩, .string ⟨#[]⟩, .int .i64 0, .int .i64 0, .int .u32 0, .string ⟨#[]⟩, .int .i64 0, .slice none 0 0] 44) := Lib.hid (by
      have h := Blk.new ((w.alloc (.cells #[.int .i64 op, .string p, .string q, .int .i64 k, .int .i64 m, .int .u32 (t : Nat), .string D, .int .i64 n, v] 44)).alloc (.cells #[.int .i64 0, .string ⟨#[]⟩, .string ⟨#[]⟩, .int .i64 0, .int .i64 0, .int .u32 0, .string ⟨#[]⟩, .int .i64 0, .slice none 0 0] 44)) [.int .i64 op, .string ⟨#[]⟩, .string ⟨#[]⟩, .int .i64 0, .int .i64 0, .int .u32 0, .string ⟨#[]⟩, .int .i64 0, .slice none 0 0] 44
      simpa using h)
    have HU := Lib.hid ((((Upd.refl [] w).alloc (.cells #[.int .i64 op, .string p, .string q, .int .i64 k, .int .i64 m, .int .u32 (t : Nat), .string D, .int .i64 n, v] 44)).alloc (.cells #[.int .i64 0, .string ⟨#[]⟩, .string ⟨#[]⟩, .int .i64 0, .int .i64 0, .int .u32 0, .string ⟨#[]⟩, .int .i64 0, .slice none 0 0] 44)).alloc (.cells #[.int .i64 op, .string ⟨#[]⟩, .string ⟨#[]⟩, .int .i64 0, .int .i64 0, .int .u32 0, .string ⟨#[]⟩, .int .i64 0, .slice none 0 0] 44))
    change Code.wp _ _ _ _ (((w.alloc (.cells #[.int .i64 op, .string p, .string q, .int .i64 k, .int .i64 m, .int .u32 (t : Nat), .string D, .int .i64 n, v] 44)).alloc (.cells #[.int .i64 0, .string ⟨#[]⟩, .string ⟨#[]⟩, .int .i64 0, .int .i64 0, .int .u32 0, .string ⟨#[]⟩, .int .i64 0, .slice none 0 0] 44)).alloc (.cells #[.int .i64 op, .string ⟨#[]⟩, .string ⟨#[]⟩, .int .i64 0, .int .i64 0, .int .u32 0, .string ⟨#[]⟩, .int .i64 0, .slice none 0 0] 44))
    generalize ((w.alloc (.cells #[.int .i64 op, .string p, .string q, .int .i64 k, .int .i64 m, .int .u32 (t : Nat), .string D, .int .i64 n, v] 44)).alloc (.cells #[.int .i64 0, .string ⟨#[]⟩, .string ⟨#[]⟩, .int .i64 0, .int .i64 0, .int .u32 0, .string ⟨#[]⟩, .int .i64 0, .slice none 0 0] 44)).alloc (.cells #[.int .i64 op, .string ⟨#[]⟩, .string ⟨#[]⟩, .int .i64 0, .int .i64 0, .int .u32 0, .string ⟨#[]⟩, .int .i64 0, .slice none 0 0] 44) = w4 at *
    obtain ⟨o, ho⟩ : ∃ o, w.heap.size + 1 = o := ⟨_, rfl⟩
    have HO := Lib.hid (show w.heap.size ≤ o by omega)
    rw [ho] at HBo HBl ⊢
    generalize o + 1 = lb at *
    clear ho
    have c0 := HBl.out.cell 0 rfl
    have o0 := HBo.out.cell 0 rfl
    have f0 := HBo.out.frz 0
    have c1 := HBl.out.cell 1 rfl
    have o1 := HBo.out.cell 1 rfl
    have f1 := HBo.out.frz 1
    have c2 := HBl.out.cell 2 rfl
    have o2 := HBo.out.cell 2 rfl
    have f2 := HBo.out.frz 2
    have c3 := HBl.out.cell 3 rfl
    have o3 := HBo.out.cell 3 rfl
    have f3 := HBo.out.frz 3
    have c4 := HBl.out.cell 4 rfl
    have o4 := HBo.out.cell 4 rfl
    have f4 := HBo.out.frz 4
    have c5 := HBl.out.cell 5 rfl
    have o5 := HBo.out.cell 5 rfl
    have f5 := HBo.out.frz 5
    have c6 := HBl.out.cell 6 rfl
    have o6 := HBo.out.cell 6 rfl
    have f6 := HBo.out.frz 6
    have c7 := HBl.out.cell 7 rfl
    have o7 := HBo.out.cell 7 rfl
    have f7 := HBo.out.frz 7
    have c8 := HBl.out.cell 8 rfl
    have o8 := HBo.out.cell 8 rfl
    have f8 := HBo.out.frz 8
    go_wp2
    refine bodyPost_ret (results_ev rfl _ _ o _ _ _ _ _ _ _ _ _ rfl (Blk.set (Blk.set (Blk.set (Blk.set (Blk.set (Blk.set (Blk.set (Blk.set (Blk.set HBo.out 0 (.int .i64 op)) 1 (.string ⟨#[]⟩)) 2 (.string ⟨#[]⟩)) 3 (.int .i64 0)) 4 (.int .i64 0)) 5 (.int .u32 0)) 6 (.string ⟨#[]⟩)) 7 (.int .i64 0)) 8 (.slice none 0 0))) rfl ?_
    exact ⟨rfl, (Upd.setCell (Upd.setCell (Upd.setCell (Upd.setCell (Upd.setCell (Upd.setCell (Upd.setCell (Upd.setCell (Upd.setCell HU.out (p := ⟨o, 0, none⟩) (.inr HO.out) (.int .i64 op)) (p := ⟨o, 1, none⟩) (.inr HO.out) (.string ⟨#[]⟩)) (p := ⟨o, 2, none⟩) (.inr HO.out) (.string ⟨#[]⟩)) (p := ⟨o, 3, none⟩) (.inr HO.out) (.int .i64 0)) (p := ⟨o, 4, none⟩) (.inr HO.out) (.int .i64 0)) (p := ⟨o, 5, none⟩) (.inr HO.out) (.int .u32 0)) (p := ⟨o, 6, none⟩) (.inr HO.out) (.string ⟨#[]⟩)) (p := ⟨o, 7, none⟩) (.inr HO.out) (.int .i64 0)) (p := ⟨o, 8, none⟩) (.inr HO.out) (.slice none 0 0))⟩
end Go.Proofs.YtigjingielnaoaaDoor

/- Package swingleref35: Right, for any event: its walk. -/
import Derived.Test.YtigjingielnaoaaGreatDoorSRt
import Derived.Test.YtigjingielnaoaaGreatDoorHeld
import Derived.Test.YtigjingielnaoaaGreatDoorQAM
import Derived.Test.YtigjingielnaoaaGreatDoorQBD
import Derived.Test.YtigjingielnaoaaGreatDoorQAV
namespace Go.Proofs.YtigjingielnaoaaGreatDoor
set_option linter.unusedVariables false
set_option linter.unusedSimpArgs false
set_option linter.unusedSectionVars false
open Go.RowKit
set_option linter.unusedVariables false
set_option linter.unusedSimpArgs false

def paR (e : EvN) : Bool := if e.op = 1 ∨ e.op = 4 ∨ e.op = 2 ∨ e.op = 3 then rightP (bytesOf e.p) else decide (bytesOf e.p = [])
def toR (e : EvN) : Bool := if e.op = 3 then rightP (bytesOf e.q) else decide (bytesOf e.q = [])
def ndR (e : EvN) : Bool := if e.op = 1 then decide (nodeErr e.k e.m e.t e.D = 0) && decide (e.k ≠ 0) else if e.op = 4 then decide (nodeErr e.k e.m e.t e.D = 0) else decide (e.k = 0 ∧ e.m = 0 ∧ (e.t : Int) = 0 ∧ e.D = ⟨#[]⟩)
def nuR (e : EvN) : Bool := if e.op = 5 then decide (0 ≤ e.n ∧ e.n ≤ 3) else if e.op = 11 ∨ e.op = 12 ∨ e.op = 13 then decide (-1 ≤ e.n ∧ e.n ≤ 100000) else decide (e.n = 0)
def okZ (l : List Int) : Bool := l.all fun x => decide (0 ≤ x ∧ x ≤ 1000)
def llR (e : EvN) : Bool := if e.op = 14 then decide (e.l.length ≤ 50) && okZ e.l else decide (e.l.length = 0)
/-- The document's answer. -/
def rightR (e : EvN) : Bool := decide (1 ≤ e.op ∧ e.op ≤ 14) && ((((paR e && toR e) && ndR e) && nuR e) && llR e)
theorem bytes_nil (S : ByteArray) : bytesOf S = [] ↔ S = ⟨#[]⟩ := by
  constructor
  · intro h
    rw [← strOf_bytesOf S, h]; rfl
  · rintro rfl; rfl
theorem rightR_eq (e : EvN) : rightR e = rightE e := by
  obtain ⟨op, p, q, k, m, t, D, n, v, l⟩ := e
  have hcase : op = 1 ∨ op = 4 ∨ op = 2 ∨ op = 3 ∨ op = 5 ∨ op = 11 ∨ op = 12 ∨ op = 13 ∨ op = 14 ∨ (op ≠ 1 ∧ op ≠ 4 ∧ op ≠ 2 ∧ op ≠ 3 ∧ op ≠ 5 ∧ op ≠ 11 ∧ op ≠ 12 ∧ op ≠ 13 ∧ op ≠ 14) := by omega
  rw [Bool.eq_iff_iff]
  rcases hcase with rfl | rfl | rfl | rfl | rfl | rfl | rfl | rfl | rfl | ⟨h1, h4, h2, h3, h5, h11, h12, h13, h14⟩
  all_goals
    simp [rightR, rightE, paR, toR, ndR, nuR, llR, mayE, bareE, sameE, bytes_nil, okZ, List.length_eq_zero_iff, *]
  all_goals
    try (intros; constructor <;> intro h <;> simp_all)
set_option maxRecDepth 100000 in
set_option maxHeartbeats 12800000 in
theorem rright35_any (e : EvN) (w : World) (hv : IntsAt w e.v e.l) (hl : e.l.length ≤ 9223372036854775807) (ht : e.t < 4294967296) (hp : e.p.size ≤ 1100000) (hq : e.q.size ≤ 1100000) (hD : e.D.size ≤ 9223372036854775807) :
    Calls Tryz.prog 11 #[e.val] w fun r w' => r = .returned (.bool (rightE e)) ∧ Upd [] w w' := by
  rw [← rightR_eq]
  obtain ⟨op, p, q, k, m, t, D, n, v, l⟩ := e
  dsimp only at hv hl ht hp hq hD
  have HNP := Lib.hid (fun w => rname_any p w hp)
  have HNQ := Lib.hid (fun w => rname_any q w hq)
  have HND := Lib.hid (fun w => rnodeRight_any k m t D w ht hD)
  obtain ⟨va, vc, rfl, hvc, hvx⟩ := hv
  have HVX := Lib.hid hvx
  have hp1 := isEmpty_of p
  have hq1 := isEmpty_of q
  clear hp hq hD ht hvx
  unfold nodeV at HND
  by_cases hop : 1 ≤ op ∧ op ≤ 14
  · obtain ⟨RR, hRR⟩ : ∃ RR, rightR ⟨op, p, q, k, m, t, D, n, .slice va l.length vc, l⟩ = RR := ⟨_, rfl⟩
    rw [hRR]
    have HRR := Lib.hid hRR
    clear hRR
    have hop1 : ¬ op < 1 := by omega
    have hop2 : ¬ 14 < op := by omega
    have hp0 : (p.toList.isEmpty) = decide (bytesOf p = []) := hp1
    have hq0 : (q.toList.isEmpty) = decide (bytesOf q = []) := hq1
    have hn0 : (n == 0) = decide (n = 0) := by by_cases h : n = 0 <;> simp [h]
    have hl0 : ((l.length : Int) == 0) = decide (l.length = 0) := by by_cases h : l.length = 0 <;> simp [h]
    clear hp1 hq1
    obtain ⟨bp, hbp⟩ : ∃ b, decide (bytesOf p = []) = b := ⟨_, rfl⟩
    obtain ⟨bq, hbq⟩ : ∃ b, decide (bytesOf q = []) = b := ⟨_, rfl⟩
    obtain ⟨bd, hbd⟩ : ∃ b, decide (k = 0 ∧ m = 0 ∧ (t : Int) = 0 ∧ D = ⟨#[]⟩) = b := ⟨_, rfl⟩
    obtain ⟨bn, hbn⟩ : ∃ b, decide (n = 0) = b := ⟨_, rfl⟩
    obtain ⟨bl, hbl⟩ : ∃ b, decide (l.length = 0) = b := ⟨_, rfl⟩
    rw [hbp] at hp0
    rw [hbq] at hq0
    rw [hbn] at hn0
    rw [hbl] at hl0
    have HBP := Lib.hid hbp
    have HBQ := Lib.hid hbq
    have HBD := Lib.hid hbd
    have HBN := Lib.hid hbn
    have HBL := Lib.hid hbl
    clear hbp hbq hbd hbn hbl
    unfold EvN.val EvN.cells
    dsimp only
    obtain ⟨len, hlen⟩ : ∃ len, l.length = len := ⟨_, rfl⟩
    have HLN := Lib.hid hlen
    rw [hlen] at hl0 hvc hl ⊢
    clear hlen
    have HB0 := Lib.hid (Blk.new w [.int .i64 op, .string p, .string q, .int .i64 k, .int .i64 m, .int .u32 (t : Nat), .string D, .int .i64 n, .slice va len vc] 27)
    have HU0 := Lib.hid ((Upd.refl [] w).alloc (.cells #[.int .i64 op, .string p, .string q, .int .i64 k, .int .i64 m, .int .u32 (t : Nat), .string D, .int .i64 n, .slice va len vc] 27))
    go_enter Tryz.func11, Tryz.ntmps11
    go_upto_region 1 with fail
    change Code.wp _ _ _ _ (w.alloc (.cells #[.int .i64 op, .string p, .string q, .int .i64 k, .int .i64 m, .int .u32 (t : Nat), .string D, .int .i64 n, .slice va len vc] 27))
    generalize w.alloc (.cells #[.int .i64 op, .string p, .string q, .int .i64 k, .int .i64 m, .int .u32 (t : Nat), .string D, .int .i64 n, .slice va len vc] 27) = w0 at *
    generalize w.heap.size = q0 at *
    have c0 := HB0.out.cell 0 rfl
    go_upto_region 3 with fail
    refine wp_region_held_drew (S := fun w' => Blk w' q0 [.int .i64 op, .string p, .string q, .int .i64 k, .int .i64 m, .int .u32 (t : Nat), .string D, .int .i64 n, .slice va len vc] 27 ∧ Upd [] w w') (by kernel_rfl) ⟨HB0.out.upd ((Upd.refl [] _).drew) (by simp), HU0.out.drew⟩ (fun hHeld => ?_)
    change wpAnyH _ _ _ _ _ 22 #[false, false, false, false, false, false, false, false, false, false, false, false, false, false, false, false, false, false, false, false, false, false] _ _
    refine heldTake (i := 0) (d := some 18) (v := ?v0_1) rfl rfl (by kernel_rfl) (by kernel_rfl) (by kernel_rfl) (fun _ _ _ h => h) (by rfl) ?hy0_1 (by assumption) ?r0_1
    case hy0_1 => (intro w hSw; (try dsimp only at hSw); go_simp; try with_reducible rfl)
    try simp only [Act.put, List.setIfInBounds_toArray, List.set_cons_zero, List.set_cons_succ]
    change wpAnyH _ _ _ _ _ 21 #[true, false, false, false, false, false, false, false, false, false, false, false, false, false, false, false, false, false, false, false, false, false] _ _
    refine heldTake (i := 1) (d := some 19) (v := ?v1_2) rfl rfl (by kernel_rfl) (by kernel_rfl) (by kernel_rfl) (fun _ _ _ h => h) (by rfl) ?hy1_2 (by assumption) ?r1_2
    case hy1_2 => (intro w5 hSw; have q0c1 := hSw.1.cell 1 rfl; go_simp; try with_reducible rfl)
    try simp only [Act.put, List.setIfInBounds_toArray, List.set_cons_zero, List.set_cons_succ]
    change wpAnyH _ _ _ _ _ 20 #[true, true, false, false, false, false, false, false, false, false, false, false, false, false, false, false, false, false, false, false, false, false] _ _
    refine heldTake (i := 2) (d := some 20) (v := (.bool bp)) rfl rfl (by kernel_rfl) (by kernel_rfl) (by kernel_rfl) (fun _ _ _ h => h) (by rfl) ?hy2_3 (by assumption) ?r2_3
    case hy2_3 => (intro w5 hSw; clear hSw; go_simp; try with_reducible rfl)
    try simp only [Act.put, List.setIfInBounds_toArray, List.set_cons_zero, List.set_cons_succ]
    change wpAnyH _ _ _ _ _ 19 #[true, true, true, false, false, false, false, false, false, false, false, false, false, false, false, false, false, false, false, false, false, false] _ _
    refine heldTake (i := 3) (d := some 21) (v := ?v3_4) rfl rfl (by kernel_rfl) (by kernel_rfl) (by kernel_rfl) (fun _ _ _ h => h) (by rfl) ?hy3_4 (by assumption) ?r3_4
    case hy3_4 => (intro w hSw; (try dsimp only at hSw); go_simp; try with_reducible rfl)
    try simp only [Act.put, List.setIfInBounds_toArray, List.set_cons_zero, List.set_cons_succ]
    change wpAnyH _ _ _ _ _ 18 #[true, true, true, true, false, false, false, false, false, false, false, false, false, false, false, false, false, false, false, false, false, false] _ _
    refine heldTake (i := 4) (d := some 22) (v := ?v4_5) rfl rfl (by kernel_rfl) (by kernel_rfl) (by kernel_rfl) (fun _ _ _ h => h) (by rfl) ?hy4_5 (by assumption) ?r4_5
    case hy4_5 => (intro w5 hSw; have q0c2 := hSw.1.cell 2 rfl; go_simp; try with_reducible rfl)
    try simp only [Act.put, List.setIfInBounds_toArray, List.set_cons_zero, List.set_cons_succ]
    change wpAnyH _ _ _ _ _ 17 #[true, true, true, true, true, false, false, false, false, false, false, false, false, false, false, false, false, false, false, false, false, false] _ _
    refine heldTake (i := 5) (d := some 23) (v := (.bool bq)) rfl rfl (by kernel_rfl) (by kernel_rfl) (by kernel_rfl) (fun _ _ _ h => h) (by rfl) ?hy5_6 (by assumption) ?r5_6
    case hy5_6 => (intro w5 hSw; clear hSw; go_simp; try with_reducible rfl)
    try simp only [Act.put, List.setIfInBounds_toArray, List.set_cons_zero, List.set_cons_succ]
    change wpAnyH _ _ _ _ _ 16 #[true, true, true, true, true, true, false, false, false, false, false, false, false, false, false, false, false, false, false, false, false, false] _ _
    refine heldTake (i := 6) (d := some 24) (v := ?v6_7) rfl rfl (by kernel_rfl) (by kernel_rfl) (by kernel_rfl) (fun _ _ _ h => h) (by rfl) ?hy6_7 (by assumption) ?r6_7
    case hy6_7 => (intro w hSw; (try dsimp only at hSw); go_simp; try with_reducible rfl)
    try simp only [Act.put, List.setIfInBounds_toArray, List.set_cons_zero, List.set_cons_succ]
    change wpAnyH _ _ _ _ _ 15 #[true, true, true, true, true, true, true, false, false, false, false, false, false, false, false, false, false, false, false, false, false, false] _ _
    refine heldTake (i := 7) (d := some 25) (v := ?v7_8) rfl rfl (by kernel_rfl) (by kernel_rfl) (by kernel_rfl) (fun _ _ _ h => h) (by rfl) ?hy7_8 (by assumption) ?r7_8
    case hy7_8 => (intro w5 hSw; have q0c3 := hSw.1.cell 3 rfl; have q0c4 := hSw.1.cell 4 rfl; have q0c5 := hSw.1.cell 5 rfl; have q0c6 := hSw.1.cell 6 rfl; go_simp; try with_reducible rfl)
    try simp only [Act.put, List.setIfInBounds_toArray, List.set_cons_zero, List.set_cons_succ]
    change wpAnyH _ _ _ _ _ 14 #[true, true, true, true, true, true, true, true, false, false, false, false, false, false, false, false, false, false, false, false, false, false] _ _
    refine heldTake (i := 8) (d := some 26) (v := ?v8_9) rfl rfl (by kernel_rfl) (by kernel_rfl) (by kernel_rfl) (fun _ _ _ h => h) (by rfl) ?hy8_9 (by assumption) ?r8_9
    case hy8_9 => (intro w hSw; (try dsimp only at hSw); go_simp; try with_reducible rfl)
    try simp only [Act.put, List.setIfInBounds_toArray, List.set_cons_zero, List.set_cons_succ]
    change wpAnyH _ _ _ _ _ 13 #[true, true, true, true, true, true, true, true, true, false, false, false, false, false, false, false, false, false, false, false, false, false] _ _
    refine heldTake (i := 9) (d := some 27) (v := (.bool bd)) rfl rfl (by kernel_rfl) (by kernel_rfl) (by kernel_rfl) (fun _ _ _ h => h) (by rfl) ?hy9_10 (by assumption) ?r9_10
    case hy9_10 => (intro w5 hSw; rw [← HBD.out]; exact eqlNode (by rfl) k m (t : Int) 0 0 0 D ⟨#[]⟩ (by rfl) (by rfl) w5)
    try simp only [Act.put, List.setIfInBounds_toArray, List.set_cons_zero, List.set_cons_succ]
    change wpAnyH _ _ _ _ _ 12 #[true, true, true, true, true, true, true, true, true, true, false, false, false, false, false, false, false, false, false, false, false, false] _ _
    refine heldTake (i := 10) (d := some 28) (v := ?v10_11) rfl rfl (by kernel_rfl) (by kernel_rfl) (by kernel_rfl) (fun _ _ _ h => h) (by rfl) ?hy10_11 (by assumption) ?r10_11
    case hy10_11 => (intro w hSw; (try dsimp only at hSw); go_simp; try with_reducible rfl)
    try simp only [Act.put, List.setIfInBounds_toArray, List.set_cons_zero, List.set_cons_succ]
    change wpAnyH _ _ _ _ _ 11 #[true, true, true, true, true, true, true, true, true, true, true, false, false, false, false, false, false, false, false, false, false, false] _ _
    refine heldTake (i := 11) (d := some 29) (v := ?v11_12) rfl rfl (by kernel_rfl) (by kernel_rfl) (by kernel_rfl) (fun _ _ _ h => h) (by rfl) ?hy11_12 (by assumption) ?r11_12
    case hy11_12 => (intro w5 hSw; have q0c7 := hSw.1.cell 7 rfl; go_simp; try with_reducible rfl)
    try simp only [Act.put, List.setIfInBounds_toArray, List.set_cons_zero, List.set_cons_succ]
    change wpAnyH _ _ _ _ _ 10 #[true, true, true, true, true, true, true, true, true, true, true, true, false, false, false, false, false, false, false, false, false, false] _ _
    refine heldTake (i := 12) (d := some 30) (v := (.bool bn)) rfl rfl (by kernel_rfl) (by kernel_rfl) (by kernel_rfl) (fun _ _ _ h => h) (by rfl) ?hy12_13 (by assumption) ?r12_13
    case hy12_13 => (intro w5 hSw; clear hSw; go_simp; try with_reducible rfl)
    try simp only [Act.put, List.setIfInBounds_toArray, List.set_cons_zero, List.set_cons_succ]
    change wpAnyH _ _ _ _ _ 9 #[true, true, true, true, true, true, true, true, true, true, true, true, true, false, false, false, false, false, false, false, false, false] _ _
    refine heldTake (i := 13) (d := some 31) (v := ?v13_14) rfl rfl (by kernel_rfl) (by kernel_rfl) (by kernel_rfl) (fun _ _ _ h => h) (by rfl) ?hy13_14 (by assumption) ?r13_14
    case hy13_14 => (intro w hSw; (try dsimp only at hSw); go_simp; try with_reducible rfl)
    try simp only [Act.put, List.setIfInBounds_toArray, List.set_cons_zero, List.set_cons_succ]
    change wpAnyH _ _ _ _ _ 8 #[true, true, true, true, true, true, true, true, true, true, true, true, true, true, false, false, false, false, false, false, false, false] _ _
    refine heldTake (i := 14) (d := some 32) (v := ?v14_15) rfl rfl (by kernel_rfl) (by kernel_rfl) (by kernel_rfl) (fun _ _ _ h => h) (by rfl) ?hy14_15 (by assumption) ?r14_15
    case hy14_15 => (intro w5 hSw; have q0c8 := hSw.1.cell 8 rfl; go_simp; try with_reducible rfl)
    try simp only [Act.put, List.setIfInBounds_toArray, List.set_cons_zero, List.set_cons_succ]
    change wpAnyH _ _ _ _ _ 7 #[true, true, true, true, true, true, true, true, true, true, true, true, true, true, true, false, false, false, false, false, false, false] _ _
    refine heldTake (i := 15) (d := some 33) (v := ?v15_16) rfl rfl (by kernel_rfl) (by kernel_rfl) (by kernel_rfl) (fun _ _ _ h => h) (by rfl) ?hy15_16 (by assumption) ?r15_16
    case hy15_16 => (intro w hSw; (try dsimp only at hSw); go_simp; try with_reducible rfl)
    try simp only [Act.put, List.setIfInBounds_toArray, List.set_cons_zero, List.set_cons_succ]
    change wpAnyH _ _ _ _ _ 6 #[true, true, true, true, true, true, true, true, true, true, true, true, true, true, true, true, false, false, false, false, false, false] _ _
    refine heldTake (i := 16) (d := some 34) (v := (.bool bl)) rfl rfl (by kernel_rfl) (by kernel_rfl) (by kernel_rfl) (fun _ _ _ h => h) (by rfl) ?hy16_17 (by assumption) ?r16_17
    case hy16_17 => (intro w5 hSw; clear hSw; go_simp; try with_reducible rfl)
    try simp only [Act.put, List.setIfInBounds_toArray, List.set_cons_zero, List.set_cons_succ]
    change wpAnyH _ _ _ _ _ 5 #[true, true, true, true, true, true, true, true, true, true, true, true, true, true, true, true, true, false, false, false, false, false] _ _
    refine heldTake (i := 17) (d := some 3) (v := ?v17_18) rfl rfl (by kernel_rfl) (by kernel_rfl) (by kernel_rfl) (fun _ _ _ h => h) (by rfl) ?hy17_18 (by assumption) ?r17_18
    case hy17_18 => (intro w hSw; (try dsimp only at hSw); go_simp; try with_reducible rfl)
    try simp only [Act.put, List.setIfInBounds_toArray, List.set_cons_zero, List.set_cons_succ]
    change wpAnyH _ _ _ _ _ 4 #[true, true, true, true, true, true, true, true, true, true, true, true, true, true, true, true, true, true, false, false, false, false] _ _
    refine heldTake (i := 18) (d := some 4) (v := ?v18_19) rfl rfl (by kernel_rfl) (by kernel_rfl) (by kernel_rfl) (fun _ _ _ h => h) (by rfl) ?hy18_19 (by assumption) ?r18_19
    case hy18_19 => (intro w hSw; (try dsimp only at hSw); go_simp; try with_reducible rfl)
    try simp only [Act.put, List.setIfInBounds_toArray, List.set_cons_zero, List.set_cons_succ]
    change wpAnyH _ _ _ _ _ 3 #[true, true, true, true, true, true, true, true, true, true, true, true, true, true, true, true, true, true, true, false, false, false] _ _
    refine heldTake (i := 19) (d := some 5) (v := ?v19_20) rfl rfl (by kernel_rfl) (by kernel_rfl) (by kernel_rfl) (fun _ _ _ h => h) (by rfl) ?hy19_20 (by assumption) ?r19_20
    case hy19_20 => (intro w hSw; (try dsimp only at hSw); go_simp; try with_reducible rfl)
    try simp only [Act.put, List.setIfInBounds_toArray, List.set_cons_zero, List.set_cons_succ]
    change wpAnyH _ _ _ _ _ 2 #[true, true, true, true, true, true, true, true, true, true, true, true, true, true, true, true, true, true, true, true, false, false] _ _
    refine heldTake (i := 20) (d := some 6) (v := ?v20_21) rfl rfl (by kernel_rfl) (by kernel_rfl) (by kernel_rfl) (fun _ _ _ h => h) (by rfl) ?hy20_21 (by assumption) ?r20_21
    case hy20_21 => (intro w hSw; (try dsimp only at hSw); go_simp; try with_reducible rfl)
    try simp only [Act.put, List.setIfInBounds_toArray, List.set_cons_zero, List.set_cons_succ]
    change wpAnyH _ _ _ _ _ 1 #[true, true, true, true, true, true, true, true, true, true, true, true, true, true, true, true, true, true, true, true, true, false] _ _
    refine heldTake (i := 21) (d := some 7) (v := ?v21_22) rfl rfl (by kernel_rfl) (by kernel_rfl) (by kernel_rfl) (fun _ _ _ h => h) (by rfl) ?hy21_22 (by assumption) ?r21_22
    case hy21_22 => (intro w hSw; (try dsimp only at hSw); go_simp; try with_reducible rfl)
    try simp only [Act.put, List.setIfInBounds_toArray, List.set_cons_zero, List.set_cons_succ]
    change wpAnyH _ _ _ _ _ 0 #[true, true, true, true, true, true, true, true, true, true, true, true, true, true, true, true, true, true, true, true, true, true] _ _
    refine wpAnyH_done (by kernel_rfl) ?_ 0
    obtain ⟨w3, hw3⟩ : ∃ w3, w3 = w0.drew := ⟨_, rfl⟩
    have HB3 := Lib.hid hHeld.1
    have HU3 := Lib.hid hHeld.2
    rw [← hw3] at HB3 HU3 ⊢
    clear hHeld hw3 HB0 HU0 c0 hp0 hq0 hn0 hl0 hop1 hop2
    have hcase : op = 1 ∨ op = 4 ∨ op = 2 ∨ op = 3 ∨ op = 5 ∨ op = 11 ∨ op = 12 ∨ op = 13 ∨ op = 14 ∨ (op ≠ 1 ∧ op ≠ 4 ∧ op ≠ 2 ∧ op ≠ 3 ∧ op ≠ 5 ∧ op ≠ 11 ∧ op ≠ 12 ∧ op ≠ 13 ∧ op ≠ 14) := by omega
    rcases hcase with rfl | rfl | rfl | rfl | rfl | rfl | rfl | rfl | rfl | ⟨h1, h4, h2, h3, h5, h11, h12, h13, h14⟩
    · as_aux_lemma =>
      have HV0 : rightR ⟨1, p, q, k, m, t, D, n, .slice va l.length vc, l⟩ = ((((rightP (bytesOf p) && decide (bytesOf q = [])) && (decide (nodeErr k m t D = 0) && decide (k ≠ 0))) && decide (n = 0)) && decide (l.length = 0)) := by first | rfl | (simp [rightR, paR, toR, ndR, nuR, llR])
      rw [HRR.out] at HV0
      try rw [HBP.out] at HV0
      try rw [HBQ.out] at HV0
      try rw [HBD.out] at HV0
      try rw [HBN.out] at HV0
      try rw [HBL.out] at HV0
      try rw [HLN.out] at HV0
      have HV := Lib.hid HV0
      clear HV0 HBP HBQ HBD HBN HBL HRR
      have c0 := HB3.out.cell 0 rfl
      have c1 := HB3.out.cell 1 rfl
      have c2 := HB3.out.cell 2 rfl
      have c3 := HB3.out.cell 3 rfl
      have c4 := HB3.out.cell 4 rfl
      have c5 := HB3.out.cell 5 rfl
      have c6 := HB3.out.cell 6 rfl
      have c7 := HB3.out.cell 7 rfl
      have c8 := HB3.out.cell 8 rfl
      generalize rightP (bytesOf p) = PP at *
      generalize nodeErr k m t D = NE at *
      go_wp2_with fail
      refine (HNP.out _).mono ?_
      rintro e z4 ⟨rfl, hz4⟩
      have HB4 := Lib.hid (HB3.out.upd hz4 (by simp))
      have HU4 := Lib.hid (HU3.out.then hz4)
      clear hz4 c0 c1 c2 c3 c4 c5 c6 c7 c8
      have c0 := HB4.out.cell 0 rfl
      have c1 := HB4.out.cell 1 rfl
      have c2 := HB4.out.cell 2 rfl
      have c3 := HB4.out.cell 3 rfl
      have c4 := HB4.out.cell 4 rfl
      have c5 := HB4.out.cell 5 rfl
      have c6 := HB4.out.cell 6 rfl
      have c7 := HB4.out.cell 7 rfl
      have c8 := HB4.out.cell 8 rfl
      by_cases hne : NE = 0
      · subst hne
        by_cases hk : k = 0
        · subst hk
          go_wp2_with fail
          refine (HND.out _).mono ?_
          rintro e z5 ⟨rfl, hz5⟩
          have HB5 := Lib.hid (HB4.out.upd hz5 (by simp))
          have HU5 := Lib.hid (HU4.out.then hz5)
          clear hz5 c0 c1 c2 c3 c4 c5 c6 c7 c8
          have c0 := HB5.out.cell 0 rfl
          have c1 := HB5.out.cell 1 rfl
          have c2 := HB5.out.cell 2 rfl
          have c3 := HB5.out.cell 3 rfl
          have c4 := HB5.out.cell 4 rfl
          have c5 := HB5.out.cell 5 rfl
          have c6 := HB5.out.cell 6 rfl
          have c7 := HB5.out.cell 7 rfl
          have c8 := HB5.out.cell 8 rfl
          go_upto_region 27 with fail
          cases PP
          · go_wp2
            go_ret
            exact ⟨by rw [HV.out]; simp, HU5.out⟩
          · cases bq
            · go_wp2
              go_ret
              exact ⟨by rw [HV.out]; simp, HU5.out⟩
            · cases bn
              · go_wp2
                go_ret
                exact ⟨by rw [HV.out]; simp, HU5.out⟩
              · cases bl
                · go_wp2
                  go_ret
                  exact ⟨by rw [HV.out]; simp, HU5.out⟩
                · go_wp2
                  go_ret
                  exact ⟨by rw [HV.out]; simp, HU5.out⟩
        · have hkb : (k == 0) = false := by simpa using hk
          have hkb2 : (k != 0) = true := by simpa using hk
          rw [decide_eq_true hk] at HV
          clear hk
          go_wp2_with fail
          refine (HND.out _).mono ?_
          rintro e z5 ⟨rfl, hz5⟩
          have HB5 := Lib.hid (HB4.out.upd hz5 (by simp))
          have HU5 := Lib.hid (HU4.out.then hz5)
          clear hz5 c0 c1 c2 c3 c4 c5 c6 c7 c8
          have c0 := HB5.out.cell 0 rfl
          have c1 := HB5.out.cell 1 rfl
          have c2 := HB5.out.cell 2 rfl
          have c3 := HB5.out.cell 3 rfl
          have c4 := HB5.out.cell 4 rfl
          have c5 := HB5.out.cell 5 rfl
          have c6 := HB5.out.cell 6 rfl
          have c7 := HB5.out.cell 7 rfl
          have c8 := HB5.out.cell 8 rfl
          go_upto_region 27 with fail
          cases PP
          · go_wp2
            go_ret
            exact ⟨by rw [HV.out]; simp, HU5.out⟩
          · cases bq
            · go_wp2
              go_ret
              exact ⟨by rw [HV.out]; simp, HU5.out⟩
            · cases bn
              · go_wp2
                go_ret
                exact ⟨by rw [HV.out]; simp, HU5.out⟩
              · cases bl
                · go_wp2
                  go_ret
                  exact ⟨by rw [HV.out]; simp, HU5.out⟩
                · go_wp2
                  go_ret
                  exact ⟨by rw [HV.out]; simp, HU5.out⟩
      · have hneb : ((NE : Int) == 0) = false := by simp; omega
        rw [decide_eq_false hne] at HV
        clear hne
        go_wp2_with fail
        refine (HND.out _).mono ?_
        rintro e z5 ⟨rfl, hz5⟩
        have HB5 := Lib.hid (HB4.out.upd hz5 (by simp))
        have HU5 := Lib.hid (HU4.out.then hz5)
        clear hz5 c0 c1 c2 c3 c4 c5 c6 c7 c8
        have c0 := HB5.out.cell 0 rfl
        have c1 := HB5.out.cell 1 rfl
        have c2 := HB5.out.cell 2 rfl
        have c3 := HB5.out.cell 3 rfl
        have c4 := HB5.out.cell 4 rfl
        have c5 := HB5.out.cell 5 rfl
        have c6 := HB5.out.cell 6 rfl
        have c7 := HB5.out.cell 7 rfl
        have c8 := HB5.out.cell 8 rfl
        go_upto_region 27 with fail
        cases PP
        · go_wp2
          go_ret
          exact ⟨by rw [HV.out]; simp, HU5.out⟩
        · cases bq
          · go_wp2
            go_ret
            exact ⟨by rw [HV.out]; simp, HU5.out⟩
          · go_wp2
            go_ret
            exact ⟨by rw [HV.out]; simp, HU5.out⟩
    · as_aux_lemma =>
      have HV0 : rightR ⟨4, p, q, k, m, t, D, n, .slice va l.length vc, l⟩ = ((((rightP (bytesOf p) && decide (bytesOf q = [])) && decide (nodeErr k m t D = 0)) && decide (n = 0)) && decide (l.length = 0)) := by first | rfl | (simp [rightR, paR, toR, ndR, nuR, llR])
      rw [HRR.out] at HV0
      try rw [HBP.out] at HV0
      try rw [HBQ.out] at HV0
      try rw [HBD.out] at HV0
      try rw [HBN.out] at HV0
      try rw [HBL.out] at HV0
      try rw [HLN.out] at HV0
      have HV := Lib.hid HV0
      clear HV0 HBP HBQ HBD HBN HBL HRR
      have c0 := HB3.out.cell 0 rfl
      have c1 := HB3.out.cell 1 rfl
      have c2 := HB3.out.cell 2 rfl
      have c3 := HB3.out.cell 3 rfl
      have c4 := HB3.out.cell 4 rfl
      have c5 := HB3.out.cell 5 rfl
      have c6 := HB3.out.cell 6 rfl
      have c7 := HB3.out.cell 7 rfl
      have c8 := HB3.out.cell 8 rfl
      generalize rightP (bytesOf p) = PP at *
      generalize nodeErr k m t D = NE at *
      go_wp2_with fail
      refine (HNP.out _).mono ?_
      rintro e z4 ⟨rfl, hz4⟩
      have HB4 := Lib.hid (HB3.out.upd hz4 (by simp))
      have HU4 := Lib.hid (HU3.out.then hz4)
      clear hz4 c0 c1 c2 c3 c4 c5 c6 c7 c8
      have c0 := HB4.out.cell 0 rfl
      have c1 := HB4.out.cell 1 rfl
      have c2 := HB4.out.cell 2 rfl
      have c3 := HB4.out.cell 3 rfl
      have c4 := HB4.out.cell 4 rfl
      have c5 := HB4.out.cell 5 rfl
      have c6 := HB4.out.cell 6 rfl
      have c7 := HB4.out.cell 7 rfl
      have c8 := HB4.out.cell 8 rfl
      by_cases hne : NE = 0
      · subst hne
        go_wp2_with fail
        refine (HND.out _).mono ?_
        rintro e z5 ⟨rfl, hz5⟩
        have HB5 := Lib.hid (HB4.out.upd hz5 (by simp))
        have HU5 := Lib.hid (HU4.out.then hz5)
        clear hz5 c0 c1 c2 c3 c4 c5 c6 c7 c8
        have c0 := HB5.out.cell 0 rfl
        have c1 := HB5.out.cell 1 rfl
        have c2 := HB5.out.cell 2 rfl
        have c3 := HB5.out.cell 3 rfl
        have c4 := HB5.out.cell 4 rfl
        have c5 := HB5.out.cell 5 rfl
        have c6 := HB5.out.cell 6 rfl
        have c7 := HB5.out.cell 7 rfl
        have c8 := HB5.out.cell 8 rfl
        go_upto_region 27 with fail
        cases PP
        · go_wp2
          go_ret
          exact ⟨by rw [HV.out]; simp, HU5.out⟩
        · cases bq
          · go_wp2
            go_ret
            exact ⟨by rw [HV.out]; simp, HU5.out⟩
          · cases bn
            · go_wp2
              go_ret
              exact ⟨by rw [HV.out]; simp, HU5.out⟩
            · cases bl
              · go_wp2
                go_ret
                exact ⟨by rw [HV.out]; simp, HU5.out⟩
              · go_wp2
                go_ret
                exact ⟨by rw [HV.out]; simp, HU5.out⟩
      · have hneb : ((NE : Int) == 0) = false := by simp; omega
        rw [decide_eq_false hne] at HV
        clear hne
        go_wp2_with fail
        refine (HND.out _).mono ?_
        rintro e z5 ⟨rfl, hz5⟩
        have HB5 := Lib.hid (HB4.out.upd hz5 (by simp))
        have HU5 := Lib.hid (HU4.out.then hz5)
        clear hz5 c0 c1 c2 c3 c4 c5 c6 c7 c8
        have c0 := HB5.out.cell 0 rfl
        have c1 := HB5.out.cell 1 rfl
        have c2 := HB5.out.cell 2 rfl
        have c3 := HB5.out.cell 3 rfl
        have c4 := HB5.out.cell 4 rfl
        have c5 := HB5.out.cell 5 rfl
        have c6 := HB5.out.cell 6 rfl
        have c7 := HB5.out.cell 7 rfl
        have c8 := HB5.out.cell 8 rfl
        go_upto_region 27 with fail
        cases PP
        · go_wp2
          go_ret
          exact ⟨by rw [HV.out]; simp, HU5.out⟩
        · cases bq
          · go_wp2
            go_ret
            exact ⟨by rw [HV.out]; simp, HU5.out⟩
          · go_wp2
            go_ret
            exact ⟨by rw [HV.out]; simp, HU5.out⟩
    · as_aux_lemma =>
      have HV0 : rightR ⟨2, p, q, k, m, t, D, n, .slice va l.length vc, l⟩ = ((((rightP (bytesOf p) && decide (bytesOf q = [])) && decide (k = 0 ∧ m = 0 ∧ (t : Int) = 0 ∧ D = ⟨#[]⟩)) && decide (n = 0)) && decide (l.length = 0)) := by first | rfl | (simp [rightR, paR, toR, ndR, nuR, llR])
      rw [HRR.out] at HV0
      try rw [HBP.out] at HV0
      try rw [HBQ.out] at HV0
      try rw [HBD.out] at HV0
      try rw [HBN.out] at HV0
      try rw [HBL.out] at HV0
      try rw [HLN.out] at HV0
      have HV := Lib.hid HV0
      clear HV0 HBP HBQ HBD HBN HBL HRR
      have c0 := HB3.out.cell 0 rfl
      have c1 := HB3.out.cell 1 rfl
      have c2 := HB3.out.cell 2 rfl
      have c3 := HB3.out.cell 3 rfl
      have c4 := HB3.out.cell 4 rfl
      have c5 := HB3.out.cell 5 rfl
      have c6 := HB3.out.cell 6 rfl
      have c7 := HB3.out.cell 7 rfl
      have c8 := HB3.out.cell 8 rfl
      generalize rightP (bytesOf p) = PP at *
      go_wp2_with fail
      refine (HNP.out _).mono ?_
      rintro e z4 ⟨rfl, hz4⟩
      have HB4 := Lib.hid (HB3.out.upd hz4 (by simp))
      have HU4 := Lib.hid (HU3.out.then hz4)
      clear hz4 c0 c1 c2 c3 c4 c5 c6 c7 c8
      have c0 := HB4.out.cell 0 rfl
      have c1 := HB4.out.cell 1 rfl
      have c2 := HB4.out.cell 2 rfl
      have c3 := HB4.out.cell 3 rfl
      have c4 := HB4.out.cell 4 rfl
      have c5 := HB4.out.cell 5 rfl
      have c6 := HB4.out.cell 6 rfl
      have c7 := HB4.out.cell 7 rfl
      have c8 := HB4.out.cell 8 rfl
      go_upto_region 27 with fail
      cases PP
      · go_wp2
        go_ret
        exact ⟨by rw [HV.out]; simp, HU4.out⟩
      · cases bq
        · go_wp2
          go_ret
          exact ⟨by rw [HV.out]; simp, HU4.out⟩
        · cases bd
          · go_wp2
            go_ret
            exact ⟨by rw [HV.out]; simp, HU4.out⟩
          · cases bn
            · go_wp2
              go_ret
              exact ⟨by rw [HV.out]; simp, HU4.out⟩
            · cases bl
              · go_wp2
                go_ret
                exact ⟨by rw [HV.out]; simp, HU4.out⟩
              · go_wp2
                go_ret
                exact ⟨by rw [HV.out]; rfl, HU4.out⟩
    · as_aux_lemma =>
      have HV0 : rightR ⟨3, p, q, k, m, t, D, n, .slice va l.length vc, l⟩ = ((((rightP (bytesOf p) && rightP (bytesOf q)) && decide (k = 0 ∧ m = 0 ∧ (t : Int) = 0 ∧ D = ⟨#[]⟩)) && decide (n = 0)) && decide (l.length = 0)) := by first | rfl | (simp [rightR, paR, toR, ndR, nuR, llR])
      rw [HRR.out] at HV0
      try rw [HBP.out] at HV0
      try rw [HBQ.out] at HV0
      try rw [HBD.out] at HV0
      try rw [HBN.out] at HV0
      try rw [HBL.out] at HV0
      try rw [HLN.out] at HV0
      have HV := Lib.hid HV0
      clear HV0 HBP HBQ HBD HBN HBL HRR
      have c0 := HB3.out.cell 0 rfl
      have c1 := HB3.out.cell 1 rfl
      have c2 := HB3.out.cell 2 rfl
      have c3 := HB3.out.cell 3 rfl
      have c4 := HB3.out.cell 4 rfl
      have c5 := HB3.out.cell 5 rfl
      have c6 := HB3.out.cell 6 rfl
      have c7 := HB3.out.cell 7 rfl
      have c8 := HB3.out.cell 8 rfl
      generalize rightP (bytesOf p) = PP at *
      generalize rightP (bytesOf q) = PQ at *
      go_wp2_with fail
      refine (HNP.out _).mono ?_
      rintro e z4 ⟨rfl, hz4⟩
      have HB4 := Lib.hid (HB3.out.upd hz4 (by simp))
      have HU4 := Lib.hid (HU3.out.then hz4)
      clear hz4 c0 c1 c2 c3 c4 c5 c6 c7 c8
      have c0 := HB4.out.cell 0 rfl
      have c1 := HB4.out.cell 1 rfl
      have c2 := HB4.out.cell 2 rfl
      have c3 := HB4.out.cell 3 rfl
      have c4 := HB4.out.cell 4 rfl
      have c5 := HB4.out.cell 5 rfl
      have c6 := HB4.out.cell 6 rfl
      have c7 := HB4.out.cell 7 rfl
      have c8 := HB4.out.cell 8 rfl
      go_wp2_with fail
      refine (HNQ.out _).mono ?_
      rintro e z5 ⟨rfl, hz5⟩
      have HB5 := Lib.hid (HB4.out.upd hz5 (by simp))
      have HU5 := Lib.hid (HU4.out.then hz5)
      clear hz5 c0 c1 c2 c3 c4 c5 c6 c7 c8
      have c0 := HB5.out.cell 0 rfl
      have c1 := HB5.out.cell 1 rfl
      have c2 := HB5.out.cell 2 rfl
      have c3 := HB5.out.cell 3 rfl
      have c4 := HB5.out.cell 4 rfl
      have c5 := HB5.out.cell 5 rfl
      have c6 := HB5.out.cell 6 rfl
      have c7 := HB5.out.cell 7 rfl
      have c8 := HB5.out.cell 8 rfl
      go_upto_region 27 with fail
      cases PP
      · go_wp2
        go_ret
        exact ⟨by rw [HV.out]; simp, HU5.out⟩
      · cases PQ
        · go_wp2
          go_ret
          exact ⟨by rw [HV.out]; simp, HU5.out⟩
        · cases bd
          · go_wp2
            go_ret
            exact ⟨by rw [HV.out]; simp, HU5.out⟩
          · cases bn
            · go_wp2
              go_ret
              exact ⟨by rw [HV.out]; simp, HU5.out⟩
            · cases bl
              · go_wp2
                go_ret
                exact ⟨by rw [HV.out]; simp, HU5.out⟩
              · go_wp2
                go_ret
                exact ⟨by rw [HV.out]; rfl, HU5.out⟩
    · as_aux_lemma =>
      have HV0 : rightR ⟨5, p, q, k, m, t, D, n, .slice va l.length vc, l⟩ = ((((decide (bytesOf p = []) && decide (bytesOf q = [])) && decide (k = 0 ∧ m = 0 ∧ (t : Int) = 0 ∧ D = ⟨#[]⟩)) && decide (0 ≤ n ∧ n ≤ 3)) && decide (l.length = 0)) := by first | rfl | (simp [rightR, paR, toR, ndR, nuR, llR])
      rw [HRR.out] at HV0
      try rw [HBP.out] at HV0
      try rw [HBQ.out] at HV0
      try rw [HBD.out] at HV0
      try rw [HBN.out] at HV0
      try rw [HBL.out] at HV0
      try rw [HLN.out] at HV0
      have HV := Lib.hid HV0
      clear HV0 HBP HBQ HBD HBN HBL HRR
      have c0 := HB3.out.cell 0 rfl
      have c1 := HB3.out.cell 1 rfl
      have c2 := HB3.out.cell 2 rfl
      have c3 := HB3.out.cell 3 rfl
      have c4 := HB3.out.cell 4 rfl
      have c5 := HB3.out.cell 5 rfl
      have c6 := HB3.out.cell 6 rfl
      have c7 := HB3.out.cell 7 rfl
      have c8 := HB3.out.cell 8 rfl
      by_cases hn1 : 0 ≤ n
      · by_cases hn2 : n ≤ 3
        · rw [decide_eq_true (⟨hn1, hn2⟩ : 0 ≤ n ∧ n ≤ 3)] at HV
          go_upto_region 27 with fail
          cases bp
          · go_wp2
            go_ret
            exact ⟨by rw [HV.out]; simp, HU3.out⟩
          · cases bq
            · go_wp2
              go_ret
              exact ⟨by rw [HV.out]; simp, HU3.out⟩
            · cases bd
              · go_wp2
                go_ret
                exact ⟨by rw [HV.out]; simp, HU3.out⟩
              · cases bl
                · go_wp2
                  go_ret
                  exact ⟨by rw [HV.out]; simp, HU3.out⟩
                · go_wp2
                  go_ret
                  exact ⟨by rw [HV.out]; simp, HU3.out⟩
        · rw [decide_eq_false (fun h : 0 ≤ n ∧ n ≤ 3 => hn2 h.2)] at HV
          go_upto_region 27 with fail
          cases bp
          · go_wp2
            go_ret
            exact ⟨by rw [HV.out]; simp, HU3.out⟩
          · cases bq
            · go_wp2
              go_ret
              exact ⟨by rw [HV.out]; simp, HU3.out⟩
            · cases bd
              · go_wp2
                go_ret
                exact ⟨by rw [HV.out]; simp, HU3.out⟩
              · go_wp2
                go_ret
                exact ⟨by rw [HV.out]; simp, HU3.out⟩
      · rw [decide_eq_false (fun h : 0 ≤ n ∧ n ≤ 3 => hn1 h.1)] at HV
        go_upto_region 27 with fail
        cases bp
        · go_wp2
          go_ret
          exact ⟨by rw [HV.out]; simp, HU3.out⟩
        · cases bq
          · go_wp2
            go_ret
            exact ⟨by rw [HV.out]; simp, HU3.out⟩
          · cases bd
            · go_wp2
              go_ret
              exact ⟨by rw [HV.out]; simp, HU3.out⟩
            · go_wp2
              go_ret
              exact ⟨by rw [HV.out]; simp, HU3.out⟩
    · as_aux_lemma =>
      have HV0 : rightR ⟨11, p, q, k, m, t, D, n, .slice va l.length vc, l⟩ = ((((decide (bytesOf p = []) && decide (bytesOf q = [])) && decide (k = 0 ∧ m = 0 ∧ (t : Int) = 0 ∧ D = ⟨#[]⟩)) && decide (-1 ≤ n ∧ n ≤ 100000)) && decide (l.length = 0)) := by first | rfl | (simp [rightR, paR, toR, ndR, nuR, llR])
      rw [HRR.out] at HV0
      try rw [HBP.out] at HV0
      try rw [HBQ.out] at HV0
      try rw [HBD.out] at HV0
      try rw [HBN.out] at HV0
      try rw [HBL.out] at HV0
      try rw [HLN.out] at HV0
      have HV := Lib.hid HV0
      clear HV0 HBP HBQ HBD HBN HBL HRR
      have c0 := HB3.out.cell 0 rfl
      have c1 := HB3.out.cell 1 rfl
      have c2 := HB3.out.cell 2 rfl
      have c3 := HB3.out.cell 3 rfl
      have c4 := HB3.out.cell 4 rfl
      have c5 := HB3.out.cell 5 rfl
      have c6 := HB3.out.cell 6 rfl
      have c7 := HB3.out.cell 7 rfl
      have c8 := HB3.out.cell 8 rfl
      by_cases hn1 : -1 ≤ n
      · by_cases hn2 : n ≤ 100000
        · rw [decide_eq_true (⟨hn1, hn2⟩ : -1 ≤ n ∧ n ≤ 100000)] at HV
          go_upto_region 27 with fail
          cases bp
          · go_wp2
            go_ret
            exact ⟨by rw [HV.out]; simp, HU3.out⟩
          · cases bq
            · go_wp2
              go_ret
              exact ⟨by rw [HV.out]; simp, HU3.out⟩
            · cases bd
              · go_wp2
                go_ret
                exact ⟨by rw [HV.out]; simp, HU3.out⟩
              · cases bl
                · go_wp2
                  go_ret
                  exact ⟨by rw [HV.out]; simp, HU3.out⟩
                · go_wp2
                  go_ret
                  exact ⟨by rw [HV.out]; simp, HU3.out⟩
        · rw [decide_eq_false (fun h : -1 ≤ n ∧ n ≤ 100000 => hn2 h.2)] at HV
          go_upto_region 27 with fail
          cases bp
          · go_wp2
            go_ret
            exact ⟨by rw [HV.out]; simp, HU3.out⟩
          · cases bq
            · go_wp2
              go_ret
              exact ⟨by rw [HV.out]; simp, HU3.out⟩
            · cases bd
              · go_wp2
                go_ret
                exact ⟨by rw [HV.out]; simp, HU3.out⟩
              · go_wp2
                go_ret
                exact ⟨by rw [HV.out]; simp, HU3.out⟩
      · rw [decide_eq_false (fun h : -1 ≤ n ∧ n ≤ 100000 => hn1 h.1)] at HV
        go_upto_region 27 with fail
        cases bp
        · go_wp2
          go_ret
          exact ⟨by rw [HV.out]; simp, HU3.out⟩
        · cases bq
          · go_wp2
            go_ret
            exact ⟨by rw [HV.out]; simp, HU3.out⟩
          · cases bd
            · go_wp2
              go_ret
              exact ⟨by rw [HV.out]; simp, HU3.out⟩
            · go_wp2
              go_ret
              exact ⟨by rw [HV.out]; simp, HU3.out⟩
    · as_aux_lemma =>
      have HV0 : rightR ⟨12, p, q, k, m, t, D, n, .slice va l.length vc, l⟩ = ((((decide (bytesOf p = []) && decide (bytesOf q = [])) && decide (k = 0 ∧ m = 0 ∧ (t : Int) = 0 ∧ D = ⟨#[]⟩)) && decide (-1 ≤ n ∧ n ≤ 100000)) && decide (l.length = 0)) := by first | rfl | (simp [rightR, paR, toR, ndR, nuR, llR])
      rw [HRR.out] at HV0
      try rw [HBP.out] at HV0
      try rw [HBQ.out] at HV0
      try rw [HBD.out] at HV0
      try rw [HBN.out] at HV0
      try rw [HBL.out] at HV0
      try rw [HLN.out] at HV0
      have HV := Lib.hid HV0
      clear HV0 HBP HBQ HBD HBN HBL HRR
      have c0 := HB3.out.cell 0 rfl
      have c1 := HB3.out.cell 1 rfl
      have c2 := HB3.out.cell 2 rfl
      have c3 := HB3.out.cell 3 rfl
      have c4 := HB3.out.cell 4 rfl
      have c5 := HB3.out.cell 5 rfl
      have c6 := HB3.out.cell 6 rfl
      have c7 := HB3.out.cell 7 rfl
      have c8 := HB3.out.cell 8 rfl
      by_cases hn1 : -1 ≤ n
      · by_cases hn2 : n ≤ 100000
        · rw [decide_eq_true (⟨hn1, hn2⟩ : -1 ≤ n ∧ n ≤ 100000)] at HV
          go_upto_region 27 with fail
          cases bp
          · go_wp2
            go_ret
            exact ⟨by rw [HV.out]; simp, HU3.out⟩
          · cases bq
            · go_wp2
              go_ret
              exact ⟨by rw [HV.out]; simp, HU3.out⟩
            · cases bd
              · go_wp2
                go_ret
                exact ⟨by rw [HV.out]; simp, HU3.out⟩
              · cases bl
                · go_wp2
                  go_ret
                  exact ⟨by rw [HV.out]; simp, HU3.out⟩
                · go_wp2
                  go_ret
                  exact ⟨by rw [HV.out]; simp, HU3.out⟩
        · rw [decide_eq_false (fun h : -1 ≤ n ∧ n ≤ 100000 => hn2 h.2)] at HV
          go_upto_region 27 with fail
          cases bp
          · go_wp2
            go_ret
            exact ⟨by rw [HV.out]; simp, HU3.out⟩
          · cases bq
            · go_wp2
              go_ret
              exact ⟨by rw [HV.out]; simp, HU3.out⟩
            · cases bd
              · go_wp2
                go_ret
                exact ⟨by rw [HV.out]; simp, HU3.out⟩
              · go_wp2
                go_ret
                exact ⟨by rw [HV.out]; simp, HU3.out⟩
      · rw [decide_eq_false (fun h : -1 ≤ n ∧ n ≤ 100000 => hn1 h.1)] at HV
        go_upto_region 27 with fail
        cases bp
        · go_wp2
          go_ret
          exact ⟨by rw [HV.out]; simp, HU3.out⟩
        · cases bq
          · go_wp2
            go_ret
            exact ⟨by rw [HV.out]; simp, HU3.out⟩
          · cases bd
            · go_wp2
              go_ret
              exact ⟨by rw [HV.out]; simp, HU3.out⟩
            · go_wp2
              go_ret
              exact ⟨by rw [HV.out]; simp, HU3.out⟩
    · as_aux_lemma =>
      have HV0 : rightR ⟨13, p, q, k, m, t, D, n, .slice va l.length vc, l⟩ = ((((decide (bytesOf p = []) && decide (bytesOf q = [])) && decide (k = 0 ∧ m = 0 ∧ (t : Int) = 0 ∧ D = ⟨#[]⟩)) && decide (-1 ≤ n ∧ n ≤ 100000)) && decide (l.length = 0)) := by first | rfl | (simp [rightR, paR, toR, ndR, nuR, llR])
      rw [HRR.out] at HV0
      try rw [HBP.out] at HV0
      try rw [HBQ.out] at HV0
      try rw [HBD.out] at HV0
      try rw [HBN.out] at HV0
      try rw [HBL.out] at HV0
      try rw [HLN.out] at HV0
      have HV := Lib.hid HV0
      clear HV0 HBP HBQ HBD HBN HBL HRR
      have c0 := HB3.out.cell 0 rfl
      have c1 := HB3.out.cell 1 rfl
      have c2 := HB3.out.cell 2 rfl
      have c3 := HB3.out.cell 3 rfl
      have c4 := HB3.out.cell 4 rfl
      have c5 := HB3.out.cell 5 rfl
      have c6 := HB3.out.cell 6 rfl
      have c7 := HB3.out.cell 7 rfl
      have c8 := HB3.out.cell 8 rfl
      by_cases hn1 : -1 ≤ n
      · by_cases hn2 : n ≤ 100000
        · rw [decide_eq_true (⟨hn1, hn2⟩ : -1 ≤ n ∧ n ≤ 100000)] at HV
          go_upto_region 27 with fail
          cases bp
          · go_wp2
            go_ret
            exact ⟨by rw [HV.out]; simp, HU3.out⟩
          · cases bq
            · go_wp2
              go_ret
              exact ⟨by rw [HV.out]; simp, HU3.out⟩
            · cases bd
              · go_wp2
                go_ret
                exact ⟨by rw [HV.out]; simp, HU3.out⟩
              · cases bl
                · go_wp2
                  go_ret
                  exact ⟨by rw [HV.out]; simp, HU3.out⟩
                · go_wp2
                  go_ret
                  exact ⟨by rw [HV.out]; simp, HU3.out⟩
        · rw [decide_eq_false (fun h : -1 ≤ n ∧ n ≤ 100000 => hn2 h.2)] at HV
          go_upto_region 27 with fail
          cases bp
          · go_wp2
            go_ret
            exact ⟨by rw [HV.out]; simp, HU3.out⟩
          · cases bq
            · go_wp2
              go_ret
              exact ⟨by rw [HV.out]; simp, HU3.out⟩
            · cases bd
              · go_wp2
                go_ret
                exact ⟨by rw [HV.out]; simp, HU3.out⟩
              · go_wp2
                go_ret
                exact ⟨by rw [HV.out]; simp, HU3.out⟩
      · rw [decide_eq_false (fun h : -1 ≤ n ∧ n ≤ 100000 => hn1 h.1)] at HV
        go_upto_region 27 with fail
        cases bp
        · go_wp2
          go_ret
          exact ⟨by rw [HV.out]; simp, HU3.out⟩
        · cases bq
          · go_wp2
            go_ret
            exact ⟨by rw [HV.out]; simp, HU3.out⟩
          · cases bd
            · go_wp2
              go_ret
              exact ⟨by rw [HV.out]; simp, HU3.out⟩
            · go_wp2
              go_ret
              exact ⟨by rw [HV.out]; simp, HU3.out⟩
    · as_aux_lemma =>
      have HV0 : rightR ⟨14, p, q, k, m, t, D, n, .slice va l.length vc, l⟩ = ((((decide (bytesOf p = []) && decide (bytesOf q = [])) && decide (k = 0 ∧ m = 0 ∧ (t : Int) = 0 ∧ D = ⟨#[]⟩)) && decide (n = 0)) && (decide (l.length ≤ 50) && okZ l)) := by first | rfl | (simp [rightR, paR, toR, ndR, nuR, llR])
      rw [HRR.out] at HV0
      try rw [HBP.out] at HV0
      try rw [HBQ.out] at HV0
      try rw [HBD.out] at HV0
      try rw [HBN.out] at HV0
      try rw [HBL.out] at HV0
      try rw [HLN.out] at HV0
      have HV := Lib.hid HV0
      clear HV0 HBP HBQ HBD HBN HBL HRR
      have c0 := HB3.out.cell 0 rfl
      have c1 := HB3.out.cell 1 rfl
      have c2 := HB3.out.cell 2 rfl
      have c3 := HB3.out.cell 3 rfl
      have c4 := HB3.out.cell 4 rfl
      have c5 := HB3.out.cell 5 rfl
      have c6 := HB3.out.cell 6 rfl
      have c7 := HB3.out.cell 7 rfl
      have c8 := HB3.out.cell 8 rfl
      obtain ⟨b5, hb5⟩ : ∃ b5, decide (len ≤ 50) = b5 := ⟨_, rfl⟩
      have hb5z : decide ((len : Int) ≤ 50) = b5 := by rw [← hb5]; exact decide_eq_decide.2 (by omega)
      rw [hb5] at HV
      clear hb5
      go_wp2
      go_loopg [7, 9, 102] len (fun gg s7 s9 s102 wr => ∃ i, i ≤ len ∧ gg = len - i ∧ s102 = .int .i64 (i : Nat) ∧ s7 = .bool (b5 && okZ (l.take i)) ∧ Hid (Upd [] w wr) ∧ Hid (Blk wr q0 [.int .i64 14, .string p, .string q, .int .i64 k, .int .i64 m, .int .u32 (t : Nat), .string D, .int .i64 n, .slice va len vc] 27))
      case atStart => exact ⟨0, Nat.zero_le _, rfl, rfl, by simp [okZ], HU3, HB3⟩
      case round =>
        obtain ⟨i, hin, rfl, rfl, rfl, HUr, HBr⟩ := hrel
        clear c0 c1 c2 c3 c4 c5 c6 c7 c8
        have k8 := HBr.out.cell 8 rfl
        by_cases hc : i < len
        · have hcz : (i : Int) < (len : Int) := by omega
          have hi1 : i < l.length := by rw [HLN.out]; exact hc
          obtain ⟨b1, o1, rfl, x1⟩ := HVX.out i hi1
          have x1c := HUr.out.keepS x1
          have hw1 : IntKind.i64.wrap ((i : Int) + 1) = ((i + 1 : Nat) : Int) := by rw [IntWalk.i64_in _ (by omega)]; rfl
          have HTK : Hid ((b5 && okZ (l.take (i + 1))) = ((b5 && okZ (l.take i)) && decide (0 ≤ l[i] ∧ l[i] ≤ 1000))) := Lib.hid (by
            unfold okZ
            rw [List.take_succ_eq_append_getElem hi1, List.all_append]
            simp [Bool.and_assoc])
          generalize l[i] = x at *
          generalize (b5 && okZ (l.take i)) = bi at *
          cases bi
          · have HJ : Hid ((b5 && okZ (l.take (i + 1))) = false) := Lib.hid (by rw [HTK.out]; rfl)
            go_wp2
            go_roundg (len - (i + 1))
            · exact ⟨i + 1, by omega, rfl, by first | rfl | go_num, by rw [HJ.out], HUr, HBr⟩
            · omega
          · by_cases hx1 : 0 ≤ x
            · by_cases hx2 : x ≤ 1000
              · have HJ : Hid ((b5 && okZ (l.take (i + 1))) = true) := Lib.hid (by rw [HTK.out, decide_eq_true ⟨hx1, hx2⟩]; rfl)
                go_wp2
                go_roundg (len - (i + 1))
                · exact ⟨i + 1, by omega, rfl, by first | rfl | go_num, by rw [HJ.out], HUr, HBr⟩
                · omega
              · have HJ : Hid ((b5 && okZ (l.take (i + 1))) = false) := Lib.hid (by rw [HTK.out, decide_eq_false (fun h => hx2 h.2)]; rfl)
                go_wp2
                go_roundg (len - (i + 1))
                · exact ⟨i + 1, by omega, rfl, by first | rfl | go_num, by rw [HJ.out], HUr, HBr⟩
                · omega
            · have HJ : Hid ((b5 && okZ (l.take (i + 1))) = false) := Lib.hid (by rw [HTK.out, decide_eq_false (fun h => hx1 h.1)]; rfl)
              go_wp2
              go_roundg (len - (i + 1))
              · exact ⟨i + 1, by omega, rfl, by first | rfl | go_num, by rw [HJ.out], HUr, HBr⟩
              · omega
        · have hcz : ¬ (i : Int) < (len : Int) := by omega
          obtain rfl : i = len := by omega
          have hte : l.take i = l := List.take_of_length_le (by rw [HLN.out]; exact Nat.le_refl _)
          rw [hte]
          generalize (b5 && okZ l) = bi at *
          go_upto_region 27 with fail
          cases bp
          · go_wp2
            go_ret
            exact ⟨by rw [HV.out]; simp, HUr.out⟩
          · cases bq
            · go_wp2
              go_ret
              exact ⟨by rw [HV.out]; simp, HUr.out⟩
            · cases bd
              · go_wp2
                go_ret
                exact ⟨by rw [HV.out]; simp, HUr.out⟩
              · cases bn
                · go_wp2
                  go_ret
                  exact ⟨by rw [HV.out]; simp, HUr.out⟩
                · cases bi
                  · go_wp2
                    go_ret
                    exact ⟨by rw [HV.out]; simp, HUr.out⟩
                  · go_wp2
                    go_ret
                    exact ⟨by rw [HV.out]; rfl, HUr.out⟩
    · have e1 : (op == 1) = false := by simpa using h1
      have e4 : (op == 4) = false := by simpa using h4
      have e2 : (op == 2) = false := by simpa using h2
      have e3 : (op == 3) = false := by simpa using h3
      have e5 : (op == 5) = false := by simpa using h5
      have e11 : (op == 11) = false := by simpa using h11
      have e12 : (op == 12) = false := by simpa using h12
      have e13 : (op == 13) = false := by simpa using h13
      have e14 : (op == 14) = false := by simpa using h14
      as_aux_lemma =>
      have HV0 : rightR ⟨op, p, q, k, m, t, D, n, .slice va l.length vc, l⟩ = ((((decide (bytesOf p = []) && decide (bytesOf q = [])) && decide (k = 0 ∧ m = 0 ∧ (t : Int) = 0 ∧ D = ⟨#[]⟩)) && decide (n = 0)) && decide (l.length = 0)) := by simp [rightR, paR, toR, ndR, nuR, llR, h1, h4, h2, h3, h5, h11, h12, h13, h14, hop]
      rw [HRR.out] at HV0
      try rw [HBP.out] at HV0
      try rw [HBQ.out] at HV0
      try rw [HBD.out] at HV0
      try rw [HBN.out] at HV0
      try rw [HBL.out] at HV0
      try rw [HLN.out] at HV0
      have HV := Lib.hid HV0
      clear HV0 HBP HBQ HBD HBN HBL HRR
      have c0 := HB3.out.cell 0 rfl
      have c1 := HB3.out.cell 1 rfl
      have c2 := HB3.out.cell 2 rfl
      have c3 := HB3.out.cell 3 rfl
      have c4 := HB3.out.cell 4 rfl
      have c5 := HB3.out.cell 5 rfl
      have c6 := HB3.out.cell 6 rfl
      have c7 := HB3.out.cell 7 rfl
      have c8 := HB3.out.cell 8 rfl
      go_upto_region 27 with fail
      cases bp
      · go_wp2
        go_ret
        exact ⟨by rw [HV.out]; simp, HU3.out⟩
      · cases bq
        · go_wp2
          go_ret
          exact ⟨by rw [HV.out]; simp, HU3.out⟩
        · cases bd
          · go_wp2
            go_ret
            exact ⟨by rw [HV.out]; simp, HU3.out⟩
          · cases bn
            · go_wp2
              go_ret
              exact ⟨by rw [HV.out]; simp, HU3.out⟩
            · cases bl
              · go_wp2
                go_ret
                exact ⟨by rw [HV.out]; simp, HU3.out⟩
              · go_wp2
                go_ret
                exact ⟨by rw [HV.out]; rfl, HU3.out⟩
  · have HV : Hid (rightR ⟨op, p, q, k, m, t, D, n, .slice va l.length vc, l⟩ = false) := Lib.hid (by unfold rightR; rw [decide_eq_false hop]; rfl)
    generalize rightR ⟨op, p, q, k, m, t, D, n, .slice va l.length vc, l⟩ = RR at *
    unfold EvN.val EvN.cells
    dsimp only
    clear HVX
    generalize l.length = len at *
    by_cases hlo : op < 1
    · go_enter Tryz.func11, Tryz.ntmps11
      go_wp2
      go_ret
      exact ⟨by rw [HV.out]; rfl, (Upd.refl _ _).alloc _⟩
    · have hhi : 14 < op := by omega
      go_enter Tryz.func11, Tryz.ntmps11
      go_wp2
      go_ret
      exact ⟨by rw [HV.out]; rfl, (Upd.refl _ _).alloc _⟩
end Go.Proofs.YtigjingielnaoaaGreatDoor

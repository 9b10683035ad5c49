/- Package drill: the maker's calm and put; Script; lives: walks. -/
import Derived.Test.YtdehkaknbmbieaaDNode
import Derived.Test.YtdehkaknbmbieaaGA
namespace Go.Proofs.Ytdehkaknbmbieaa
set_option linter.unusedVariables false
set_option linter.unusedSimpArgs false
set_option linter.unusedSectionVars false
open Go.RowKit
set_option linter.unusedVariables false
set_option linter.unusedSimpArgs false

/-- An event (with no numbers behind it). -/
structure EvD where
  op : Nat
  path : List Nat
  dest : List Nat
  k : Nat
  m : Nat
  t : Nat
  D : List Nat
  n : Nat
def EvD.cs (e : EvD) : List Value := [.int .i64 (e.op : Nat), .string (strOf e.path), .string (strOf e.dest), .int .i64 (e.k : Nat), .int .i64 (e.m : Nat), .int .u32 (e.t : Nat), .string (strOf e.D), .int .i64 (e.n : Nat), .slice none 0 0]
def opL : List Nat := [1, 1, 1, 1, 2, 3, 4, 4, 4, 5, 5, 6, 7, 8, 9, 10]
def opAt (k : Nat) : Nat := opL.getD k 0
def opCells : List Value := [.int .i64 1, .int .i64 1, .int .i64 1, .int .i64 1, .int .i64 2, .int .i64 3, .int .i64 4, .int .i64 4, .int .i64 4, .int .i64 5, .int .i64 5, .int .i64 6, .int .i64 7, .int .i64 8, .int .i64 9, .int .i64 10]
/-- The calm event that dice tell, and the number behind it. -/
def CalmRel (x : Nat) (e : EvD) (x' : Nat) : Prop :=
  e.op = opAt (belowI x 16) ∧
  ((e.op = 1 ∧ e.path = pathB (nextB x 16) ∧ e.dest = [] ∧ e.n = 0 ∧ NodeRel (pathR (nextB x 16)).2 e.k e.m e.t e.D x') ∨
   (e.op = 4 ∧ e.path = pathB (nextB x 16) ∧ e.dest = [] ∧ e.n = 0 ∧ ∃ (k m t : Nat) (D : List Nat) (z : Nat), NodeRel (pathR (nextB x 16)).2 k m t D z ∧ x' = nextB z 3 ∧
      ((belowI z 3 = 0 ∧ e.k = 0 ∧ e.m = 0 ∧ e.t = 0 ∧ e.D = []) ∨ (belowI z 3 ≠ 0 ∧ e.k = k ∧ e.m = m ∧ e.t = t ∧ e.D = D))) ∨
   (e.op = 2 ∧ e.path = pathB (nextB x 16) ∧ e.dest = [] ∧ e.n = 0 ∧ x' = (pathR (nextB x 16)).2 ∧ e.k = 0 ∧ e.m = 0 ∧ e.t = 0 ∧ e.D = []) ∨
   (e.op = 3 ∧ e.path = pathB (nextB x 16) ∧ e.dest = pathB (pathR (nextB x 16)).2 ∧ e.n = 0 ∧ x' = (pathR (pathR (nextB x 16)).2).2 ∧ e.k = 0 ∧ e.m = 0 ∧ e.t = 0 ∧ e.D = []) ∨
   (e.op = 5 ∧ e.path = [] ∧ e.dest = [] ∧ e.n = belowI (nextB x 16) 4 ∧ x' = nextB (nextB x 16) 4 ∧ e.k = 0 ∧ e.m = 0 ∧ e.t = 0 ∧ e.D = []) ∨
   (6 ≤ e.op ∧ e.path = [] ∧ e.dest = [] ∧ e.n = 0 ∧ x' = nextB x 16 ∧ e.k = 0 ∧ e.m = 0 ∧ e.t = 0 ∧ e.D = []))
theorem DiceB.drew {w : World} {b x : Nat} (h : DiceB w b x) : DiceB w.drew b x := ⟨h.1.drew, h.2⟩
theorem opCells_at (k : Nat) (h : k < 16) : opCells[k]? = some (.int .i64 ((opAt k : Nat) : Int)) := by
  rcases k with _ | _ | _ | _ | _ | _ | _ | _ | _ | _ | _ | _ | _ | _ | _ | _ | k
  all_goals first | rfl | omega
theorem belowI_lt16 (x : Nat) : belowI x 16 < 16 := belowI_lt x 16 (by omega)
def CalmP (b x : Nat) (w : World) (e : Ending) (w' : World) : Prop := ∃ (ev : EvD) (x' : Nat), e = .returned (.agg ev.cs.toArray) ∧ CalmRel x ev x' ∧ DiceB w' b x' ∧ Upd [b] w w'
theorem results_ev {fn : Func} {p : Tmp} (h : fn.results = #[.cell p 143]) (tmps : Array Value) (w : World) (g : Nat) (c0 c1 c2 c3 c4 c5 c6 c7 c8 : Value) (hp : tmps.getD p undef = .pointer (some ⟨g, 0, none⟩)) (hB : Blk w g [c0, c1, c2, c3, c4, c5, c6, c7, c8] 143) :
    (results fn tmps).run Try.prog w = .ok (.agg #[c0, c1, c2, c3, c4, c5, c6, c7, c8]) w := by
  have h0 := hB.cell 0 rfl
  have h1 := hB.cell 1 rfl
  have h2 := hB.cell 2 rfl
  have h3 := hB.cell 3 rfl
  have h4 := hB.cell 4 rfl
  have h5 := hB.cell 5 rfl
  have h6 := hB.cell 6 rfl
  have h7 := hB.cell 7 rfl
  have h8 := hB.cell 8 rfl
  have hp2 : tmps[p]?.getD undef = .pointer (some ⟨g, 0, none⟩) := by rw [← hp]; simp
  simp [results, h, go_sem, hp2, h0, h1, h2, h3, h4, h5, h6, h7, h8]
theorem Blk.set9e {w : World} {b : Nat} {a0 a1 a2 a3 a4 a5 a6 a7 a8 : Value} {t : TypeId} (h : Blk w b [a0, a1, a2, a3, a4, a5, a6, a7, a8] t) (v0 v1 v2 v3 v4 v5 v6 v7 v8 : Value) :
    Blk (((((((((w.setCell ⟨b, 0, none⟩ v0).setCell ⟨b, 1, none⟩ v1).setCell ⟨b, 2, none⟩ v2).setCell ⟨b, 3, none⟩ v3).setCell ⟨b, 4, none⟩ v4).setCell ⟨b, 5, none⟩ v5).setCell ⟨b, 6, none⟩ v6).setCell ⟨b, 7, none⟩ v7).setCell ⟨b, 8, none⟩ v8) b [v0, v1, v2, v3, v4, v5, v6, v7, v8] t :=
  ((((((((h.set 0 v0).set 1 v1).set 2 v2).set 3 v3).set 4 v4).set 5 v5).set 6 v6).set 7 v7).set 8 v8
theorem Upd.set9e {fp : List Nat} {w0 w : World} {b : Nat} (h : Upd fp w0 w) (hb : b ∈ fp ∨ w0.heap.size ≤ b) (v0 v1 v2 v3 v4 v5 v6 v7 v8 : Value) :
    Upd fp w0 (((((((((w.setCell ⟨b, 0, none⟩ v0).setCell ⟨b, 1, none⟩ v1).setCell ⟨b, 2, none⟩ v2).setCell ⟨b, 3, none⟩ v3).setCell ⟨b, 4, none⟩ v4).setCell ⟨b, 5, none⟩ v5).setCell ⟨b, 6, none⟩ v6).setCell ⟨b, 7, none⟩ v7).setCell ⟨b, 8, none⟩ v8) :=
  ((((((((h.setCell hb v0).setCell hb v1).setCell hb v2).setCell hb v3).setCell hb v4).setCell hb v5).setCell hb v6).setCell hb v7).setCell hb v8
def zeroEv : List Value := [.int .i64 0, .string { data := #[] }, .string { data := #[] }, .int .i64 0, .int .i64 0, .int .u32 0, .string { data := #[] }, .int .i64 0, .slice none 0 0]
def evCells (op : Int) : List Value := [.int .i64 op, .string { data := #[] }, .string { data := #[] }, .int .i64 0, .int .i64 0, .int .u32 0, .string { data := #[] }, .int .i64 0, .slice none 0 0]
set_option maxRecDepth 100000 in
set_option maxHeartbeats 6400000 in
theorem calm_any (b mb x : Nat) (v : Value) (w : World) (h : DiceB w b x) (hm : Blk w mb [.pointer (some ⟨b, 0, none⟩), v] 140) (hne : mb ≠ b) :
    Calls Try.prog 92 #[.pointer (some ⟨mb, 0, none⟩)] w fun e w' => CalmP b x w e w' := by
  have hbl := h.lt
  have hml := hm.lt
  have HBW := Lib.hid (dbelow_any b x 16 ((w.alloc (.cells zeroEv.toArray 143)).alloc (.cells opCells.toArray 185)) (h.upd (((Upd.refl [] w).alloc _).alloc _) (by simp)) (by omega))
  have hm1 := (hm.alloc (.cells zeroEv.toArray 143)).alloc (.cells opCells.toArray 185)
  have hp0 : ((w.alloc (.cells #[.int .i64 0, .string { data := #[] }, .string { data := #[] }, .int .i64 0, .int .i64 0, .int .u32 0, .string { data := #[] }, .int .i64 0, .slice none 0 0] 143)).alloc (.cells #[.int .i64 1, .int .i64 1, .int .i64 1, .int .i64 1, .int .i64 2, .int .i64 3, .int .i64 4, .int .i64 4, .int .i64 4, .int .i64 5, .int .i64 5, .int .i64 6, .int .i64 7, .int .i64 8, .int .i64 9, .int .i64 10] 185)).cell? ⟨mb, 0, none⟩ = some (.pointer (some ⟨b, 0, none⟩)) := hm1.cell 0 rfl
  have HM1 := Lib.hid hm1
  have HZ1 := Lib.hid ((Blk.new w zeroEv 143).alloc (.cells opCells.toArray 185))
  have ho1 := Blk.new (w.alloc (.cells zeroEv.toArray 143)) opCells 185
  rw [World.size_alloc] at ho1
  have HO1 := Lib.hid ho1
  have HU1 := Lib.hid (((Upd.refl [b] w).alloc (.cells zeroEv.toArray 143)).alloc (.cells opCells.toArray 185))
  clear hm1 ho1 h hm
  go_enter Try.func92, Try.ntmps92
  go_wp2_with fail
  refine HBW.out.mono ?_
  rintro e w1 ⟨rfl, hD1, hU1⟩
  have hsz1 : w.heap.size + 2 ≤ w1.heap.size := by have := hU1.size; simp at this; omega
  have HM2 := Lib.hid (HM1.out.upd hU1 (by simp; omega))
  have HZ2 := Lib.hid (HZ1.out.upd hU1 (by simp; omega))
  have ho2 := HO1.out.upd hU1 (by simp; omega)
  have HU2 := Lib.hid (HU1.out.then hU1)
  have HD2 := Lib.hid hD1
  have hk := belowI_lt16 x
  clear hD1 hU1 HBW HM1 HZ1 HO1 HU1 hp0
  have HK : Hid (belowI x 16 = belowI x 16) := Lib.hid rfl
  obtain ⟨k, hkk⟩ : ∃ k, belowI x 16 = k := ⟨_, rfl⟩
  rw [hkk] at hk ⊢
  have HKK := Lib.hid hkk
  have HRel : Hid (∀ (e : EvD) (x' : Nat), CalmRel x e x' ↔ CalmRel x e x') := Lib.hid (fun _ _ => Iff.rfl)
  obtain ⟨y, hy⟩ : ∃ y, nextB x 16 = y := ⟨_, rfl⟩
  have HY := Lib.hid hy
  rw [hy] at HD2
  clear hkk hy HK HRel
  have dk := ho2.cell k (opCells_at k hk)
  clear ho2
  generalize hr0 : w.heap.size = r0 at *
  have HR0 := Lib.hid hr0
  clear hr0
  rcases (by omega : (k = 0 ∨ k = 1 ∨ k = 2 ∨ k = 3) ∨ (k = 4) ∨ (k = 5) ∨ (k = 6 ∨ k = 7 ∨ k = 8) ∨ (k = 9 ∨ k = 10) ∨ (k = 11) ∨ (k = 12) ∨ (k = 13) ∨ (k = 14) ∨ (k = 15)) with h | h | h | h | h | h | h | h | h | h
  · rcases h with rfl | rfl | rfl | rfl
    · have d0 := dk
      change _ = some (Value.int .i64 1) at d0
      clear dk
      have hQ4 := Blk.new w1 (evCells 1) 143
      have hM4 := HM2.out.alloc (.cells (evCells 1).toArray 143)
      have hZ4 := HZ2.out.alloc (.cells (evCells 1).toArray 143)
      have hD4 := HD2.out.upd ((Upd.refl [] w1).alloc (.cells (evCells 1).toArray 143)) (by simp)
      have hU4 := HU2.out.alloc (.cells (evCells 1).toArray 143)
      have hsz4 : (w1.alloc (.cells (evCells 1).toArray 143)).heap.size = w1.heap.size + 1 := World.size_alloc _ _
      clear hk HD2 HM2 HZ2 HU2
      go_upto_region 3 with fail
      change Code.wp _ _ _ _ (w1.alloc (.cells (evCells 1).toArray 143))
      generalize w1.alloc (.cells (evCells 1).toArray 143) = w4 at *
      generalize w1.heap.size = q at *
      have hbq : b ≠ q := by omega
      have hmq : mb ≠ q := by omega
      have hrq : r0 ≠ q := by omega
      have hbr : b ≠ r0 := by omega
      have hmr : mb ≠ r0 := by omega
      have HQ4 := Lib.hid hQ4
      have HM4 := Lib.hid hM4
      have HZ4 := Lib.hid hZ4
      have HD4 := Lib.hid hD4
      have HU4 := Lib.hid hU4
      clear hQ4 hM4 hZ4 hD4 hU4 d0
      have p0 := HM4.out.cell 0 rfl
      have c0 := HQ4.out.cell 0 rfl
      have hq0 : w.heap.size ≤ q := by rw [HR0.out]; omega
      have HPA := Lib.hid (fun W (h : DiceB W b y) => dpath_any b y W h)
      have HPB := Lib.hid (fun W (h : DiceB W b (pathR y).2) => dnode_any b (pathR y).2 W h)
      go_wp2
      refine wp_region_held_drew (S := fun w' => Upd [b, q] w4 w') (by kernel_rfl) (Upd.refl _ _).drew (fun hHeld => ?_)
      change wpAnyH _ _ _ _ _ 14 #[false, false, false, false, false, false, false, false, false, false, false, false, false, false] _ _
      refine heldTake (i := 0) (d := some 19) (v := ?v0_1) rfl rfl (by kernel_rfl) (by kernel_rfl) (by kernel_rfl) (fun _ _ _ h => h) (by rfl) ?hy0_1 (by assumption) ?r0_1
      case hy0_1 => (intro w hSw; (try dsimp only at hSw); go_simp; try with_reducible rfl)
      try simp only [Act.put, List.setIfInBounds_toArray, List.set_cons_zero, List.set_cons_succ]
      change wpAnyH _ _ _ _ _ 13 #[true, false, false, false, false, false, false, false, false, false, false, false, false, false] _ _
      refine heldTake (i := 1) (d := some 20) (v := ?v1_2) rfl rfl (by kernel_rfl) (by kernel_rfl) (by kernel_rfl) (fun _ _ _ h => h) (by rfl) ?hy1_2 (by assumption) ?r1_2
      case hy1_2 => (intro w hSw; (try dsimp only at hSw); go_simp; try with_reducible rfl)
      try simp only [Act.put, List.setIfInBounds_toArray, List.set_cons_zero, List.set_cons_succ]
      change wpAnyH _ _ _ _ _ 12 #[true, true, false, false, false, false, false, false, false, false, false, false, false, false] _ _
      refine heldTake (i := 2) (d := some 21) (v := ?v2_3) rfl rfl (by kernel_rfl) (by kernel_rfl) (by kernel_rfl) (fun _ _ _ h => h) (by rfl) ?hy2_3 (by assumption) ?r2_3
      case hy2_3 => (intro w hSw; (try dsimp only at hSw); go_simp; try with_reducible rfl)
      try simp only [Act.put, List.setIfInBounds_toArray, List.set_cons_zero, List.set_cons_succ]
      change wpAnyH _ _ _ _ _ 11 #[true, true, true, false, false, false, false, false, false, false, false, false, false, false] _ _
      refine heldTake (i := 3) (d := some 22) (v := ?v3_4) rfl rfl (by kernel_rfl) (by kernel_rfl) (by kernel_rfl) (fun _ _ _ h => h) (by rfl) ?hy3_4 (by assumption) ?r3_4
      case hy3_4 => (intro wz hSw; have q0 := (HM4.out.upd hSw (by simp; omega)).cell 0 rfl; go_simp; try with_reducible rfl)
      try simp only [Act.put, List.setIfInBounds_toArray, List.set_cons_zero, List.set_cons_succ]
      change wpAnyH _ _ _ _ _ 10 #[true, true, true, true, false, false, false, false, false, false, false, false, false, false] _ _
      refine heldTake (i := 5) (d := some 24) (v := ?v5_5) rfl rfl (by kernel_rfl) (by kernel_rfl) (by kernel_rfl) (fun _ _ _ h => h) (by rfl) ?hy5_5 (by assumption) ?r5_5
      case hy5_5 => (intro w hSw; (try dsimp only at hSw); go_simp; try with_reducible rfl)
      try simp only [Act.put, List.setIfInBounds_toArray, List.set_cons_zero, List.set_cons_succ]
      change wpAnyH _ _ _ _ _ 9 #[true, true, true, true, false, true, false, false, false, false, false, false, false, false] _ _
      refine heldTake (i := 6) (d := some 25) (v := ?v6_6) rfl rfl (by kernel_rfl) (by kernel_rfl) (by kernel_rfl) (fun _ _ _ h => h) (by rfl) ?hy6_6 (by assumption) ?r6_6
      case hy6_6 => (intro w hSw; (try dsimp only at hSw); go_simp; try with_reducible rfl)
      try simp only [Act.put, List.setIfInBounds_toArray, List.set_cons_zero, List.set_cons_succ]
      change wpAnyH _ _ _ _ _ 8 #[true, true, true, true, false, true, true, false, false, false, false, false, false, false] _ _
      refine heldTake (i := 7) (d := some 26) (v := ?v7_7) rfl rfl (by kernel_rfl) (by kernel_rfl) (by kernel_rfl) (fun _ _ _ h => h) (by rfl) ?hy7_7 (by assumption) ?r7_7
      case hy7_7 => (intro w hSw; (try dsimp only at hSw); go_simp; try with_reducible rfl)
      try simp only [Act.put, List.setIfInBounds_toArray, List.set_cons_zero, List.set_cons_succ]
      change wpAnyH _ _ _ _ _ 7 #[true, true, true, true, false, true, true, true, false, false, false, false, false, false] _ _
      refine heldTake (i := 8) (d := some 27) (v := ?v8_8) rfl rfl (by kernel_rfl) (by kernel_rfl) (by kernel_rfl) (fun _ _ _ h => h) (by rfl) ?hy8_8 (by assumption) ?r8_8
      case hy8_8 => (intro wz hSw; have q0 := (HM4.out.upd hSw (by simp; omega)).cell 0 rfl; go_simp; try with_reducible rfl)
      try simp only [Act.put, List.setIfInBounds_toArray, List.set_cons_zero, List.set_cons_succ]
      change wpAnyH _ _ _ _ _ 6 #[true, true, true, true, false, true, true, true, true, false, false, false, false, false] _ _
      refine wpAnyH_ready (rs := [4]) (by kernel_rfl) (by simp) ?_
      refine AllReadyH.cons rfl (fun K hK => ?_) AllReadyH.nil
      go_simp
      refine (HPA.out _ (by first | exact HD4.out.drew | exact HD4.out)).mono ?_
      rintro e z1 ⟨rfl, hD1, hU1⟩
      have hS1 : Upd [b, q] w4 z1 := hHeld.trans hU1 (fun k hk => .inl (by simp at hk; simp [hk]))
      have hQ1 := (show Blk w4.drew q (evCells 1) 143 from HQ4.out.drew).upd hU1 (by simp; omega)
      have hZ1 := (show Blk w4.drew r0 zeroEv 143 from HZ4.out.drew).upd hU1 (by simp; omega)
      have HW1 := Lib.hid ((HU4.out.drew).then hU1)
      have HD1 := Lib.hid hD1
      have HQ1 := Lib.hid hQ1
      have HZ1 := Lib.hid hZ1
      clear hD1 hU1 hQ1 hZ1
      go_wp2
      refine hK.out _ _ hS1 (fun hHeld => ?_)
      clear hK K
      try simp only [Act.put, List.setIfInBounds_toArray, List.set_cons_zero, List.set_cons_succ]
      change wpAnyH _ _ _ _ _ 5 #[true, true, true, true, true, true, true, true, true, false, false, false, false, false] _ _
      refine heldTake (i := 10) (d := some 29) (v := ?v10_10) rfl rfl (by kernel_rfl) (by kernel_rfl) (by kernel_rfl) (fun _ _ _ h => h) (by rfl) ?hy10_10 (by assumption) ?r10_10
      case hy10_10 => (intro w hSw; (try dsimp only at hSw); go_simp; try with_reducible rfl)
      try simp only [Act.put, List.setIfInBounds_toArray, List.set_cons_zero, List.set_cons_succ]
      change wpAnyH _ _ _ _ _ 4 #[true, true, true, true, true, true, true, true, true, false, true, false, false, false] _ _
      refine wpAnyH_ready (rs := [9]) (by kernel_rfl) (by simp) ?_
      refine AllReadyH.cons rfl (fun K hK => ?_) AllReadyH.nil
      go_simp
      refine (HPB.out _ (by first | exact HD1.out | exact HD1.out.drew)).mono ?_
      rintro e z2 ⟨k2, m2, t2, D2, x2, rfl, hrel2, hD2, hU2⟩
      unfold nodeV
      have hS2 : Upd [b, q] w4 z2 := hHeld.trans hU2 (fun k hk => .inl (by simp at hk; simp [hk]))
      have hQ2 := HQ1.out.upd hU2 (by simp; omega)
      have HZ2 := Lib.hid (HZ1.out.upd hU2 (by simp; omega))
      have HW2 := Lib.hid (HW1.out.then hU2)
      have HD2 := Lib.hid hD2
      have HNR := Lib.hid hrel2
      have k1 := hQ2.cell 1 rfl
      have f1 := hQ2.frz 1
      have k3 := hQ2.cell 3 rfl
      have f3 := hQ2.frz 3
      have k4 := hQ2.cell 4 rfl
      have f4 := hQ2.frz 4
      have k5 := hQ2.cell 5 rfl
      have f5 := hQ2.frz 5
      have k6 := hQ2.cell 6 rfl
      have f6 := hQ2.frz 6
      have HQ2 := Lib.hid hQ2
      clear hD2 hU2 hQ2 hrel2
      go_wp2
      refine hK.out _ _ hS2 (fun hHeld => ?_)
      clear hK K
      try simp only [Act.put, List.setIfInBounds_toArray, List.set_cons_zero, List.set_cons_succ]
      change wpAnyH _ _ _ _ _ 3 #[true, true, true, true, true, true, true, true, true, true, true, false, false, false] _ _
      refine wpAnyH_ready (rs := [11]) (by kernel_rfl) (by simp) ?_
      refine AllReadyH.cons rfl (fun K hK => ?_) AllReadyH.nil
      go_simp
      go_wp2
      refine hK.out _ _ (hS2.setCell (p := ⟨q, 1, none⟩) (.inl (by simp)) (.string (strOf (pathB y)))) (fun hHeld => ?_)
      clear hK K
      try simp only [Act.put, List.setIfInBounds_toArray, List.set_cons_zero, List.set_cons_succ]
      change wpAnyH _ _ _ _ _ 2 #[true, true, true, true, true, true, true, true, true, true, true, true, false, false] _ _
      refine heldTake (i := 12) (d := some 30) (v := ?v12_13) rfl rfl (by kernel_rfl) (by kernel_rfl) (by kernel_rfl) (fun _ _ _ h => h) (by rfl) ?hy12_13 (by assumption) ?r12_13
      case hy12_13 => (intro w hSw; (try dsimp only at hSw); go_simp; try with_reducible rfl)
      try simp only [Act.put, List.setIfInBounds_toArray, List.set_cons_zero, List.set_cons_succ]
      change wpAnyH _ _ _ _ _ 1 #[true, true, true, true, true, true, true, true, true, true, true, true, true, false] _ _
      refine wpAnyH_ready (rs := [13]) (by kernel_rfl) (by simp) ?_
      refine AllReadyH.cons rfl (fun K hK => ?_) AllReadyH.nil
      go_simp
      go_wp2
      refine hK.out _ _ (((((hS2.setCell (p := ⟨q, 1, none⟩) (.inl (by simp)) (.string (strOf (pathB y)))).setCell (p := ⟨q, 3, none⟩) (.inl (by simp)) (.int .i64 (k2 : Nat))).setCell (p := ⟨q, 4, none⟩) (.inl (by simp)) (.int .i64 (m2 : Nat))).setCell (p := ⟨q, 5, none⟩) (.inl (by simp)) (.int .u32 (t2 : Nat))).setCell (p := ⟨q, 6, none⟩) (.inl (by simp)) (.string (strOf D2))) (fun hHeld => ?_)
      clear hK K
      try simp only [Act.put, List.setIfInBounds_toArray, List.set_cons_zero, List.set_cons_succ]
      change wpAnyH _ _ _ _ _ 0 #[true, true, true, true, true, true, true, true, true, true, true, true, true, true] _ _
      refine wpAnyH_done (by kernel_rfl) ?_ 0
      have HQ6 := Lib.hid (((((HQ2.out.set 1 (.string (strOf (pathB y)))).set 3 (.int .i64 (k2 : Nat))).set 4 (.int .i64 (m2 : Nat))).set 5 (.int .u32 (t2 : Nat))).set 6 (.string (strOf D2)))
      have HZ6 := Lib.hid (((((HZ2.out.setFar (a := ⟨q, 1, none⟩) (.string (strOf (pathB y))) hrq).setFar (a := ⟨q, 3, none⟩) (.int .i64 (k2 : Nat)) hrq).setFar (a := ⟨q, 4, none⟩) (.int .i64 (m2 : Nat)) hrq).setFar (a := ⟨q, 5, none⟩) (.int .u32 (t2 : Nat)) hrq).setFar (a := ⟨q, 6, none⟩) (.string (strOf D2)) hrq)
      have HU6 := Lib.hid (((((HW2.out.setCell (p := ⟨q, 1, none⟩) (.inr hq0) (.string (strOf (pathB y)))).setCell (p := ⟨q, 3, none⟩) (.inr hq0) (.int .i64 (k2 : Nat))).setCell (p := ⟨q, 4, none⟩) (.inr hq0) (.int .i64 (m2 : Nat))).setCell (p := ⟨q, 5, none⟩) (.inr hq0) (.int .u32 (t2 : Nat))).setCell (p := ⟨q, 6, none⟩) (.inr hq0) (.string (strOf D2)))
      have HD6 := Lib.hid (HD2.out.upd ((((((Upd.refl [q] z2).setCell (p := ⟨q, 1, none⟩) (.inl (by simp)) (.string (strOf (pathB y)))).setCell (p := ⟨q, 3, none⟩) (.inl (by simp)) (.int .i64 (k2 : Nat))).setCell (p := ⟨q, 4, none⟩) (.inl (by simp)) (.int .i64 (m2 : Nat))).setCell (p := ⟨q, 5, none⟩) (.inl (by simp)) (.int .u32 (t2 : Nat))).setCell (p := ⟨q, 6, none⟩) (.inl (by simp)) (.string (strOf D2))) (by simp; omega))
      have HM6 := Lib.hid (HM4.out.upd hHeld (by simp; omega))
      clear hS2 hHeld hS1 HZ2 HW2 HD2 HQ2 HD1 HQ1 HZ1 HW1 k1 f1 k3 f3 k4 f4 k5 f5 k6 f6
      generalize (((((z2.setCell ⟨q, 1, none⟩ (.string (strOf (pathB y)))).setCell ⟨q, 3, none⟩ (.int .i64 (k2 : Nat))).setCell ⟨q, 4, none⟩ (.int .i64 (m2 : Nat))).setCell ⟨q, 5, none⟩ (.int .u32 (t2 : Nat))).setCell ⟨q, 6, none⟩ (.string (strOf D2))) = z6 at *
      have c0 := HQ6.out.cell 0 rfl
      have hzz := HZ6.out
      have z0 := hzz.cell 0 rfl
      have z1 := hzz.cell 1 rfl
      have z2 := hzz.cell 2 rfl
      have z3 := hzz.cell 3 rfl
      have z4 := hzz.cell 4 rfl
      have z5 := hzz.cell 5 rfl
      have z6 := hzz.cell 6 rfl
      have z7 := hzz.cell 7 rfl
      have z8 := hzz.cell 8 rfl
      have g0 := hzz.frz 0
      have g1 := hzz.frz 1
      have g2 := hzz.frz 2
      have g3 := hzz.frz 3
      have g4 := hzz.frz 4
      have g5 := hzz.frz 5
      have g6 := hzz.frz 6
      have g7 := hzz.frz 7
      have g8 := hzz.frz 8
      have hqq := HQ6.out
      have cc0 := hqq.cell 0 rfl
      have cc1 := hqq.cell 1 rfl
      have cc2 := hqq.cell 2 rfl
      have cc3 := hqq.cell 3 rfl
      have cc4 := hqq.cell 4 rfl
      have cc5 := hqq.cell 5 rfl
      have cc6 := hqq.cell 6 rfl
      have cc7 := hqq.cell 7 rfl
      have cc8 := hqq.cell 8 rfl
      have HZZ := Lib.hid hzz
      have HUU := Lib.hid HU6.out
      have HDD := Lib.hid HD6.out
      have HRR : Hid (CalmRel x (⟨1, pathB y, [], k2, m2, t2, D2, 0⟩ : EvD) (x2)) := Lib.hid ⟨by rw [HKK.out]; rfl, .inl ⟨rfl, by rw [HY.out], rfl, rfl, by rw [HY.out]; exact HNR.out⟩⟩
      clear hzz hqq
      go_wp2_with fail
      (try simp only [Exit.inBlock, Exit.then]); refine bodyPost_ret (results_ev rfl _ _ r0 _ _ _ _ _ _ _ _ _ rfl (Blk.set9e HZZ.out _ _ _ _ _ _ _ _ _)) rfl ⟨(⟨1, pathB y, [], k2, m2, t2, D2, 0⟩ : EvD), _, rfl, HRR.out, ?_, Upd.set9e HUU.out (.inr (by rw [HR0.out]; exact Nat.le_refl _)) _ _ _ _ _ _ _ _ _⟩
      exact HDD.out.upd (Upd.set9e (Upd.refl [r0] _) (.inl (by simp)) _ _ _ _ _ _ _ _ _) (by simp; omega)
    · have d0 := dk
      change _ = some (Value.int .i64 1) at d0
      clear dk
      have hQ4 := Blk.new w1 (evCells 1) 143
      have hM4 := HM2.out.alloc (.cells (evCells 1).toArray 143)
      have hZ4 := HZ2.out.alloc (.cells (evCells 1).toArray 143)
      have hD4 := HD2.out.upd ((Upd.refl [] w1).alloc (.cells (evCells 1).toArray 143)) (by simp)
      have hU4 := HU2.out.alloc (.cells (evCells 1).toArray 143)
      have hsz4 : (w1.alloc (.cells (evCells 1).toArray 143)).heap.size = w1.heap.size + 1 := World.size_alloc _ _
      clear hk HD2 HM2 HZ2 HU2
      go_upto_region 3 with fail
      change Code.wp _ _ _ _ (w1.alloc (.cells (evCells 1).toArray 143))
      generalize w1.alloc (.cells (evCells 1).toArray 143) = w4 at *
      generalize w1.heap.size = q at *
      have hbq : b ≠ q := by omega
      have hmq : mb ≠ q := by omega
      have hrq : r0 ≠ q := by omega
      have hbr : b ≠ r0 := by omega
      have hmr : mb ≠ r0 := by omega
      have HQ4 := Lib.hid hQ4
      have HM4 := Lib.hid hM4
      have HZ4 := Lib.hid hZ4
      have HD4 := Lib.hid hD4
      have HU4 := Lib.hid hU4
      clear hQ4 hM4 hZ4 hD4 hU4 d0
      have p0 := HM4.out.cell 0 rfl
      have c0 := HQ4.out.cell 0 rfl
      have hq0 : w.heap.size ≤ q := by rw [HR0.out]; omega
      have HPA := Lib.hid (fun W (h : DiceB W b y) => dpath_any b y W h)
      have HPB := Lib.hid (fun W (h : DiceB W b (pathR y).2) => dnode_any b (pathR y).2 W h)
      go_wp2
      refine wp_region_held_drew (S := fun w' => Upd [b, q] w4 w') (by kernel_rfl) (Upd.refl _ _).drew (fun hHeld => ?_)
      change wpAnyH _ _ _ _ _ 14 #[false, false, false, false, false, false, false, false, false, false, false, false, false, false] _ _
      refine heldTake (i := 0) (d := some 19) (v := ?v0_15) rfl rfl (by kernel_rfl) (by kernel_rfl) (by kernel_rfl) (fun _ _ _ h => h) (by rfl) ?hy0_15 (by assumption) ?r0_15
      case hy0_15 => (intro w hSw; (try dsimp only at hSw); go_simp; try with_reducible rfl)
      try simp only [Act.put, List.setIfInBounds_toArray, List.set_cons_zero, List.set_cons_succ]
      change wpAnyH _ _ _ _ _ 13 #[true, false, false, false, false, false, false, false, false, false, false, false, false, false] _ _
      refine heldTake (i := 1) (d := some 20) (v := ?v1_16) rfl rfl (by kernel_rfl) (by kernel_rfl) (by kernel_rfl) (fun _ _ _ h => h) (by rfl) ?hy1_16 (by assumption) ?r1_16
      case hy1_16 => (intro w hSw; (try dsimp only at hSw); go_simp; try with_reducible rfl)
      try simp only [Act.put, List.setIfInBounds_toArray, List.set_cons_zero, List.set_cons_succ]
      change wpAnyH _ _ _ _ _ 12 #[true, true, false, false, false, false, false, false, false, false, false, false, false, false] _ _
      refine heldTake (i := 2) (d := some 21) (v := ?v2_17) rfl rfl (by kernel_rfl) (by kernel_rfl) (by kernel_rfl) (fun _ _ _ h => h) (by rfl) ?hy2_17 (by assumption) ?r2_17
      case hy2_17 => (intro w hSw; (try dsimp only at hSw); go_simp; try with_reducible rfl)
      try simp only [Act.put, List.setIfInBounds_toArray, List.set_cons_zero, List.set_cons_succ]
      change wpAnyH _ _ _ _ _ 11 #[true, true, true, false, false, false, false, false, false, false, false, false, false, false] _ _
      refine heldTake (i := 3) (d := some 22) (v := ?v3_18) rfl rfl (by kernel_rfl) (by kernel_rfl) (by kernel_rfl) (fun _ _ _ h => h) (by rfl) ?hy3_18 (by assumption) ?r3_18
      case hy3_18 => (intro wz hSw; have q0 := (HM4.out.upd hSw (by simp; omega)).cell 0 rfl; go_simp; try with_reducible rfl)
      try simp only [Act.put, List.setIfInBounds_toArray, List.set_cons_zero, List.set_cons_succ]
      change wpAnyH _ _ _ _ _ 10 #[true, true, true, true, false, false, false, false, false, false, false, false, false, false] _ _
      refine heldTake (i := 5) (d := some 24) (v := ?v5_19) rfl rfl (by kernel_rfl) (by kernel_rfl) (by kernel_rfl) (fun _ _ _ h => h) (by rfl) ?hy5_19 (by assumption) ?r5_19
      case hy5_19 => (intro w hSw; (try dsimp only at hSw); go_simp; try with_reducible rfl)
      try simp only [Act.put, List.setIfInBounds_toArray, List.set_cons_zero, List.set_cons_succ]
      change wpAnyH _ _ _ _ _ 9 #[true, true, true, true, false, true, false, false, false, false, false, false, false, false] _ _
      refine heldTake (i := 6) (d := some 25) (v := ?v6_20) rfl rfl (by kernel_rfl) (by kernel_rfl) (by kernel_rfl) (fun _ _ _ h => h) (by rfl) ?hy6_20 (by assumption) ?r6_20
      case hy6_20 => (intro w hSw; (try dsimp only at hSw); go_simp; try with_reducible rfl)
      try simp only [Act.put, List.setIfInBounds_toArray, List.set_cons_zero, List.set_cons_succ]
      change wpAnyH _ _ _ _ _ 8 #[true, true, true, true, false, true, true, false, false, false, false, false, false, false] _ _
      refine heldTake (i := 7) (d := some 26) (v := ?v7_21) rfl rfl (by kernel_rfl) (by kernel_rfl) (by kernel_rfl) (fun _ _ _ h => h) (by rfl) ?hy7_21 (by assumption) ?r7_21
      case hy7_21 => (intro w hSw; (try dsimp only at hSw); go_simp; try with_reducible rfl)
      try simp only [Act.put, List.setIfInBounds_toArray, List.set_cons_zero, List.set_cons_succ]
      change wpAnyH _ _ _ _ _ 7 #[true, true, true, true, false, true, true, true, false, false, false, false, false, false] _ _
      refine heldTake (i := 8) (d := some 27) (v := ?v8_22) rfl rfl (by kernel_rfl) (by kernel_rfl) (by kernel_rfl) (fun _ _ _ h => h) (by rfl) ?hy8_22 (by assumption) ?r8_22
      case hy8_22 => (intro wz hSw; have q0 := (HM4.out.upd hSw (by simp; omega)).cell 0 rfl; go_simp; try with_reducible rfl)
      try simp only [Act.put, List.setIfInBounds_toArray, List.set_cons_zero, List.set_cons_succ]
      change wpAnyH _ _ _ _ _ 6 #[true, true, true, true, false, true, true, true, true, false, false, false, false, false] _ _
      refine wpAnyH_ready (rs := [4]) (by kernel_rfl) (by simp) ?_
      refine AllReadyH.cons rfl (fun K hK => ?_) AllReadyH.nil
      go_simp
      refine (HPA.out _ (by first | exact HD4.out.drew | exact HD4.out)).mono ?_
      rintro e z1 ⟨rfl, hD1, hU1⟩
      have hS1 : Upd [b, q] w4 z1 := hHeld.trans hU1 (fun k hk => .inl (by simp at hk; simp [hk]))
      have hQ1 := (show Blk w4.drew q (evCells 1) 143 from HQ4.out.drew).upd hU1 (by simp; omega)
      have hZ1 := (show Blk w4.drew r0 zeroEv 143 from HZ4.out.drew).upd hU1 (by simp; omega)
      have HW1 := Lib.hid ((HU4.out.drew).then hU1)
      have HD1 := Lib.hid hD1
      have HQ1 := Lib.hid hQ1
      have HZ1 := Lib.hid hZ1
      clear hD1 hU1 hQ1 hZ1
      go_wp2
      refine hK.out _ _ hS1 (fun hHeld => ?_)
      clear hK K
      try simp only [Act.put, List.setIfInBounds_toArray, List.set_cons_zero, List.set_cons_succ]
      change wpAnyH _ _ _ _ _ 5 #[true, true, true, true, true, true, true, true, true, false, false, false, false, false] _ _
      refine heldTake (i := 10) (d := some 29) (v := ?v10_24) rfl rfl (by kernel_rfl) (by kernel_rfl) (by kernel_rfl) (fun _ _ _ h => h) (by rfl) ?hy10_24 (by assumption) ?r10_24
      case hy10_24 => (intro w hSw; (try dsimp only at hSw); go_simp; try with_reducible rfl)
      try simp only [Act.put, List.setIfInBounds_toArray, List.set_cons_zero, List.set_cons_succ]
      change wpAnyH _ _ _ _ _ 4 #[true, true, true, true, true, true, true, true, true, false, true, false, false, false] _ _
      refine wpAnyH_ready (rs := [9]) (by kernel_rfl) (by simp) ?_
      refine AllReadyH.cons rfl (fun K hK => ?_) AllReadyH.nil
      go_simp
      refine (HPB.out _ (by first | exact HD1.out | exact HD1.out.drew)).mono ?_
      rintro e z2 ⟨k2, m2, t2, D2, x2, rfl, hrel2, hD2, hU2⟩
      unfold nodeV
      have hS2 : Upd [b, q] w4 z2 := hHeld.trans hU2 (fun k hk => .inl (by simp at hk; simp [hk]))
      have hQ2 := HQ1.out.upd hU2 (by simp; omega)
      have HZ2 := Lib.hid (HZ1.out.upd hU2 (by simp; omega))
      have HW2 := Lib.hid (HW1.out.then hU2)
      have HD2 := Lib.hid hD2
      have HNR := Lib.hid hrel2
      have k1 := hQ2.cell 1 rfl
      have f1 := hQ2.frz 1
      have k3 := hQ2.cell 3 rfl
      have f3 := hQ2.frz 3
      have k4 := hQ2.cell 4 rfl
      have f4 := hQ2.frz 4
      have k5 := hQ2.cell 5 rfl
      have f5 := hQ2.frz 5
      have k6 := hQ2.cell 6 rfl
      have f6 := hQ2.frz 6
      have HQ2 := Lib.hid hQ2
      clear hD2 hU2 hQ2 hrel2
      go_wp2
      refine hK.out _ _ hS2 (fun hHeld => ?_)
      clear hK K
      try simp only [Act.put, List.setIfInBounds_toArray, List.set_cons_zero, List.set_cons_succ]
      change wpAnyH _ _ _ _ _ 3 #[true, true, true, true, true, true, true, true, true, true, true, false, false, false] _ _
      refine wpAnyH_ready (rs := [11]) (by kernel_rfl) (by simp) ?_
      refine AllReadyH.cons rfl (fun K hK => ?_) AllReadyH.nil
      go_simp
      go_wp2
      refine hK.out _ _ (hS2.setCell (p := ⟨q, 1, none⟩) (.inl (by simp)) (.string (strOf (pathB y)))) (fun hHeld => ?_)
      clear hK K
      try simp only [Act.put, List.setIfInBounds_toArray, List.set_cons_zero, List.set_cons_succ]
      change wpAnyH _ _ _ _ _ 2 #[true, true, true, true, true, true, true, true, true, true, true, true, false, false] _ _
      refine heldTake (i := 12) (d := some 30) (v := ?v12_27) rfl rfl (by kernel_rfl) (by kernel_rfl) (by kernel_rfl) (fun _ _ _ h => h) (by rfl) ?hy12_27 (by assumption) ?r12_27
      case hy12_27 => (intro w hSw; (try dsimp only at hSw); go_simp; try with_reducible rfl)
      try simp only [Act.put, List.setIfInBounds_toArray, List.set_cons_zero, List.set_cons_succ]
      change wpAnyH _ _ _ _ _ 1 #[true, true, true, true, true, true, true, true, true, true, true, true, true, false] _ _
      refine wpAnyH_ready (rs := [13]) (by kernel_rfl) (by simp) ?_
      refine AllReadyH.cons rfl (fun K hK => ?_) AllReadyH.nil
      go_simp
      go_wp2
      refine hK.out _ _ (((((hS2.setCell (p := ⟨q, 1, none⟩) (.inl (by simp)) (.string (strOf (pathB y)))).setCell (p := ⟨q, 3, none⟩) (.inl (by simp)) (.int .i64 (k2 : Nat))).setCell (p := ⟨q, 4, none⟩) (.inl (by simp)) (.int .i64 (m2 : Nat))).setCell (p := ⟨q, 5, none⟩) (.inl (by simp)) (.int .u32 (t2 : Nat))).setCell (p := ⟨q, 6, none⟩) (.inl (by simp)) (.string (strOf D2))) (fun hHeld => ?_)
      clear hK K
      try simp only [Act.put, List.setIfInBounds_toArray, List.set_cons_zero, List.set_cons_succ]
      change wpAnyH _ _ _ _ _ 0 #[true, true, true, true, true, true, true, true, true, true, true, true, true, true] _ _
      refine wpAnyH_done (by kernel_rfl) ?_ 0
      have HQ6 := Lib.hid (((((HQ2.out.set 1 (.string (strOf (pathB y)))).set 3 (.int .i64 (k2 : Nat))).set 4 (.int .i64 (m2 : Nat))).set 5 (.int .u32 (t2 : Nat))).set 6 (.string (strOf D2)))
      have HZ6 := Lib.hid (((((HZ2.out.setFar (a := ⟨q, 1, none⟩) (.string (strOf (pathB y))) hrq).setFar (a := ⟨q, 3, none⟩) (.int .i64 (k2 : Nat)) hrq).setFar (a := ⟨q, 4, none⟩) (.int .i64 (m2 : Nat)) hrq).setFar (a := ⟨q, 5, none⟩) (.int .u32 (t2 : Nat)) hrq).setFar (a := ⟨q, 6, none⟩) (.string (strOf D2)) hrq)
      have HU6 := Lib.hid (((((HW2.out.setCell (p := ⟨q, 1, none⟩) (.inr hq0) (.string (strOf (pathB y)))).setCell (p := ⟨q, 3, none⟩) (.inr hq0) (.int .i64 (k2 : Nat))).setCell (p := ⟨q, 4, none⟩) (.inr hq0) (.int .i64 (m2 : Nat))).setCell (p := ⟨q, 5, none⟩) (.inr hq0) (.int .u32 (t2 : Nat))).setCell (p := ⟨q, 6, none⟩) (.inr hq0) (.string (strOf D2)))
      have HD6 := Lib.hid (HD2.out.upd ((((((Upd.refl [q] z2).setCell (p := ⟨q, 1, none⟩) (.inl (by simp)) (.string (strOf (pathB y)))).setCell (p := ⟨q, 3, none⟩) (.inl (by simp)) (.int .i64 (k2 : Nat))).setCell (p := ⟨q, 4, none⟩) (.inl (by simp)) (.int .i64 (m2 : Nat))).setCell (p := ⟨q, 5, none⟩) (.inl (by simp)) (.int .u32 (t2 : Nat))).setCell (p := ⟨q, 6, none⟩) (.inl (by simp)) (.string (strOf D2))) (by simp; omega))
      have HM6 := Lib.hid (HM4.out.upd hHeld (by simp; omega))
      clear hS2 hHeld hS1 HZ2 HW2 HD2 HQ2 HD1 HQ1 HZ1 HW1 k1 f1 k3 f3 k4 f4 k5 f5 k6 f6
      generalize (((((z2.setCell ⟨q, 1, none⟩ (.string (strOf (pathB y)))).setCell ⟨q, 3, none⟩ (.int .i64 (k2 : Nat))).setCell ⟨q, 4, none⟩ (.int .i64 (m2 : Nat))).setCell ⟨q, 5, none⟩ (.int .u32 (t2 : Nat))).setCell ⟨q, 6, none⟩ (.string (strOf D2))) = z6 at *
      have c0 := HQ6.out.cell 0 rfl
      have hzz := HZ6.out
      have z0 := hzz.cell 0 rfl
      have z1 := hzz.cell 1 rfl
      have z2 := hzz.cell 2 rfl
      have z3 := hzz.cell 3 rfl
      have z4 := hzz.cell 4 rfl
      have z5 := hzz.cell 5 rfl
      have z6 := hzz.cell 6 rfl
      have z7 := hzz.cell 7 rfl
      have z8 := hzz.cell 8 rfl
      have g0 := hzz.frz 0
      have g1 := hzz.frz 1
      have g2 := hzz.frz 2
      have g3 := hzz.frz 3
      have g4 := hzz.frz 4
      have g5 := hzz.frz 5
      have g6 := hzz.frz 6
      have g7 := hzz.frz 7
      have g8 := hzz.frz 8
      have hqq := HQ6.out
      have cc0 := hqq.cell 0 rfl
      have cc1 := hqq.cell 1 rfl
      have cc2 := hqq.cell 2 rfl
      have cc3 := hqq.cell 3 rfl
      have cc4 := hqq.cell 4 rfl
      have cc5 := hqq.cell 5 rfl
      have cc6 := hqq.cell 6 rfl
      have cc7 := hqq.cell 7 rfl
      have cc8 := hqq.cell 8 rfl
      have HZZ := Lib.hid hzz
      have HUU := Lib.hid HU6.out
      have HDD := Lib.hid HD6.out
      have HRR : Hid (CalmRel x (⟨1, pathB y, [], k2, m2, t2, D2, 0⟩ : EvD) (x2)) := Lib.hid ⟨by rw [HKK.out]; rfl, .inl ⟨rfl, by rw [HY.out], rfl, rfl, by rw [HY.out]; exact HNR.out⟩⟩
      clear hzz hqq
      go_wp2_with fail
      (try simp only [Exit.inBlock, Exit.then]); refine bodyPost_ret (results_ev rfl _ _ r0 _ _ _ _ _ _ _ _ _ rfl (Blk.set9e HZZ.out _ _ _ _ _ _ _ _ _)) rfl ⟨(⟨1, pathB y, [], k2, m2, t2, D2, 0⟩ : EvD), _, rfl, HRR.out, ?_, Upd.set9e HUU.out (.inr (by rw [HR0.out]; exact Nat.le_refl _)) _ _ _ _ _ _ _ _ _⟩
      exact HDD.out.upd (Upd.set9e (Upd.refl [r0] _) (.inl (by simp)) _ _ _ _ _ _ _ _ _) (by simp; omega)
    · have d0 := dk
      change _ = some (Value.int .i64 1) at d0
      clear dk
      have hQ4 := Blk.new w1 (evCells 1) 143
      have hM4 := HM2.out.alloc (.cells (evCells 1).toArray 143)
      have hZ4 := HZ2.out.alloc (.cells (evCells 1).toArray 143)
      have hD4 := HD2.out.upd ((Upd.refl [] w1).alloc (.cells (evCells 1).toArray 143)) (by simp)
      have hU4 := HU2.out.alloc (.cells (evCells 1).toArray 143)
      have hsz4 : (w1.alloc (.cells (evCells 1).toArray 143)).heap.size = w1.heap.size + 1 := World.size_alloc _ _
      clear hk HD2 HM2 HZ2 HU2
      go_upto_region 3 with fail
      change Code.wp _ _ _ _ (w1.alloc (.cells (evCells 1).toArray 143))
      generalize w1.alloc (.cells (evCells 1).toArray 143) = w4 at *
      generalize w1.heap.size = q at *
      have hbq : b ≠ q := by omega
      have hmq : mb ≠ q := by omega
      have hrq : r0 ≠ q := by omega
      have hbr : b ≠ r0 := by omega
      have hmr : mb ≠ r0 := by omega
      have HQ4 := Lib.hid hQ4
      have HM4 := Lib.hid hM4
      have HZ4 := Lib.hid hZ4
      have HD4 := Lib.hid hD4
      have HU4 := Lib.hid hU4
      clear hQ4 hM4 hZ4 hD4 hU4 d0
      have p0 := HM4.out.cell 0 rfl
      have c0 := HQ4.out.cell 0 rfl
      have hq0 : w.heap.size ≤ q := by rw [HR0.out]; omega
      have HPA := Lib.hid (fun W (h : DiceB W b y) => dpath_any b y W h)
      have HPB := Lib.hid (fun W (h : DiceB W b (pathR y).2) => dnode_any b (pathR y).2 W h)
      go_wp2
      refine wp_region_held_drew (S := fun w' => Upd [b, q] w4 w') (by kernel_rfl) (Upd.refl _ _).drew (fun hHeld => ?_)
      change wpAnyH _ _ _ _ _ 14 #[false, false, false, false, false, false, false, false, false, false, false, false, false, false] _ _
      refine heldTake (i := 0) (d := some 19) (v := ?v0_29) rfl rfl (by kernel_rfl) (by kernel_rfl) (by kernel_rfl) (fun _ _ _ h => h) (by rfl) ?hy0_29 (by assumption) ?r0_29
      case hy0_29 => (intro w hSw; (try dsimp only at hSw); go_simp; try with_reducible rfl)
      try simp only [Act.put, List.setIfInBounds_toArray, List.set_cons_zero, List.set_cons_succ]
      change wpAnyH _ _ _ _ _ 13 #[true, false, false, false, false, false, false, false, false, false, false, false, false, false] _ _
      refine heldTake (i := 1) (d := some 20) (v := ?v1_30) rfl rfl (by kernel_rfl) (by kernel_rfl) (by kernel_rfl) (fun _ _ _ h => h) (by rfl) ?hy1_30 (by assumption) ?r1_30
      case hy1_30 => (intro w hSw; (try dsimp only at hSw); go_simp; try with_reducible rfl)
      try simp only [Act.put, List.setIfInBounds_toArray, List.set_cons_zero, List.set_cons_succ]
      change wpAnyH _ _ _ _ _ 12 #[true, true, false, false, false, false, false, false, false, false, false, false, false, false] _ _
      refine heldTake (i := 2) (d := some 21) (v := ?v2_31) rfl rfl (by kernel_rfl) (by kernel_rfl) (by kernel_rfl) (fun _ _ _ h => h) (by rfl) ?hy2_31 (by assumption) ?r2_31
      case hy2_31 => (intro w hSw; (try dsimp only at hSw); go_simp; try with_reducible rfl)
      try simp only [Act.put, List.setIfInBounds_toArray, List.set_cons_zero, List.set_cons_succ]
      change wpAnyH _ _ _ _ _ 11 #[true, true, true, false, false, false, false, false, false, false, false, false, false, false] _ _
      refine heldTake (i := 3) (d := some 22) (v := ?v3_32) rfl rfl (by kernel_rfl) (by kernel_rfl) (by kernel_rfl) (fun _ _ _ h => h) (by rfl) ?hy3_32 (by assumption) ?r3_32
      case hy3_32 => (intro wz hSw; have q0 := (HM4.out.upd hSw (by simp; omega)).cell 0 rfl; go_simp; try with_reducible rfl)
      try simp only [Act.put, List.setIfInBounds_toArray, List.set_cons_zero, List.set_cons_succ]
      change wpAnyH _ _ _ _ _ 10 #[true, true, true, true, false, false, false, false, false, false, false, false, false, false] _ _
      refine heldTake (i := 5) (d := some 24) (v := ?v5_33) rfl rfl (by kernel_rfl) (by kernel_rfl) (by kernel_rfl) (fun _ _ _ h => h) (by rfl) ?hy5_33 (by assumption) ?r5_33
      case hy5_33 => (intro w hSw; (try dsimp only at hSw); go_simp; try with_reducible rfl)
      try simp only [Act.put, List.setIfInBounds_toArray, List.set_cons_zero, List.set_cons_succ]
      change wpAnyH _ _ _ _ _ 9 #[true, true, true, true, false, true, false, false, false, false, false, false, false, false] _ _
      refine heldTake (i := 6) (d := some 25) (v := ?v6_34) rfl rfl (by kernel_rfl) (by kernel_rfl) (by kernel_rfl) (fun _ _ _ h => h) (by rfl) ?hy6_34 (by assumption) ?r6_34
      case hy6_34 => (intro w hSw; (try dsimp only at hSw); go_simp; try with_reducible rfl)
      try simp only [Act.put, List.setIfInBounds_toArray, List.set_cons_zero, List.set_cons_succ]
      change wpAnyH _ _ _ _ _ 8 #[true, true, true, true, false, true, true, false, false, false, false, false, false, false] _ _
      refine heldTake (i := 7) (d := some 26) (v := ?v7_35) rfl rfl (by kernel_rfl) (by kernel_rfl) (by kernel_rfl) (fun _ _ _ h => h) (by rfl) ?hy7_35 (by assumption) ?r7_35
      case hy7_35 => (intro w hSw; (try dsimp only at hSw); go_simp; try with_reducible rfl)
      try simp only [Act.put, List.setIfInBounds_toArray, List.set_cons_zero, List.set_cons_succ]
      change wpAnyH _ _ _ _ _ 7 #[true, true, true, true, false, true, true, true, false, false, false, false, false, false] _ _
      refine heldTake (i := 8) (d := some 27) (v := ?v8_36) rfl rfl (by kernel_rfl) (by kernel_rfl) (by kernel_rfl) (fun _ _ _ h => h) (by rfl) ?hy8_36 (by assumption) ?r8_36
      case hy8_36 => (intro wz hSw; have q0 := (HM4.out.upd hSw (by simp; omega)).cell 0 rfl; go_simp; try with_reducible rfl)
      try simp only [Act.put, List.setIfInBounds_toArray, List.set_cons_zero, List.set_cons_succ]
      change wpAnyH _ _ _ _ _ 6 #[true, true, true, true, false, true, true, true, true, false, false, false, false, false] _ _
      refine wpAnyH_ready (rs := [4]) (by kernel_rfl) (by simp) ?_
      refine AllReadyH.cons rfl (fun K hK => ?_) AllReadyH.nil
      go_simp
      refine (HPA.out _ (by first | exact HD4.out.drew | exact HD4.out)).mono ?_
      rintro e z1 ⟨rfl, hD1, hU1⟩
      have hS1 : Upd [b, q] w4 z1 := hHeld.trans hU1 (fun k hk => .inl (by simp at hk; simp [hk]))
      have hQ1 := (show Blk w4.drew q (evCells 1) 143 from HQ4.out.drew).upd hU1 (by simp; omega)
      have hZ1 := (show Blk w4.drew r0 zeroEv 143 from HZ4.out.drew).upd hU1 (by simp; omega)
      have HW1 := Lib.hid ((HU4.out.drew).then hU1)
      have HD1 := Lib.hid hD1
      have HQ1 := Lib.hid hQ1
      have HZ1 := Lib.hid hZ1
      clear hD1 hU1 hQ1 hZ1
      go_wp2
      refine hK.out _ _ hS1 (fun hHeld => ?_)
      clear hK K
      try simp only [Act.put, List.setIfInBounds_toArray, List.set_cons_zero, List.set_cons_succ]
      change wpAnyH _ _ _ _ _ 5 #[true, true, true, true, true, true, true, true, true, false, false, false, false, false] _ _
      refine heldTake (i := 10) (d := some 29) (v := ?v10_38) rfl rfl (by kernel_rfl) (by kernel_rfl) (by kernel_rfl) (fun _ _ _ h => h) (by rfl) ?hy10_38 (by assumption) ?r10_38
      case hy10_38 => (intro w hSw; (try dsimp only at hSw); go_simp; try with_reducible rfl)
      try simp only [Act.put, List.setIfInBounds_toArray, List.set_cons_zero, List.set_cons_succ]
      change wpAnyH _ _ _ _ _ 4 #[true, true, true, true, true, true, true, true, true, false, true, false, false, false] _ _
      refine wpAnyH_ready (rs := [9]) (by kernel_rfl) (by simp) ?_
      refine AllReadyH.cons rfl (fun K hK => ?_) AllReadyH.nil
      go_simp
      refine (HPB.out _ (by first | exact HD1.out | exact HD1.out.drew)).mono ?_
      rintro e z2 ⟨k2, m2, t2, D2, x2, rfl, hrel2, hD2, hU2⟩
      unfold nodeV
      have hS2 : Upd [b, q] w4 z2 := hHeld.trans hU2 (fun k hk => .inl (by simp at hk; simp [hk]))
      have hQ2 := HQ1.out.upd hU2 (by simp; omega)
      have HZ2 := Lib.hid (HZ1.out.upd hU2 (by simp; omega))
      have HW2 := Lib.hid (HW1.out.then hU2)
      have HD2 := Lib.hid hD2
      have HNR := Lib.hid hrel2
      have k1 := hQ2.cell 1 rfl
      have f1 := hQ2.frz 1
      have k3 := hQ2.cell 3 rfl
      have f3 := hQ2.frz 3
      have k4 := hQ2.cell 4 rfl
      have f4 := hQ2.frz 4
      have k5 := hQ2.cell 5 rfl
      have f5 := hQ2.frz 5
      have k6 := hQ2.cell 6 rfl
      have f6 := hQ2.frz 6
      have HQ2 := Lib.hid hQ2
      clear hD2 hU2 hQ2 hrel2
      go_wp2
      refine hK.out _ _ hS2 (fun hHeld => ?_)
      clear hK K
      try simp only [Act.put, List.setIfInBounds_toArray, List.set_cons_zero, List.set_cons_succ]
      change wpAnyH _ _ _ _ _ 3 #[true, true, true, true, true, true, true, true, true, true, true, false, false, false] _ _
      refine wpAnyH_ready (rs := [11]) (by kernel_rfl) (by simp) ?_
      refine AllReadyH.cons rfl (fun K hK => ?_) AllReadyH.nil
      go_simp
      go_wp2
      refine hK.out _ _ (hS2.setCell (p := ⟨q, 1, none⟩) (.inl (by simp)) (.string (strOf (pathB y)))) (fun hHeld => ?_)
      clear hK K
      try simp only [Act.put, List.setIfInBounds_toArray, List.set_cons_zero, List.set_cons_succ]
      change wpAnyH _ _ _ _ _ 2 #[true, true, true, true, true, true, true, true, true, true, true, true, false, false] _ _
      refine heldTake (i := 12) (d := some 30) (v := ?v12_41) rfl rfl (by kernel_rfl) (by kernel_rfl) (by kernel_rfl) (fun _ _ _ h => h) (by rfl) ?hy12_41 (by assumption) ?r12_41
      case hy12_41 => (intro w hSw; (try dsimp only at hSw); go_simp; try with_reducible rfl)
      try simp only [Act.put, List.setIfInBounds_toArray, List.set_cons_zero, List.set_cons_succ]
      change wpAnyH _ _ _ _ _ 1 #[true, true, true, true, true, true, true, true, true, true, true, true, true, false] _ _
      refine wpAnyH_ready (rs := [13]) (by kernel_rfl) (by simp) ?_
      refine AllReadyH.cons rfl (fun K hK => ?_) AllReadyH.nil
      go_simp
      go_wp2
      refine hK.out _ _ (((((hS2.setCell (p := ⟨q, 1, none⟩) (.inl (by simp)) (.string (strOf (pathB y)))).setCell (p := ⟨q, 3, none⟩) (.inl (by simp)) (.int .i64 (k2 : Nat))).setCell (p := ⟨q, 4, none⟩) (.inl (by simp)) (.int .i64 (m2 : Nat))).setCell (p := ⟨q, 5, none⟩) (.inl (by simp)) (.int .u32 (t2 : Nat))).setCell (p := ⟨q, 6, none⟩) (.inl (by simp)) (.string (strOf D2))) (fun hHeld => ?_)
      clear hK K
      try simp only [Act.put, List.setIfInBounds_toArray, List.set_cons_zero, List.set_cons_succ]
      change wpAnyH _ _ _ _ _ 0 #[true, true, true, true, true, true, true, true, true, true, true, true, true, true] _ _
      refine wpAnyH_done (by kernel_rfl) ?_ 0
      have HQ6 := Lib.hid (((((HQ2.out.set 1 (.string (strOf (pathB y)))).set 3 (.int .i64 (k2 : Nat))).set 4 (.int .i64 (m2 : Nat))).set 5 (.int .u32 (t2 : Nat))).set 6 (.string (strOf D2)))
      have HZ6 := Lib.hid (((((HZ2.out.setFar (a := ⟨q, 1, none⟩) (.string (strOf (pathB y))) hrq).setFar (a := ⟨q, 3, none⟩) (.int .i64 (k2 : Nat)) hrq).setFar (a := ⟨q, 4, none⟩) (.int .i64 (m2 : Nat)) hrq).setFar (a := ⟨q, 5, none⟩) (.int .u32 (t2 : Nat)) hrq).setFar (a := ⟨q, 6, none⟩) (.string (strOf D2)) hrq)
      have HU6 := Lib.hid (((((HW2.out.setCell (p := ⟨q, 1, none⟩) (.inr hq0) (.string (strOf (pathB y)))).setCell (p := ⟨q, 3, none⟩) (.inr hq0) (.int .i64 (k2 : Nat))).setCell (p := ⟨q, 4, none⟩) (.inr hq0) (.int .i64 (m2 : Nat))).setCell (p := ⟨q, 5, none⟩) (.inr hq0) (.int .u32 (t2 : Nat))).setCell (p := ⟨q, 6, none⟩) (.inr hq0) (.string (strOf D2)))
      have HD6 := Lib.hid (HD2.out.upd ((((((Upd.refl [q] z2).setCell (p := ⟨q, 1, none⟩) (.inl (by simp)) (.string (strOf (pathB y)))).setCell (p := ⟨q, 3, none⟩) (.inl (by simp)) (.int .i64 (k2 : Nat))).setCell (p := ⟨q, 4, none⟩) (.inl (by simp)) (.int .i64 (m2 : Nat))).setCell (p := ⟨q, 5, none⟩) (.inl (by simp)) (.int .u32 (t2 : Nat))).setCell (p := ⟨q, 6, none⟩) (.inl (by simp)) (.string (strOf D2))) (by simp; omega))
      have HM6 := Lib.hid (HM4.out.upd hHeld (by simp; omega))
      clear hS2 hHeld hS1 HZ2 HW2 HD2 HQ2 HD1 HQ1 HZ1 HW1 k1 f1 k3 f3 k4 f4 k5 f5 k6 f6
      generalize (((((z2.setCell ⟨q, 1, none⟩ (.string (strOf (pathB y)))).setCell ⟨q, 3, none⟩ (.int .i64 (k2 : Nat))).setCell ⟨q, 4, none⟩ (.int .i64 (m2 : Nat))).setCell ⟨q, 5, none⟩ (.int .u32 (t2 : Nat))).setCell ⟨q, 6, none⟩ (.string (strOf D2))) = z6 at *
      have c0 := HQ6.out.cell 0 rfl
      have hzz := HZ6.out
      have z0 := hzz.cell 0 rfl
      have z1 := hzz.cell 1 rfl
      have z2 := hzz.cell 2 rfl
      have z3 := hzz.cell 3 rfl
      have z4 := hzz.cell 4 rfl
      have z5 := hzz.cell 5 rfl
      have z6 := hzz.cell 6 rfl
      have z7 := hzz.cell 7 rfl
      have z8 := hzz.cell 8 rfl
      have g0 := hzz.frz 0
      have g1 := hzz.frz 1
      have g2 := hzz.frz 2
      have g3 := hzz.frz 3
      have g4 := hzz.frz 4
      have g5 := hzz.frz 5
      have g6 := hzz.frz 6
      have g7 := hzz.frz 7
      have g8 := hzz.frz 8
      have hqq := HQ6.out
      have cc0 := hqq.cell 0 rfl
      have cc1 := hqq.cell 1 rfl
      have cc2 := hqq.cell 2 rfl
      have cc3 := hqq.cell 3 rfl
      have cc4 := hqq.cell 4 rfl
      have cc5 := hqq.cell 5 rfl
      have cc6 := hqq.cell 6 rfl
      have cc7 := hqq.cell 7 rfl
      have cc8 := hqq.cell 8 rfl
      have HZZ := Lib.hid hzz
      have HUU := Lib.hid HU6.out
      have HDD := Lib.hid HD6.out
      have HRR : Hid (CalmRel x (⟨1, pathB y, [], k2, m2, t2, D2, 0⟩ : EvD) (x2)) := Lib.hid ⟨by rw [HKK.out]; rfl, .inl ⟨rfl, by rw [HY.out], rfl, rfl, by rw [HY.out]; exact HNR.out⟩⟩
      clear hzz hqq
      go_wp2_with fail
      (try simp only [Exit.inBlock, Exit.then]); refine bodyPost_ret (results_ev rfl _ _ r0 _ _ _ _ _ _ _ _ _ rfl (Blk.set9e HZZ.out _ _ _ _ _ _ _ _ _)) rfl ⟨(⟨1, pathB y, [], k2, m2, t2, D2, 0⟩ : EvD), _, rfl, HRR.out, ?_, Upd.set9e HUU.out (.inr (by rw [HR0.out]; exact Nat.le_refl _)) _ _ _ _ _ _ _ _ _⟩
      exact HDD.out.upd (Upd.set9e (Upd.refl [r0] _) (.inl (by simp)) _ _ _ _ _ _ _ _ _) (by simp; omega)
    · have d0 := dk
      change _ = some (Value.int .i64 1) at d0
      clear dk
      have hQ4 := Blk.new w1 (evCells 1) 143
      have hM4 := HM2.out.alloc (.cells (evCells 1).toArray 143)
      have hZ4 := HZ2.out.alloc (.cells (evCells 1).toArray 143)
      have hD4 := HD2.out.upd ((Upd.refl [] w1).alloc (.cells (evCells 1).toArray 143)) (by simp)
      have hU4 := HU2.out.alloc (.cells (evCells 1).toArray 143)
      have hsz4 : (w1.alloc (.cells (evCells 1).toArray 143)).heap.size = w1.heap.size + 1 := World.size_alloc _ _
      clear hk HD2 HM2 HZ2 HU2
      go_upto_region 3 with fail
      change Code.wp _ _ _ _ (w1.alloc (.cells (evCells 1).toArray 143))
      generalize w1.alloc (.cells (evCells 1).toArray 143) = w4 at *
      generalize w1.heap.size = q at *
      have hbq : b ≠ q := by omega
      have hmq : mb ≠ q := by omega
      have hrq : r0 ≠ q := by omega
      have hbr : b ≠ r0 := by omega
      have hmr : mb ≠ r0 := by omega
      have HQ4 := Lib.hid hQ4
      have HM4 := Lib.hid hM4
      have HZ4 := Lib.hid hZ4
      have HD4 := Lib.hid hD4
      have HU4 := Lib.hid hU4
      clear hQ4 hM4 hZ4 hD4 hU4 d0
      have p0 := HM4.out.cell 0 rfl
      have c0 := HQ4.out.cell 0 rfl
      have hq0 : w.heap.size ≤ q := by rw [HR0.out]; omega
      have HPA := Lib.hid (fun W (h : DiceB W b y) => dpath_any b y W h)
      have HPB := Lib.hid (fun W (h : DiceB W b (pathR y).2) => dnode_any b (pathR y).2 W h)
      go_wp2
      refine wp_region_held_drew (S := fun w' => Upd [b, q] w4 w') (by kernel_rfl) (Upd.refl _ _).drew (fun hHeld => ?_)
      change wpAnyH _ _ _ _ _ 14 #[false, false, false, false, false, false, false, false, false, false, false, false, false, false] _ _
      refine heldTake (i := 0) (d := some 19) (v := ?v0_43) rfl rfl (by kernel_rfl) (by kernel_rfl) (by kernel_rfl) (fun _ _ _ h => h) (by rfl) ?hy0_43 (by assumption) ?r0_43
      case hy0_43 => (intro w hSw; (try dsimp only at hSw); go_simp; try with_reducible rfl)
      try simp only [Act.put, List.setIfInBounds_toArray, List.set_cons_zero, List.set_cons_succ]
      change wpAnyH _ _ _ _ _ 13 #[true, false, false, false, false, false, false, false, false, false, false, false, false, false] _ _
      refine heldTake (i := 1) (d := some 20) (v := ?v1_44) rfl rfl (by kernel_rfl) (by kernel_rfl) (by kernel_rfl) (fun _ _ _ h => h) (by rfl) ?hy1_44 (by assumption) ?r1_44
      case hy1_44 => (intro w hSw; (try dsimp only at hSw); go_simp; try with_reducible rfl)
      try simp only [Act.put, List.setIfInBounds_toArray, List.set_cons_zero, List.set_cons_succ]
      change wpAnyH _ _ _ _ _ 12 #[true, true, false, false, false, false, false, false, false, false, false, false, false, false] _ _
      refine heldTake (i := 2) (d := some 21) (v := ?v2_45) rfl rfl (by kernel_rfl) (by kernel_rfl) (by kernel_rfl) (fun _ _ _ h => h) (by rfl) ?hy2_45 (by assumption) ?r2_45
      case hy2_45 => (intro w hSw; (try dsimp only at hSw); go_simp; try with_reducible rfl)
      try simp only [Act.put, List.setIfInBounds_toArray, List.set_cons_zero, List.set_cons_succ]
      change wpAnyH _ _ _ _ _ 11 #[true, true, true, false, false, false, false, false, false, false, false, false, false, false] _ _
      refine heldTake (i := 3) (d := some 22) (v := ?v3_46) rfl rfl (by kernel_rfl) (by kernel_rfl) (by kernel_rfl) (fun _ _ _ h => h) (by rfl) ?hy3_46 (by assumption) ?r3_46
      case hy3_46 => (intro wz hSw; have q0 := (HM4.out.upd hSw (by simp; omega)).cell 0 rfl; go_simp; try with_reducible rfl)
      try simp only [Act.put, List.setIfInBounds_toArray, List.set_cons_zero, List.set_cons_succ]
      change wpAnyH _ _ _ _ _ 10 #[true, true, true, true, false, false, false, false, false, false, false, false, false, false] _ _
      refine heldTake (i := 5) (d := some 24) (v := ?v5_47) rfl rfl (by kernel_rfl) (by kernel_rfl) (by kernel_rfl) (fun _ _ _ h => h) (by rfl) ?hy5_47 (by assumption) ?r5_47
      case hy5_47 => (intro w hSw; (try dsimp only at hSw); go_simp; try with_reducible rfl)
      try simp only [Act.put, List.setIfInBounds_toArray, List.set_cons_zero, List.set_cons_succ]
      change wpAnyH _ _ _ _ _ 9 #[true, true, true, true, false, true, false, false, false, false, false, false, false, false] _ _
      refine heldTake (i := 6) (d := some 25) (v := ?v6_48) rfl rfl (by kernel_rfl) (by kernel_rfl) (by kernel_rfl) (fun _ _ _ h => h) (by rfl) ?hy6_48 (by assumption) ?r6_48
      case hy6_48 => (intro w hSw; (try dsimp only at hSw); go_simp; try with_reducible rfl)
      try simp only [Act.put, List.setIfInBounds_toArray, List.set_cons_zero, List.set_cons_succ]
      change wpAnyH _ _ _ _ _ 8 #[true, true, true, true, false, true, true, false, false, false, false, false, false, false] _ _
      refine heldTake (i := 7) (d := some 26) (v := ?v7_49) rfl rfl (by kernel_rfl) (by kernel_rfl) (by kernel_rfl) (fun _ _ _ h => h) (by rfl) ?hy7_49 (by assumption) ?r7_49
      case hy7_49 => (intro w hSw; (try dsimp only at hSw); go_simp; try with_reducible rfl)
      try simp only [Act.put, List.setIfInBounds_toArray, List.set_cons_zero, List.set_cons_succ]
      change wpAnyH _ _ _ _ _ 7 #[true, true, true, true, false, true, true, true, false, false, false, false, false, false] _ _
      refine heldTake (i := 8) (d := some 27) (v := ?v8_50) rfl rfl (by kernel_rfl) (by kernel_rfl) (by kernel_rfl) (fun _ _ _ h => h) (by rfl) ?hy8_50 (by assumption) ?r8_50
      case hy8_50 => (intro wz hSw; have q0 := (HM4.out.upd hSw (by simp; omega)).cell 0 rfl; go_simp; try with_reducible rfl)
      try simp only [Act.put, List.setIfInBounds_toArray, List.set_cons_zero, List.set_cons_succ]
      change wpAnyH _ _ _ _ _ 6 #[true, true, true, true, false, true, true, true, true, false, false, false, false, false] _ _
      refine wpAnyH_ready (rs := [4]) (by kernel_rfl) (by simp) ?_
      refine AllReadyH.cons rfl (fun K hK => ?_) AllReadyH.nil
      go_simp
      refine (HPA.out _ (by first | exact HD4.out.drew | exact HD4.out)).mono ?_
      rintro e z1 ⟨rfl, hD1, hU1⟩
      have hS1 : Upd [b, q] w4 z1 := hHeld.trans hU1 (fun k hk => .inl (by simp at hk; simp [hk]))
      have hQ1 := (show Blk w4.drew q (evCells 1) 143 from HQ4.out.drew).upd hU1 (by simp; omega)
      have hZ1 := (show Blk w4.drew r0 zeroEv 143 from HZ4.out.drew).upd hU1 (by simp; omega)
      have HW1 := Lib.hid ((HU4.out.drew).then hU1)
      have HD1 := Lib.hid hD1
      have HQ1 := Lib.hid hQ1
      have HZ1 := Lib.hid hZ1
      clear hD1 hU1 hQ1 hZ1
      go_wp2
      refine hK.out _ _ hS1 (fun hHeld => ?_)
      clear hK K
      try simp only [Act.put, List.setIfInBounds_toArray, List.set_cons_zero, List.set_cons_succ]
      change wpAnyH _ _ _ _ _ 5 #[true, true, true, true, true, true, true, true, true, false, false, false, false, false] _ _
      refine heldTake (i := 10) (d := some 29) (v := ?v10_52) rfl rfl (by kernel_rfl) (by kernel_rfl) (by kernel_rfl) (fun _ _ _ h => h) (by rfl) ?hy10_52 (by assumption) ?r10_52
      case hy10_52 => (intro w hSw; (try dsimp only at hSw); go_simp; try with_reducible rfl)
      try simp only [Act.put, List.setIfInBounds_toArray, List.set_cons_zero, List.set_cons_succ]
      change wpAnyH _ _ _ _ _ 4 #[true, true, true, true, true, true, true, true, true, false, true, false, false, false] _ _
      refine wpAnyH_ready (rs := [9]) (by kernel_rfl) (by simp) ?_
      refine AllReadyH.cons rfl (fun K hK => ?_) AllReadyH.nil
      go_simp
      refine (HPB.out _ (by first | exact HD1.out | exact HD1.out.drew)).mono ?_
      rintro e z2 ⟨k2, m2, t2, D2, x2, rfl, hrel2, hD2, hU2⟩
      unfold nodeV
      have hS2 : Upd [b, q] w4 z2 := hHeld.trans hU2 (fun k hk => .inl (by simp at hk; simp [hk]))
      have hQ2 := HQ1.out.upd hU2 (by simp; omega)
      have HZ2 := Lib.hid (HZ1.out.upd hU2 (by simp; omega))
      have HW2 := Lib.hid (HW1.out.then hU2)
      have HD2 := Lib.hid hD2
      have HNR := Lib.hid hrel2
      have k1 := hQ2.cell 1 rfl
      have f1 := hQ2.frz 1
      have k3 := hQ2.cell 3 rfl
      have f3 := hQ2.frz 3
      have k4 := hQ2.cell 4 rfl
      have f4 := hQ2.frz 4
      have k5 := hQ2.cell 5 rfl
      have f5 := hQ2.frz 5
      have k6 := hQ2.cell 6 rfl
      have f6 := hQ2.frz 6
      have HQ2 := Lib.hid hQ2
      clear hD2 hU2 hQ2 hrel2
      go_wp2
      refine hK.out _ _ hS2 (fun hHeld => ?_)
      clear hK K
      try simp only [Act.put, List.setIfInBounds_toArray, List.set_cons_zero, List.set_cons_succ]
      change wpAnyH _ _ _ _ _ 3 #[true, true, true, true, true, true, true, true, true, true, true, false, false, false] _ _
      refine wpAnyH_ready (rs := [11]) (by kernel_rfl) (by simp) ?_
      refine AllReadyH.cons rfl (fun K hK => ?_) AllReadyH.nil
      go_simp
      go_wp2
      refine hK.out _ _ (hS2.setCell (p := ⟨q, 1, none⟩) (.inl (by simp)) (.string (strOf (pathB y)))) (fun hHeld => ?_)
      clear hK K
      try simp only [Act.put, List.setIfInBounds_toArray, List.set_cons_zero, List.set_cons_succ]
      change wpAnyH _ _ _ _ _ 2 #[true, true, true, true, true, true, true, true, true, true, true, true, false, false] _ _
      refine heldTake (i := 12) (d := some 30) (v := ?v12_55) rfl rfl (by kernel_rfl) (by kernel_rfl) (by kernel_rfl) (fun _ _ _ h => h) (by rfl) ?hy12_55 (by assumption) ?r12_55
      case hy12_55 => (intro w hSw; (try dsimp only at hSw); go_simp; try with_reducible rfl)
      try simp only [Act.put, List.setIfInBounds_toArray, List.set_cons_zero, List.set_cons_succ]
      change wpAnyH _ _ _ _ _ 1 #[true, true, true, true, true, true, true, true, true, true, true, true, true, false] _ _
      refine wpAnyH_ready (rs := [13]) (by kernel_rfl) (by simp) ?_
      refine AllReadyH.cons rfl (fun K hK => ?_) AllReadyH.nil
      go_simp
      go_wp2
      refine hK.out _ _ (((((hS2.setCell (p := ⟨q, 1, none⟩) (.inl (by simp)) (.string (strOf (pathB y)))).setCell (p := ⟨q, 3, none⟩) (.inl (by simp)) (.int .i64 (k2 : Nat))).setCell (p := ⟨q, 4, none⟩) (.inl (by simp)) (.int .i64 (m2 : Nat))).setCell (p := ⟨q, 5, none⟩) (.inl (by simp)) (.int .u32 (t2 : Nat))).setCell (p := ⟨q, 6, none⟩) (.inl (by simp)) (.string (strOf D2))) (fun hHeld => ?_)
      clear hK K
      try simp only [Act.put, List.setIfInBounds_toArray, List.set_cons_zero, List.set_cons_succ]
      change wpAnyH _ _ _ _ _ 0 #[true, true, true, true, true, true, true, true, true, true, true, true, true, true] _ _
      refine wpAnyH_done (by kernel_rfl) ?_ 0
      have HQ6 := Lib.hid (((((HQ2.out.set 1 (.string (strOf (pathB y)))).set 3 (.int .i64 (k2 : Nat))).set 4 (.int .i64 (m2 : Nat))).set 5 (.int .u32 (t2 : Nat))).set 6 (.string (strOf D2)))
      have HZ6 := Lib.hid (((((HZ2.out.setFar (a := ⟨q, 1, none⟩) (.string (strOf (pathB y))) hrq).setFar (a := ⟨q, 3, none⟩) (.int .i64 (k2 : Nat)) hrq).setFar (a := ⟨q, 4, none⟩) (.int .i64 (m2 : Nat)) hrq).setFar (a := ⟨q, 5, none⟩) (.int .u32 (t2 : Nat)) hrq).setFar (a := ⟨q, 6, none⟩) (.string (strOf D2)) hrq)
      have HU6 := Lib.hid (((((HW2.out.setCell (p := ⟨q, 1, none⟩) (.inr hq0) (.string (strOf (pathB y)))).setCell (p := ⟨q, 3, none⟩) (.inr hq0) (.int .i64 (k2 : Nat))).setCell (p := ⟨q, 4, none⟩) (.inr hq0) (.int .i64 (m2 : Nat))).setCell (p := ⟨q, 5, none⟩) (.inr hq0) (.int .u32 (t2 : Nat))).setCell (p := ⟨q, 6, none⟩) (.inr hq0) (.string (strOf D2)))
      have HD6 := Lib.hid (HD2.out.upd ((((((Upd.refl [q] z2).setCell (p := ⟨q, 1, none⟩) (.inl (by simp)) (.string (strOf (pathB y)))).setCell (p := ⟨q, 3, none⟩) (.inl (by simp)) (.int .i64 (k2 : Nat))).setCell (p := ⟨q, 4, none⟩) (.inl (by simp)) (.int .i64 (m2 : Nat))).setCell (p := ⟨q, 5, none⟩) (.inl (by simp)) (.int .u32 (t2 : Nat))).setCell (p := ⟨q, 6, none⟩) (.inl (by simp)) (.string (strOf D2))) (by simp; omega))
      have HM6 := Lib.hid (HM4.out.upd hHeld (by simp; omega))
      clear hS2 hHeld hS1 HZ2 HW2 HD2 HQ2 HD1 HQ1 HZ1 HW1 k1 f1 k3 f3 k4 f4 k5 f5 k6 f6
      generalize (((((z2.setCell ⟨q, 1, none⟩ (.string (strOf (pathB y)))).setCell ⟨q, 3, none⟩ (.int .i64 (k2 : Nat))).setCell ⟨q, 4, none⟩ (.int .i64 (m2 : Nat))).setCell ⟨q, 5, none⟩ (.int .u32 (t2 : Nat))).setCell ⟨q, 6, none⟩ (.string (strOf D2))) = z6 at *
      have c0 := HQ6.out.cell 0 rfl
      have hzz := HZ6.out
      have z0 := hzz.cell 0 rfl
      have z1 := hzz.cell 1 rfl
      have z2 := hzz.cell 2 rfl
      have z3 := hzz.cell 3 rfl
      have z4 := hzz.cell 4 rfl
      have z5 := hzz.cell 5 rfl
      have z6 := hzz.cell 6 rfl
      have z7 := hzz.cell 7 rfl
      have z8 := hzz.cell 8 rfl
      have g0 := hzz.frz 0
      have g1 := hzz.frz 1
      have g2 := hzz.frz 2
      have g3 := hzz.frz 3
      have g4 := hzz.frz 4
      have g5 := hzz.frz 5
      have g6 := hzz.frz 6
      have g7 := hzz.frz 7
      have g8 := hzz.frz 8
      have hqq := HQ6.out
      have cc0 := hqq.cell 0 rfl
      have cc1 := hqq.cell 1 rfl
      have cc2 := hqq.cell 2 rfl
      have cc3 := hqq.cell 3 rfl
      have cc4 := hqq.cell 4 rfl
      have cc5 := hqq.cell 5 rfl
      have cc6 := hqq.cell 6 rfl
      have cc7 := hqq.cell 7 rfl
      have cc8 := hqq.cell 8 rfl
      have HZZ := Lib.hid hzz
      have HUU := Lib.hid HU6.out
      have HDD := Lib.hid HD6.out
      have HRR : Hid (CalmRel x (⟨1, pathB y, [], k2, m2, t2, D2, 0⟩ : EvD) (x2)) := Lib.hid ⟨by rw [HKK.out]; rfl, .inl ⟨rfl, by rw [HY.out], rfl, rfl, by rw [HY.out]; exact HNR.out⟩⟩
      clear hzz hqq
      go_wp2_with fail
      (try simp only [Exit.inBlock, Exit.then]); refine bodyPost_ret (results_ev rfl _ _ r0 _ _ _ _ _ _ _ _ _ rfl (Blk.set9e HZZ.out _ _ _ _ _ _ _ _ _)) rfl ⟨(⟨1, pathB y, [], k2, m2, t2, D2, 0⟩ : EvD), _, rfl, HRR.out, ?_, Upd.set9e HUU.out (.inr (by rw [HR0.out]; exact Nat.le_refl _)) _ _ _ _ _ _ _ _ _⟩
      exact HDD.out.upd (Upd.set9e (Upd.refl [r0] _) (.inl (by simp)) _ _ _ _ _ _ _ _ _) (by simp; omega)
  · rcases h with rfl
    all_goals
      have d0 := dk
      change _ = some (Value.int .i64 2) at d0
      clear dk
      have hQ4 := Blk.new w1 (evCells 2) 143
      have hM4 := HM2.out.alloc (.cells (evCells 2).toArray 143)
      have hZ4 := HZ2.out.alloc (.cells (evCells 2).toArray 143)
      have hD4 := HD2.out.upd ((Upd.refl [] w1).alloc (.cells (evCells 2).toArray 143)) (by simp)
      have hU4 := HU2.out.alloc (.cells (evCells 2).toArray 143)
      have hsz4 : (w1.alloc (.cells (evCells 2).toArray 143)).heap.size = w1.heap.size + 1 := World.size_alloc _ _
      clear hk HD2 HM2 HZ2 HU2
      go_upto_region 3 with fail
      change Code.wp _ _ _ _ (w1.alloc (.cells (evCells 2).toArray 143))
      generalize w1.alloc (.cells (evCells 2).toArray 143) = w4 at *
      generalize w1.heap.size = q at *
      have hbq : b ≠ q := by omega
      have hmq : mb ≠ q := by omega
      have hrq : r0 ≠ q := by omega
      have hbr : b ≠ r0 := by omega
      have hmr : mb ≠ r0 := by omega
      have HQ4 := Lib.hid hQ4
      have HM4 := Lib.hid hM4
      have HZ4 := Lib.hid hZ4
      have HD4 := Lib.hid hD4
      have HU4 := Lib.hid hU4
      clear hQ4 hM4 hZ4 hD4 hU4 d0
      have p0 := HM4.out.cell 0 rfl
      have c0 := HQ4.out.cell 0 rfl
      have HCL := Lib.hid (dpath_any b y w4 HD4.out)
      go_wp2_with fail
      refine HCL.out.mono ?_
      rintro e w5 ⟨rfl, hD5, hU5⟩
      have hQ5 := HQ4.out.upd hU5 (by simp; omega)
      have c7 := hQ5.cell 1 rfl
      have f7 := hQ5.frz 1
      have HQ6 := Lib.hid (hQ5.set 1 (.string (strOf (pathB y))))
      have HZ6 := Lib.hid ((HZ4.out.upd hU5 (by simp; omega)).setFar (a := ⟨q, 1, none⟩) (.string (strOf (pathB y))) hrq)
      have HD6 := Lib.hid (hD5.upd ((Upd.refl [q] w5).setCell (p := ⟨q, 1, none⟩) (.inl (by simp)) (.string (strOf (pathB y)))) (by simp; omega))
      have HU6 := Lib.hid ((HU4.out.then hU5).setCell (p := ⟨q, 1, none⟩) (.inr (by rw [HR0.out]; show r0 ≤ q; omega)) (.string (strOf (pathB y))))
      clear hQ5 hD5 hU5 HCL HQ4 HZ4 HD4 HU4
      have hzz := HZ6.out
      have z0 := hzz.cell 0 rfl
      have z1 := hzz.cell 1 rfl
      have z2 := hzz.cell 2 rfl
      have z3 := hzz.cell 3 rfl
      have z4 := hzz.cell 4 rfl
      have z5 := hzz.cell 5 rfl
      have z6 := hzz.cell 6 rfl
      have z7 := hzz.cell 7 rfl
      have z8 := hzz.cell 8 rfl
      have g0 := hzz.frz 0
      have g1 := hzz.frz 1
      have g2 := hzz.frz 2
      have g3 := hzz.frz 3
      have g4 := hzz.frz 4
      have g5 := hzz.frz 5
      have g6 := hzz.frz 6
      have g7 := hzz.frz 7
      have g8 := hzz.frz 8
      have hqq := HQ6.out
      have cc0 := hqq.cell 0 rfl
      have cc1 := hqq.cell 1 rfl
      have cc2 := hqq.cell 2 rfl
      have cc3 := hqq.cell 3 rfl
      have cc4 := hqq.cell 4 rfl
      have cc5 := hqq.cell 5 rfl
      have cc6 := hqq.cell 6 rfl
      have cc7 := hqq.cell 7 rfl
      have cc8 := hqq.cell 8 rfl
      have HZZ := Lib.hid hzz
      have HUU := Lib.hid HU6.out
      have HDD := Lib.hid HD6.out
      have HRR : Hid (CalmRel x (⟨2, pathB y, [], 0, 0, 0, [], 0⟩ : EvD) ((pathR y).2)) := Lib.hid ⟨by rw [HKK.out]; rfl, .inr (.inr (.inl ⟨rfl, by rw [HY.out], rfl, rfl, by rw [HY.out], rfl, rfl, rfl, rfl⟩))⟩
      clear hzz hqq
      go_wp2_with fail
      (try simp only [Exit.inBlock, Exit.then]); refine bodyPost_ret (results_ev rfl _ _ r0 _ _ _ _ _ _ _ _ _ rfl (Blk.set9e HZZ.out _ _ _ _ _ _ _ _ _)) rfl ⟨(⟨2, pathB y, [], 0, 0, 0, [], 0⟩ : EvD), _, rfl, HRR.out, ?_, Upd.set9e HUU.out (.inr (by rw [HR0.out]; exact Nat.le_refl _)) _ _ _ _ _ _ _ _ _⟩
      exact HDD.out.upd (Upd.set9e (Upd.refl [r0] _) (.inl (by simp)) _ _ _ _ _ _ _ _ _) (by simp; omega)
  · rcases h with rfl
    all_goals
      have d0 := dk
      change _ = some (Value.int .i64 3) at d0
      clear dk
      have hQ4 := Blk.new w1 (evCells 3) 143
      have hM4 := HM2.out.alloc (.cells (evCells 3).toArray 143)
      have hZ4 := HZ2.out.alloc (.cells (evCells 3).toArray 143)
      have hD4 := HD2.out.upd ((Upd.refl [] w1).alloc (.cells (evCells 3).toArray 143)) (by simp)
      have hU4 := HU2.out.alloc (.cells (evCells 3).toArray 143)
      have hsz4 : (w1.alloc (.cells (evCells 3).toArray 143)).heap.size = w1.heap.size + 1 := World.size_alloc _ _
      clear hk HD2 HM2 HZ2 HU2
      go_upto_region 3 with fail
      change Code.wp _ _ _ _ (w1.alloc (.cells (evCells 3).toArray 143))
      generalize w1.alloc (.cells (evCells 3).toArray 143) = w4 at *
      generalize w1.heap.size = q at *
      have hbq : b ≠ q := by omega
      have hmq : mb ≠ q := by omega
      have hrq : r0 ≠ q := by omega
      have hbr : b ≠ r0 := by omega
      have hmr : mb ≠ r0 := by omega
      have HQ4 := Lib.hid hQ4
      have HM4 := Lib.hid hM4
      have HZ4 := Lib.hid hZ4
      have HD4 := Lib.hid hD4
      have HU4 := Lib.hid hU4
      clear hQ4 hM4 hZ4 hD4 hU4 d0
      have p0 := HM4.out.cell 0 rfl
      have c0 := HQ4.out.cell 0 rfl
      have hq0 : w.heap.size ≤ q := by rw [HR0.out]; omega
      have HPA := Lib.hid (fun W (h : DiceB W b y) => dpath_any b y W h)
      have HPB := Lib.hid (fun W (h : DiceB W b (pathR y).2) => dpath_any b (pathR y).2 W h)
      go_wp2
      refine wp_region_held_drew (S := fun w' => Upd [b, q] w4 w') (by kernel_rfl) (Upd.refl _ _).drew (fun hHeld => ?_)
      change wpAnyH _ _ _ _ _ 14 #[false, false, false, false, false, false, false, false, false, false, false, false, false, false] _ _
      refine heldTake (i := 0) (d := some 54) (v := ?v0_57) rfl rfl (by kernel_rfl) (by kernel_rfl) (by kernel_rfl) (fun _ _ _ h => h) (by rfl) ?hy0_57 (by assumption) ?r0_57
      case hy0_57 => (intro w hSw; (try dsimp only at hSw); go_simp; try with_reducible rfl)
      try simp only [Act.put, List.setIfInBounds_toArray, List.set_cons_zero, List.set_cons_succ]
      change wpAnyH _ _ _ _ _ 13 #[true, false, false, false, false, false, false, false, false, false, false, false, false, false] _ _
      refine heldTake (i := 1) (d := some 55) (v := ?v1_58) rfl rfl (by kernel_rfl) (by kernel_rfl) (by kernel_rfl) (fun _ _ _ h => h) (by rfl) ?hy1_58 (by assumption) ?r1_58
      case hy1_58 => (intro w hSw; (try dsimp only at hSw); go_simp; try with_reducible rfl)
      try simp only [Act.put, List.setIfInBounds_toArray, List.set_cons_zero, List.set_cons_succ]
      change wpAnyH _ _ _ _ _ 12 #[true, true, false, false, false, false, false, false, false, false, false, false, false, false] _ _
      refine heldTake (i := 2) (d := some 56) (v := ?v2_59) rfl rfl (by kernel_rfl) (by kernel_rfl) (by kernel_rfl) (fun _ _ _ h => h) (by rfl) ?hy2_59 (by assumption) ?r2_59
      case hy2_59 => (intro w hSw; (try dsimp only at hSw); go_simp; try with_reducible rfl)
      try simp only [Act.put, List.setIfInBounds_toArray, List.set_cons_zero, List.set_cons_succ]
      change wpAnyH _ _ _ _ _ 11 #[true, true, true, false, false, false, false, false, false, false, false, false, false, false] _ _
      refine heldTake (i := 3) (d := some 57) (v := ?v3_60) rfl rfl (by kernel_rfl) (by kernel_rfl) (by kernel_rfl) (fun _ _ _ h => h) (by rfl) ?hy3_60 (by assumption) ?r3_60
      case hy3_60 => (intro wz hSw; have q0 := (HM4.out.upd hSw (by simp; omega)).cell 0 rfl; go_simp; try with_reducible rfl)
      try simp only [Act.put, List.setIfInBounds_toArray, List.set_cons_zero, List.set_cons_succ]
      change wpAnyH _ _ _ _ _ 10 #[true, true, true, true, false, false, false, false, false, false, false, false, false, false] _ _
      refine heldTake (i := 5) (d := some 59) (v := ?v5_61) rfl rfl (by kernel_rfl) (by kernel_rfl) (by kernel_rfl) (fun _ _ _ h => h) (by rfl) ?hy5_61 (by assumption) ?r5_61
      case hy5_61 => (intro w hSw; (try dsimp only at hSw); go_simp; try with_reducible rfl)
      try simp only [Act.put, List.setIfInBounds_toArray, List.set_cons_zero, List.set_cons_succ]
      change wpAnyH _ _ _ _ _ 9 #[true, true, true, true, false, true, false, false, false, false, false, false, false, false] _ _
      refine heldTake (i := 6) (d := some 60) (v := ?v6_62) rfl rfl (by kernel_rfl) (by kernel_rfl) (by kernel_rfl) (fun _ _ _ h => h) (by rfl) ?hy6_62 (by assumption) ?r6_62
      case hy6_62 => (intro w hSw; (try dsimp only at hSw); go_simp; try with_reducible rfl)
      try simp only [Act.put, List.setIfInBounds_toArray, List.set_cons_zero, List.set_cons_succ]
      change wpAnyH _ _ _ _ _ 8 #[true, true, true, true, false, true, true, false, false, false, false, false, false, false] _ _
      refine heldTake (i := 7) (d := some 61) (v := ?v7_63) rfl rfl (by kernel_rfl) (by kernel_rfl) (by kernel_rfl) (fun _ _ _ h => h) (by rfl) ?hy7_63 (by assumption) ?r7_63
      case hy7_63 => (intro w hSw; (try dsimp only at hSw); go_simp; try with_reducible rfl)
      try simp only [Act.put, List.setIfInBounds_toArray, List.set_cons_zero, List.set_cons_succ]
      change wpAnyH _ _ _ _ _ 7 #[true, true, true, true, false, true, true, true, false, false, false, false, false, false] _ _
      refine heldTake (i := 8) (d := some 62) (v := ?v8_64) rfl rfl (by kernel_rfl) (by kernel_rfl) (by kernel_rfl) (fun _ _ _ h => h) (by rfl) ?hy8_64 (by assumption) ?r8_64
      case hy8_64 => (intro wz hSw; have q0 := (HM4.out.upd hSw (by simp; omega)).cell 0 rfl; go_simp; try with_reducible rfl)
      try simp only [Act.put, List.setIfInBounds_toArray, List.set_cons_zero, List.set_cons_succ]
      change wpAnyH _ _ _ _ _ 6 #[true, true, true, true, false, true, true, true, true, false, false, false, false, false] _ _
      refine wpAnyH_ready (rs := [4]) (by kernel_rfl) (by simp) ?_
      refine AllReadyH.cons rfl (fun K hK => ?_) AllReadyH.nil
      go_simp
      refine (HPA.out _ (by first | exact HD4.out.drew | exact HD4.out)).mono ?_
      rintro e z1 ⟨rfl, hD1, hU1⟩
      have hS1 : Upd [b, q] w4 z1 := hHeld.trans hU1 (fun k hk => .inl (by simp at hk; simp [hk]))
      have hQ1 := (show Blk w4.drew q (evCells 3) 143 from HQ4.out.drew).upd hU1 (by simp; omega)
      have hZ1 := (show Blk w4.drew r0 zeroEv 143 from HZ4.out.drew).upd hU1 (by simp; omega)
      have HW1 := Lib.hid ((HU4.out.drew).then hU1)
      have HD1 := Lib.hid hD1
      have HQ1 := Lib.hid hQ1
      have HZ1 := Lib.hid hZ1
      clear hD1 hU1 hQ1 hZ1
      go_wp2
      refine hK.out _ _ hS1 (fun hHeld => ?_)
      clear hK K
      try simp only [Act.put, List.setIfInBounds_toArray, List.set_cons_zero, List.set_cons_succ]
      change wpAnyH _ _ _ _ _ 5 #[true, true, true, true, true, true, true, true, true, false, false, false, false, false] _ _
      refine heldTake (i := 10) (d := some 64) (v := ?v10_66) rfl rfl (by kernel_rfl) (by kernel_rfl) (by kernel_rfl) (fun _ _ _ h => h) (by rfl) ?hy10_66 (by assumption) ?r10_66
      case hy10_66 => (intro w hSw; (try dsimp only at hSw); go_simp; try with_reducible rfl)
      try simp only [Act.put, List.setIfInBounds_toArray, List.set_cons_zero, List.set_cons_succ]
      change wpAnyH _ _ _ _ _ 4 #[true, true, true, true, true, true, true, true, true, false, true, false, false, false] _ _
      refine wpAnyH_ready (rs := [9]) (by kernel_rfl) (by simp) ?_
      refine AllReadyH.cons rfl (fun K hK => ?_) AllReadyH.nil
      go_simp
      refine (HPB.out _ (by first | exact HD1.out | exact HD1.out.drew)).mono ?_
      rintro e z2 ⟨rfl, hD2, hU2⟩
      have hS2 : Upd [b, q] w4 z2 := hHeld.trans hU2 (fun k hk => .inl (by simp at hk; simp [hk]))
      have hQ2 := HQ1.out.upd hU2 (by simp; omega)
      have HZ2 := Lib.hid (HZ1.out.upd hU2 (by simp; omega))
      have HW2 := Lib.hid (HW1.out.then hU2)
      have HD2 := Lib.hid hD2
      have k1 := hQ2.cell 1 rfl
      have f1 := hQ2.frz 1
      have k2 := hQ2.cell 2 rfl
      have f2 := hQ2.frz 2
      have HQ2 := Lib.hid hQ2
      clear hD2 hU2 hQ2
      go_wp2
      refine hK.out _ _ hS2 (fun hHeld => ?_)
      clear hK K
      try simp only [Act.put, List.setIfInBounds_toArray, List.set_cons_zero, List.set_cons_succ]
      change wpAnyH _ _ _ _ _ 3 #[true, true, true, true, true, true, true, true, true, true, true, false, false, false] _ _
      refine wpAnyH_ready (rs := [11]) (by kernel_rfl) (by simp) ?_
      refine AllReadyH.cons rfl (fun K hK => ?_) AllReadyH.nil
      go_simp
      go_wp2
      refine hK.out _ _ (hS2.setCell (p := ⟨q, 1, none⟩) (.inl (by simp)) (.string (strOf (pathB y)))) (fun hHeld => ?_)
      clear hK K
      try simp only [Act.put, List.setIfInBounds_toArray, List.set_cons_zero, List.set_cons_succ]
      change wpAnyH _ _ _ _ _ 2 #[true, true, true, true, true, true, true, true, true, true, true, true, false, false] _ _
      refine heldTake (i := 12) (d := some 65) (v := ?v12_69) rfl rfl (by kernel_rfl) (by kernel_rfl) (by kernel_rfl) (fun _ _ _ h => h) (by rfl) ?hy12_69 (by assumption) ?r12_69
      case hy12_69 => (intro w hSw; (try dsimp only at hSw); go_simp; try with_reducible rfl)
      try simp only [Act.put, List.setIfInBounds_toArray, List.set_cons_zero, List.set_cons_succ]
      change wpAnyH _ _ _ _ _ 1 #[true, true, true, true, true, true, true, true, true, true, true, true, true, false] _ _
      refine wpAnyH_ready (rs := [13]) (by kernel_rfl) (by simp) ?_
      refine AllReadyH.cons rfl (fun K hK => ?_) AllReadyH.nil
      go_simp
      go_wp2
      refine hK.out _ _ ((hS2.setCell (p := ⟨q, 1, none⟩) (.inl (by simp)) (.string (strOf (pathB y)))).setCell (p := ⟨q, 2, none⟩) (.inl (by simp)) (.string (strOf (pathB (pathR y).2)))) (fun hHeld => ?_)
      clear hK K
      try simp only [Act.put, List.setIfInBounds_toArray, List.set_cons_zero, List.set_cons_succ]
      change wpAnyH _ _ _ _ _ 0 #[true, true, true, true, true, true, true, true, true, true, true, true, true, true] _ _
      refine wpAnyH_done (by kernel_rfl) ?_ 0
      have HQ6 := Lib.hid ((HQ2.out.set 1 (.string (strOf (pathB y)))).set 2 (.string (strOf (pathB (pathR y).2))))
      have HZ6 := Lib.hid ((HZ2.out.setFar (a := ⟨q, 1, none⟩) (.string (strOf (pathB y))) hrq).setFar (a := ⟨q, 2, none⟩) (.string (strOf (pathB (pathR y).2))) hrq)
      have HU6 := Lib.hid ((HW2.out.setCell (p := ⟨q, 1, none⟩) (.inr hq0) (.string (strOf (pathB y)))).setCell (p := ⟨q, 2, none⟩) (.inr hq0) (.string (strOf (pathB (pathR y).2))))
      have HD6 := Lib.hid (HD2.out.upd (((Upd.refl [q] z2).setCell (p := ⟨q, 1, none⟩) (.inl (by simp)) (.string (strOf (pathB y)))).setCell (p := ⟨q, 2, none⟩) (.inl (by simp)) (.string (strOf (pathB (pathR y).2)))) (by simp; omega))
      have HM6 := Lib.hid (HM4.out.upd hHeld (by simp; omega))
      clear hS2 hHeld hS1 HZ2 HW2 HD2 HQ2 HD1 HQ1 HZ1 HW1 k1 f1 k2 f2
      generalize ((z2.setCell ⟨q, 1, none⟩ (.string (strOf (pathB y)))).setCell ⟨q, 2, none⟩ (.string (strOf (pathB (pathR y).2)))) = z6 at *
      have hzz := HZ6.out
      have z0 := hzz.cell 0 rfl
      have z1 := hzz.cell 1 rfl
      have z2 := hzz.cell 2 rfl
      have z3 := hzz.cell 3 rfl
      have z4 := hzz.cell 4 rfl
      have z5 := hzz.cell 5 rfl
      have z6 := hzz.cell 6 rfl
      have z7 := hzz.cell 7 rfl
      have z8 := hzz.cell 8 rfl
      have g0 := hzz.frz 0
      have g1 := hzz.frz 1
      have g2 := hzz.frz 2
      have g3 := hzz.frz 3
      have g4 := hzz.frz 4
      have g5 := hzz.frz 5
      have g6 := hzz.frz 6
      have g7 := hzz.frz 7
      have g8 := hzz.frz 8
      have hqq := HQ6.out
      have cc0 := hqq.cell 0 rfl
      have cc1 := hqq.cell 1 rfl
      have cc2 := hqq.cell 2 rfl
      have cc3 := hqq.cell 3 rfl
      have cc4 := hqq.cell 4 rfl
      have cc5 := hqq.cell 5 rfl
      have cc6 := hqq.cell 6 rfl
      have cc7 := hqq.cell 7 rfl
      have cc8 := hqq.cell 8 rfl
      have HZZ := Lib.hid hzz
      have HUU := Lib.hid HU6.out
      have HDD := Lib.hid HD6.out
      have HRR : Hid (CalmRel x (⟨3, pathB y, pathB (pathR y).2, 0, 0, 0, [], 0⟩ : EvD) ((pathR (pathR y).2).2)) := Lib.hid ⟨by rw [HKK.out]; rfl, .inr (.inr (.inr (.inl ⟨rfl, by rw [HY.out], by rw [HY.out], rfl, by rw [HY.out], rfl, rfl, rfl, rfl⟩)))⟩
      clear hzz hqq
      go_wp2_with fail
      (try simp only [Exit.inBlock, Exit.then]); refine bodyPost_ret (results_ev rfl _ _ r0 _ _ _ _ _ _ _ _ _ rfl (Blk.set9e HZZ.out _ _ _ _ _ _ _ _ _)) rfl ⟨(⟨3, pathB y, pathB (pathR y).2, 0, 0, 0, [], 0⟩ : EvD), _, rfl, HRR.out, ?_, Upd.set9e HUU.out (.inr (by rw [HR0.out]; exact Nat.le_refl _)) _ _ _ _ _ _ _ _ _⟩
      exact HDD.out.upd (Upd.set9e (Upd.refl [r0] _) (.inl (by simp)) _ _ _ _ _ _ _ _ _) (by simp; omega)
  · rcases h with rfl | rfl | rfl
    · have d0 := dk
      change _ = some (Value.int .i64 4) at d0
      clear dk
      have hQ4 := Blk.new w1 (evCells 4) 143
      have hM4 := HM2.out.alloc (.cells (evCells 4).toArray 143)
      have hZ4 := HZ2.out.alloc (.cells (evCells 4).toArray 143)
      have hD4 := HD2.out.upd ((Upd.refl [] w1).alloc (.cells (evCells 4).toArray 143)) (by simp)
      have hU4 := HU2.out.alloc (.cells (evCells 4).toArray 143)
      have hsz4 : (w1.alloc (.cells (evCells 4).toArray 143)).heap.size = w1.heap.size + 1 := World.size_alloc _ _
      clear hk HD2 HM2 HZ2 HU2
      go_upto_region 3 with fail
      change Code.wp _ _ _ _ (w1.alloc (.cells (evCells 4).toArray 143))
      generalize w1.alloc (.cells (evCells 4).toArray 143) = w4 at *
      generalize w1.heap.size = q at *
      have hbq : b ≠ q := by omega
      have hmq : mb ≠ q := by omega
      have hrq : r0 ≠ q := by omega
      have hbr : b ≠ r0 := by omega
      have hmr : mb ≠ r0 := by omega
      have HQ4 := Lib.hid hQ4
      have HM4 := Lib.hid hM4
      have HZ4 := Lib.hid hZ4
      have HD4 := Lib.hid hD4
      have HU4 := Lib.hid hU4
      clear hQ4 hM4 hZ4 hD4 hU4 d0
      have p0 := HM4.out.cell 0 rfl
      have c0 := HQ4.out.cell 0 rfl
      have hq0 : w.heap.size ≤ q := by rw [HR0.out]; omega
      have HPA := Lib.hid (fun W (h : DiceB W b y) => dpath_any b y W h)
      have HPB := Lib.hid (fun W (h : DiceB W b (pathR y).2) => dnode_any b (pathR y).2 W h)
      go_wp2
      refine wp_region_held_drew (S := fun w' => Upd [b, q] w4 w') (by kernel_rfl) (Upd.refl _ _).drew (fun hHeld => ?_)
      change wpAnyH _ _ _ _ _ 14 #[false, false, false, false, false, false, false, false, false, false, false, false, false, false] _ _
      refine heldTake (i := 0) (d := some 19) (v := ?v0_71) rfl rfl (by kernel_rfl) (by kernel_rfl) (by kernel_rfl) (fun _ _ _ h => h) (by rfl) ?hy0_71 (by assumption) ?r0_71
      case hy0_71 => (intro w hSw; (try dsimp only at hSw); go_simp; try with_reducible rfl)
      try simp only [Act.put, List.setIfInBounds_toArray, List.set_cons_zero, List.set_cons_succ]
      change wpAnyH _ _ _ _ _ 13 #[true, false, false, false, false, false, false, false, false, false, false, false, false, false] _ _
      refine heldTake (i := 1) (d := some 20) (v := ?v1_72) rfl rfl (by kernel_rfl) (by kernel_rfl) (by kernel_rfl) (fun _ _ _ h => h) (by rfl) ?hy1_72 (by assumption) ?r1_72
      case hy1_72 => (intro w hSw; (try dsimp only at hSw); go_simp; try with_reducible rfl)
      try simp only [Act.put, List.setIfInBounds_toArray, List.set_cons_zero, List.set_cons_succ]
      change wpAnyH _ _ _ _ _ 12 #[true, true, false, false, false, false, false, false, false, false, false, false, false, false] _ _
      refine heldTake (i := 2) (d := some 21) (v := ?v2_73) rfl rfl (by kernel_rfl) (by kernel_rfl) (by kernel_rfl) (fun _ _ _ h => h) (by rfl) ?hy2_73 (by assumption) ?r2_73
      case hy2_73 => (intro w hSw; (try dsimp only at hSw); go_simp; try with_reducible rfl)
      try simp only [Act.put, List.setIfInBounds_toArray, List.set_cons_zero, List.set_cons_succ]
      change wpAnyH _ _ _ _ _ 11 #[true, true, true, false, false, false, false, false, false, false, false, false, false, false] _ _
      refine heldTake (i := 3) (d := some 22) (v := ?v3_74) rfl rfl (by kernel_rfl) (by kernel_rfl) (by kernel_rfl) (fun _ _ _ h => h) (by rfl) ?hy3_74 (by assumption) ?r3_74
      case hy3_74 => (intro wz hSw; have q0 := (HM4.out.upd hSw (by simp; omega)).cell 0 rfl; go_simp; try with_reducible rfl)
      try simp only [Act.put, List.setIfInBounds_toArray, List.set_cons_zero, List.set_cons_succ]
      change wpAnyH _ _ _ _ _ 10 #[true, true, true, true, false, false, false, false, false, false, false, false, false, false] _ _
      refine heldTake (i := 5) (d := some 24) (v := ?v5_75) rfl rfl (by kernel_rfl) (by kernel_rfl) (by kernel_rfl) (fun _ _ _ h => h) (by rfl) ?hy5_75 (by assumption) ?r5_75
      case hy5_75 => (intro w hSw; (try dsimp only at hSw); go_simp; try with_reducible rfl)
      try simp only [Act.put, List.setIfInBounds_toArray, List.set_cons_zero, List.set_cons_succ]
      change wpAnyH _ _ _ _ _ 9 #[true, true, true, true, false, true, false, false, false, false, false, false, false, false] _ _
      refine heldTake (i := 6) (d := some 25) (v := ?v6_76) rfl rfl (by kernel_rfl) (by kernel_rfl) (by kernel_rfl) (fun _ _ _ h => h) (by rfl) ?hy6_76 (by assumption) ?r6_76
      case hy6_76 => (intro w hSw; (try dsimp only at hSw); go_simp; try with_reducible rfl)
      try simp only [Act.put, List.setIfInBounds_toArray, List.set_cons_zero, List.set_cons_succ]
      change wpAnyH _ _ _ _ _ 8 #[true, true, true, true, false, true, true, false, false, false, false, false, false, false] _ _
      refine heldTake (i := 7) (d := some 26) (v := ?v7_77) rfl rfl (by kernel_rfl) (by kernel_rfl) (by kernel_rfl) (fun _ _ _ h => h) (by rfl) ?hy7_77 (by assumption) ?r7_77
      case hy7_77 => (intro w hSw; (try dsimp only at hSw); go_simp; try with_reducible rfl)
      try simp only [Act.put, List.setIfInBounds_toArray, List.set_cons_zero, List.set_cons_succ]
      change wpAnyH _ _ _ _ _ 7 #[true, true, true, true, false, true, true, true, false, false, false, false, false, false] _ _
      refine heldTake (i := 8) (d := some 27) (v := ?v8_78) rfl rfl (by kernel_rfl) (by kernel_rfl) (by kernel_rfl) (fun _ _ _ h => h) (by rfl) ?hy8_78 (by assumption) ?r8_78
      case hy8_78 => (intro wz hSw; have q0 := (HM4.out.upd hSw (by simp; omega)).cell 0 rfl; go_simp; try with_reducible rfl)
      try simp only [Act.put, List.setIfInBounds_toArray, List.set_cons_zero, List.set_cons_succ]
      change wpAnyH _ _ _ _ _ 6 #[true, true, true, true, false, true, true, true, true, false, false, false, false, false] _ _
      refine wpAnyH_ready (rs := [4]) (by kernel_rfl) (by simp) ?_
      refine AllReadyH.cons rfl (fun K hK => ?_) AllReadyH.nil
      go_simp
      refine (HPA.out _ (by first | exact HD4.out.drew | exact HD4.out)).mono ?_
      rintro e z1 ⟨rfl, hD1, hU1⟩
      have hS1 : Upd [b, q] w4 z1 := hHeld.trans hU1 (fun k hk => .inl (by simp at hk; simp [hk]))
      have hQ1 := (show Blk w4.drew q (evCells 4) 143 from HQ4.out.drew).upd hU1 (by simp; omega)
      have hZ1 := (show Blk w4.drew r0 zeroEv 143 from HZ4.out.drew).upd hU1 (by simp; omega)
      have HW1 := Lib.hid ((HU4.out.drew).then hU1)
      have HD1 := Lib.hid hD1
      have HQ1 := Lib.hid hQ1
      have HZ1 := Lib.hid hZ1
      clear hD1 hU1 hQ1 hZ1
      go_wp2
      refine hK.out _ _ hS1 (fun hHeld => ?_)
      clear hK K
      try simp only [Act.put, List.setIfInBounds_toArray, List.set_cons_zero, List.set_cons_succ]
      change wpAnyH _ _ _ _ _ 5 #[true, true, true, true, true, true, true, true, true, false, false, false, false, false] _ _
      refine heldTake (i := 10) (d := some 29) (v := ?v10_80) rfl rfl (by kernel_rfl) (by kernel_rfl) (by kernel_rfl) (fun _ _ _ h => h) (by rfl) ?hy10_80 (by assumption) ?r10_80
      case hy10_80 => (intro w hSw; (try dsimp only at hSw); go_simp; try with_reducible rfl)
      try simp only [Act.put, List.setIfInBounds_toArray, List.set_cons_zero, List.set_cons_succ]
      change wpAnyH _ _ _ _ _ 4 #[true, true, true, true, true, true, true, true, true, false, true, false, false, false] _ _
      refine wpAnyH_ready (rs := [9]) (by kernel_rfl) (by simp) ?_
      refine AllReadyH.cons rfl (fun K hK => ?_) AllReadyH.nil
      go_simp
      refine (HPB.out _ (by first | exact HD1.out | exact HD1.out.drew)).mono ?_
      rintro e z2 ⟨k2, m2, t2, D2, x2, rfl, hrel2, hD2, hU2⟩
      unfold nodeV
      have hS2 : Upd [b, q] w4 z2 := hHeld.trans hU2 (fun k hk => .inl (by simp at hk; simp [hk]))
      have hQ2 := HQ1.out.upd hU2 (by simp; omega)
      have HZ2 := Lib.hid (HZ1.out.upd hU2 (by simp; omega))
      have HW2 := Lib.hid (HW1.out.then hU2)
      have HD2 := Lib.hid hD2
      have HNR := Lib.hid hrel2
      have k1 := hQ2.cell 1 rfl
      have f1 := hQ2.frz 1
      have k3 := hQ2.cell 3 rfl
      have f3 := hQ2.frz 3
      have k4 := hQ2.cell 4 rfl
      have f4 := hQ2.frz 4
      have k5 := hQ2.cell 5 rfl
      have f5 := hQ2.frz 5
      have k6 := hQ2.cell 6 rfl
      have f6 := hQ2.frz 6
      have HQ2 := Lib.hid hQ2
      clear hD2 hU2 hQ2 hrel2
      go_wp2
      refine hK.out _ _ hS2 (fun hHeld => ?_)
      clear hK K
      try simp only [Act.put, List.setIfInBounds_toArray, List.set_cons_zero, List.set_cons_succ]
      change wpAnyH _ _ _ _ _ 3 #[true, true, true, true, true, true, true, true, true, true, true, false, false, false] _ _
      refine wpAnyH_ready (rs := [11]) (by kernel_rfl) (by simp) ?_
      refine AllReadyH.cons rfl (fun K hK => ?_) AllReadyH.nil
      go_simp
      go_wp2
      refine hK.out _ _ (hS2.setCell (p := ⟨q, 1, none⟩) (.inl (by simp)) (.string (strOf (pathB y)))) (fun hHeld => ?_)
      clear hK K
      try simp only [Act.put, List.setIfInBounds_toArray, List.set_cons_zero, List.set_cons_succ]
      change wpAnyH _ _ _ _ _ 2 #[true, true, true, true, true, true, true, true, true, true, true, true, false, false] _ _
      refine heldTake (i := 12) (d := some 30) (v := ?v12_83) rfl rfl (by kernel_rfl) (by kernel_rfl) (by kernel_rfl) (fun _ _ _ h => h) (by rfl) ?hy12_83 (by assumption) ?r12_83
      case hy12_83 => (intro w hSw; (try dsimp only at hSw); go_simp; try with_reducible rfl)
      try simp only [Act.put, List.setIfInBounds_toArray, List.set_cons_zero, List.set_cons_succ]
      change wpAnyH _ _ _ _ _ 1 #[true, true, true, true, true, true, true, true, true, true, true, true, true, false] _ _
      refine wpAnyH_ready (rs := [13]) (by kernel_rfl) (by simp) ?_
      refine AllReadyH.cons rfl (fun K hK => ?_) AllReadyH.nil
      go_simp
      go_wp2
      refine hK.out _ _ (((((hS2.setCell (p := ⟨q, 1, none⟩) (.inl (by simp)) (.string (strOf (pathB y)))).setCell (p := ⟨q, 3, none⟩) (.inl (by simp)) (.int .i64 (k2 : Nat))).setCell (p := ⟨q, 4, none⟩) (.inl (by simp)) (.int .i64 (m2 : Nat))).setCell (p := ⟨q, 5, none⟩) (.inl (by simp)) (.int .u32 (t2 : Nat))).setCell (p := ⟨q, 6, none⟩) (.inl (by simp)) (.string (strOf D2))) (fun hHeld => ?_)
      clear hK K
      try simp only [Act.put, List.setIfInBounds_toArray, List.set_cons_zero, List.set_cons_succ]
      change wpAnyH _ _ _ _ _ 0 #[true, true, true, true, true, true, true, true, true, true, true, true, true, true] _ _
      refine wpAnyH_done (by kernel_rfl) ?_ 0
      have HQ6 := Lib.hid (((((HQ2.out.set 1 (.string (strOf (pathB y)))).set 3 (.int .i64 (k2 : Nat))).set 4 (.int .i64 (m2 : Nat))).set 5 (.int .u32 (t2 : Nat))).set 6 (.string (strOf D2)))
      have HZ6 := Lib.hid (((((HZ2.out.setFar (a := ⟨q, 1, none⟩) (.string (strOf (pathB y))) hrq).setFar (a := ⟨q, 3, none⟩) (.int .i64 (k2 : Nat)) hrq).setFar (a := ⟨q, 4, none⟩) (.int .i64 (m2 : Nat)) hrq).setFar (a := ⟨q, 5, none⟩) (.int .u32 (t2 : Nat)) hrq).setFar (a := ⟨q, 6, none⟩) (.string (strOf D2)) hrq)
      have HU6 := Lib.hid (((((HW2.out.setCell (p := ⟨q, 1, none⟩) (.inr hq0) (.string (strOf (pathB y)))).setCell (p := ⟨q, 3, none⟩) (.inr hq0) (.int .i64 (k2 : Nat))).setCell (p := ⟨q, 4, none⟩) (.inr hq0) (.int .i64 (m2 : Nat))).setCell (p := ⟨q, 5, none⟩) (.inr hq0) (.int .u32 (t2 : Nat))).setCell (p := ⟨q, 6, none⟩) (.inr hq0) (.string (strOf D2)))
      have HD6 := Lib.hid (HD2.out.upd ((((((Upd.refl [q] z2).setCell (p := ⟨q, 1, none⟩) (.inl (by simp)) (.string (strOf (pathB y)))).setCell (p := ⟨q, 3, none⟩) (.inl (by simp)) (.int .i64 (k2 : Nat))).setCell (p := ⟨q, 4, none⟩) (.inl (by simp)) (.int .i64 (m2 : Nat))).setCell (p := ⟨q, 5, none⟩) (.inl (by simp)) (.int .u32 (t2 : Nat))).setCell (p := ⟨q, 6, none⟩) (.inl (by simp)) (.string (strOf D2))) (by simp; omega))
      have HM6 := Lib.hid (HM4.out.upd hHeld (by simp; omega))
      clear hS2 hHeld hS1 HZ2 HW2 HD2 HQ2 HD1 HQ1 HZ1 HW1 k1 f1 k3 f3 k4 f4 k5 f5 k6 f6
      generalize (((((z2.setCell ⟨q, 1, none⟩ (.string (strOf (pathB y)))).setCell ⟨q, 3, none⟩ (.int .i64 (k2 : Nat))).setCell ⟨q, 4, none⟩ (.int .i64 (m2 : Nat))).setCell ⟨q, 5, none⟩ (.int .u32 (t2 : Nat))).setCell ⟨q, 6, none⟩ (.string (strOf D2))) = z6 at *
      have c0 := HQ6.out.cell 0 rfl
      have p6 := HM6.out.cell 0 rfl
      have HB3 := Lib.hid (dbelow_any b x2 3 z6 HD6.out (by omega))
      go_wp2_with fail
      refine HB3.out.mono ?_
      rintro e z7 ⟨rfl, hD7, hU7⟩
      have HQ7 := Lib.hid (HQ6.out.upd hU7 (by simp; omega))
      have HZ7 := Lib.hid (HZ6.out.upd hU7 (by simp; omega))
      have HU7 := Lib.hid (HU6.out.then hU7)
      have HD7 := Lib.hid hD7
      clear hD7 hU7 HB3 HQ6 HZ6 HU6 HD6 c0 p6
      by_cases h0 : belowI x2 3 = 0
      · have H0 := Lib.hid h0
        rw [h0]
        clear h0
        have hQ7 := HQ7.out
        have k3 := hQ7.cell 3 rfl
        have k4 := hQ7.cell 4 rfl
        have k5 := hQ7.cell 5 rfl
        have k6 := hQ7.cell 6 rfl
        have f3 := hQ7.frz 3
        have f4 := hQ7.frz 4
        have f5 := hQ7.frz 5
        have f6 := hQ7.frz 6
        clear hQ7
        have HQ8 := Lib.hid ((((HQ7.out.set 3 (.int .i64 0)).set 4 (.int .i64 0)).set 5 (.int .u32 0)).set 6 (.string { data := #[] }))
        have HZ8 := Lib.hid ((((HZ7.out.setFar (a := ⟨q, 3, none⟩) (.int .i64 0) hrq).setFar (a := ⟨q, 4, none⟩) (.int .i64 0) hrq).setFar (a := ⟨q, 5, none⟩) (.int .u32 0) hrq).setFar (a := ⟨q, 6, none⟩) (.string { data := #[] }) hrq)
        have HU8 := Lib.hid ((((HU7.out.setCell (p := ⟨q, 3, none⟩) (.inr hq0) (.int .i64 0)).setCell (p := ⟨q, 4, none⟩) (.inr hq0) (.int .i64 0)).setCell (p := ⟨q, 5, none⟩) (.inr hq0) (.int .u32 0)).setCell (p := ⟨q, 6, none⟩) (.inr hq0) (.string { data := #[] }))
        have HD8 := Lib.hid (HD7.out.upd (((((Upd.refl [q] z7).setCell (p := ⟨q, 3, none⟩) (.inl (by simp)) (.int .i64 0)).setCell (p := ⟨q, 4, none⟩) (.inl (by simp)) (.int .i64 0)).setCell (p := ⟨q, 5, none⟩) (.inl (by simp)) (.int .u32 0)).setCell (p := ⟨q, 6, none⟩) (.inl (by simp)) (.string { data := #[] })) (by simp; omega))
        clear HQ7 HZ7 HU7 HD7
        go_upto_region 15 with fail
        change Code.wp _ _ _ _ ((((z7.setCell ⟨q, 3, none⟩ (.int .i64 0)).setCell ⟨q, 4, none⟩ (.int .i64 0)).setCell ⟨q, 5, none⟩ (.int .u32 0)).setCell ⟨q, 6, none⟩ (.string { data := #[] }))
        clear k3 k4 k5 k6 f3 f4 f5 f6
        generalize ((((z7.setCell ⟨q, 3, none⟩ (.int .i64 0)).setCell ⟨q, 4, none⟩ (.int .i64 0)).setCell ⟨q, 5, none⟩ (.int .u32 0)).setCell ⟨q, 6, none⟩ (.string { data := #[] })) = z8 at *
        have hzz := HZ8.out
        have z0 := hzz.cell 0 rfl
        have z1 := hzz.cell 1 rfl
        have z2 := hzz.cell 2 rfl
        have z3 := hzz.cell 3 rfl
        have z4 := hzz.cell 4 rfl
        have z5 := hzz.cell 5 rfl
        have z6 := hzz.cell 6 rfl
        have z7 := hzz.cell 7 rfl
        have z8 := hzz.cell 8 rfl
        have g0 := hzz.frz 0
        have g1 := hzz.frz 1
        have g2 := hzz.frz 2
        have g3 := hzz.frz 3
        have g4 := hzz.frz 4
        have g5 := hzz.frz 5
        have g6 := hzz.frz 6
        have g7 := hzz.frz 7
        have g8 := hzz.frz 8
        have hqq := HQ8.out
        have cc0 := hqq.cell 0 rfl
        have cc1 := hqq.cell 1 rfl
        have cc2 := hqq.cell 2 rfl
        have cc3 := hqq.cell 3 rfl
        have cc4 := hqq.cell 4 rfl
        have cc5 := hqq.cell 5 rfl
        have cc6 := hqq.cell 6 rfl
        have cc7 := hqq.cell 7 rfl
        have cc8 := hqq.cell 8 rfl
        have HZZ := Lib.hid hzz
        have HUU := Lib.hid HU8.out
        have HDD := Lib.hid HD8.out
        have HRR : Hid (CalmRel x (⟨4, pathB y, [], 0, 0, 0, [], 0⟩ : EvD) (nextB x2 3)) := Lib.hid ⟨by rw [HKK.out]; rfl, .inr (.inl ⟨rfl, by rw [HY.out], rfl, rfl, k2, m2, t2, D2, x2, by rw [HY.out]; exact HNR.out, rfl, .inl ⟨H0.out, rfl, rfl, rfl, rfl⟩⟩)⟩
        clear hzz hqq
        go_wp2_with fail
        (try simp only [Exit.inBlock, Exit.then]); refine bodyPost_ret (results_ev rfl _ _ r0 _ _ _ _ _ _ _ _ _ rfl (Blk.set9e HZZ.out _ _ _ _ _ _ _ _ _)) rfl ⟨(⟨4, pathB y, [], 0, 0, 0, [], 0⟩ : EvD), _, rfl, HRR.out, ?_, Upd.set9e HUU.out (.inr (by rw [HR0.out]; exact Nat.le_refl _)) _ _ _ _ _ _ _ _ _⟩
        exact HDD.out.upd (Upd.set9e (Upd.refl [r0] _) (.inl (by simp)) _ _ _ _ _ _ _ _ _) (by simp; omega)
      · have H0 := Lib.hid h0
        have h0b : ((belowI x2 3 : Int) == 0) = false := by simpa using h0
        have h0z : ¬ ((belowI x2 3 : Int) = 0) := by omega
        clear h0
        have hzz := HZ7.out
        have z0 := hzz.cell 0 rfl
        have z1 := hzz.cell 1 rfl
        have z2 := hzz.cell 2 rfl
        have z3 := hzz.cell 3 rfl
        have z4 := hzz.cell 4 rfl
        have z5 := hzz.cell 5 rfl
        have z6 := hzz.cell 6 rfl
        have z7 := hzz.cell 7 rfl
        have z8 := hzz.cell 8 rfl
        have g0 := hzz.frz 0
        have g1 := hzz.frz 1
        have g2 := hzz.frz 2
        have g3 := hzz.frz 3
        have g4 := hzz.frz 4
        have g5 := hzz.frz 5
        have g6 := hzz.frz 6
        have g7 := hzz.frz 7
        have g8 := hzz.frz 8
        have hqq := HQ7.out
        have cc0 := hqq.cell 0 rfl
        have cc1 := hqq.cell 1 rfl
        have cc2 := hqq.cell 2 rfl
        have cc3 := hqq.cell 3 rfl
        have cc4 := hqq.cell 4 rfl
        have cc5 := hqq.cell 5 rfl
        have cc6 := hqq.cell 6 rfl
        have cc7 := hqq.cell 7 rfl
        have cc8 := hqq.cell 8 rfl
        have HZZ := Lib.hid hzz
        have HUU := Lib.hid HU7.out
        have HDD := Lib.hid HD7.out
        have HRR : Hid (CalmRel x (⟨4, pathB y, [], k2, m2, t2, D2, 0⟩ : EvD) (nextB x2 3)) := Lib.hid ⟨by rw [HKK.out]; rfl, .inr (.inl ⟨rfl, by rw [HY.out], rfl, rfl, k2, m2, t2, D2, x2, by rw [HY.out]; exact HNR.out, rfl, .inr ⟨H0.out, rfl, rfl, rfl, rfl⟩⟩)⟩
        clear hzz hqq
        go_wp2_with fail
        (try simp only [Exit.inBlock, Exit.then]); refine bodyPost_ret (results_ev rfl _ _ r0 _ _ _ _ _ _ _ _ _ rfl (Blk.set9e HZZ.out _ _ _ _ _ _ _ _ _)) rfl ⟨(⟨4, pathB y, [], k2, m2, t2, D2, 0⟩ : EvD), _, rfl, HRR.out, ?_, Upd.set9e HUU.out (.inr (by rw [HR0.out]; exact Nat.le_refl _)) _ _ _ _ _ _ _ _ _⟩
        exact HDD.out.upd (Upd.set9e (Upd.refl [r0] _) (.inl (by simp)) _ _ _ _ _ _ _ _ _) (by simp; omega)
    · have d0 := dk
      change _ = some (Value.int .i64 4) at d0
      clear dk
      have hQ4 := Blk.new w1 (evCells 4) 143
      have hM4 := HM2.out.alloc (.cells (evCells 4).toArray 143)
      have hZ4 := HZ2.out.alloc (.cells (evCells 4).toArray 143)
      have hD4 := HD2.out.upd ((Upd.refl [] w1).alloc (.cells (evCells 4).toArray 143)) (by simp)
      have hU4 := HU2.out.alloc (.cells (evCells 4).toArray 143)
      have hsz4 : (w1.alloc (.cells (evCells 4).toArray 143)).heap.size = w1.heap.size + 1 := World.size_alloc _ _
      clear hk HD2 HM2 HZ2 HU2
      go_upto_region 3 with fail
      change Code.wp _ _ _ _ (w1.alloc (.cells (evCells 4).toArray 143))
      generalize w1.alloc (.cells (evCells 4).toArray 143) = w4 at *
      generalize w1.heap.size = q at *
      have hbq : b ≠ q := by omega
      have hmq : mb ≠ q := by omega
      have hrq : r0 ≠ q := by omega
      have hbr : b ≠ r0 := by omega
      have hmr : mb ≠ r0 := by omega
      have HQ4 := Lib.hid hQ4
      have HM4 := Lib.hid hM4
      have HZ4 := Lib.hid hZ4
      have HD4 := Lib.hid hD4
      have HU4 := Lib.hid hU4
      clear hQ4 hM4 hZ4 hD4 hU4 d0
      have p0 := HM4.out.cell 0 rfl
      have c0 := HQ4.out.cell 0 rfl
      have hq0 : w.heap.size ≤ q := by rw [HR0.out]; omega
      have HPA := Lib.hid (fun W (h : DiceB W b y) => dpath_any b y W h)
      have HPB := Lib.hid (fun W (h : DiceB W b (pathR y).2) => dnode_any b (pathR y).2 W h)
      go_wp2
      refine wp_region_held_drew (S := fun w' => Upd [b, q] w4 w') (by kernel_rfl) (Upd.refl _ _).drew (fun hHeld => ?_)
      change wpAnyH _ _ _ _ _ 14 #[false, false, false, false, false, false, false, false, false, false, false, false, false, false] _ _
      refine heldTake (i := 0) (d := some 19) (v := ?v0_85) rfl rfl (by kernel_rfl) (by kernel_rfl) (by kernel_rfl) (fun _ _ _ h => h) (by rfl) ?hy0_85 (by assumption) ?r0_85
      case hy0_85 => (intro w hSw; (try dsimp only at hSw); go_simp; try with_reducible rfl)
      try simp only [Act.put, List.setIfInBounds_toArray, List.set_cons_zero, List.set_cons_succ]
      change wpAnyH _ _ _ _ _ 13 #[true, false, false, false, false, false, false, false, false, false, false, false, false, false] _ _
      refine heldTake (i := 1) (d := some 20) (v := ?v1_86) rfl rfl (by kernel_rfl) (by kernel_rfl) (by kernel_rfl) (fun _ _ _ h => h) (by rfl) ?hy1_86 (by assumption) ?r1_86
      case hy1_86 => (intro w hSw; (try dsimp only at hSw); go_simp; try with_reducible rfl)
      try simp only [Act.put, List.setIfInBounds_toArray, List.set_cons_zero, List.set_cons_succ]
      change wpAnyH _ _ _ _ _ 12 #[true, true, false, false, false, false, false, false, false, false, false, false, false, false] _ _
      refine heldTake (i := 2) (d := some 21) (v := ?v2_87) rfl rfl (by kernel_rfl) (by kernel_rfl) (by kernel_rfl) (fun _ _ _ h => h) (by rfl) ?hy2_87 (by assumption) ?r2_87
      case hy2_87 => (intro w hSw; (try dsimp only at hSw); go_simp; try with_reducible rfl)
      try simp only [Act.put, List.setIfInBounds_toArray, List.set_cons_zero, List.set_cons_succ]
      change wpAnyH _ _ _ _ _ 11 #[true, true, true, false, false, false, false, false, false, false, false, false, false, false] _ _
      refine heldTake (i := 3) (d := some 22) (v := ?v3_88) rfl rfl (by kernel_rfl) (by kernel_rfl) (by kernel_rfl) (fun _ _ _ h => h) (by rfl) ?hy3_88 (by assumption) ?r3_88
      case hy3_88 => (intro wz hSw; have q0 := (HM4.out.upd hSw (by simp; omega)).cell 0 rfl; go_simp; try with_reducible rfl)
      try simp only [Act.put, List.setIfInBounds_toArray, List.set_cons_zero, List.set_cons_succ]
      change wpAnyH _ _ _ _ _ 10 #[true, true, true, true, false, false, false, false, false, false, false, false, false, false] _ _
      refine heldTake (i := 5) (d := some 24) (v := ?v5_89) rfl rfl (by kernel_rfl) (by kernel_rfl) (by kernel_rfl) (fun _ _ _ h => h) (by rfl) ?hy5_89 (by assumption) ?r5_89
      case hy5_89 => (intro w hSw; (try dsimp only at hSw); go_simp; try with_reducible rfl)
      try simp only [Act.put, List.setIfInBounds_toArray, List.set_cons_zero, List.set_cons_succ]
      change wpAnyH _ _ _ _ _ 9 #[true, true, true, true, false, true, false, false, false, false, false, false, false, false] _ _
      refine heldTake (i := 6) (d := some 25) (v := ?v6_90) rfl rfl (by kernel_rfl) (by kernel_rfl) (by kernel_rfl) (fun _ _ _ h => h) (by rfl) ?hy6_90 (by assumption) ?r6_90
      case hy6_90 => (intro w hSw; (try dsimp only at hSw); go_simp; try with_reducible rfl)
      try simp only [Act.put, List.setIfInBounds_toArray, List.set_cons_zero, List.set_cons_succ]
      change wpAnyH _ _ _ _ _ 8 #[true, true, true, true, false, true, true, false, false, false, false, false, false, false] _ _
      refine heldTake (i := 7) (d := some 26) (v := ?v7_91) rfl rfl (by kernel_rfl) (by kernel_rfl) (by kernel_rfl) (fun _ _ _ h => h) (by rfl) ?hy7_91 (by assumption) ?r7_91
      case hy7_91 => (intro w hSw; (try dsimp only at hSw); go_simp; try with_reducible rfl)
      try simp only [Act.put, List.setIfInBounds_toArray, List.set_cons_zero, List.set_cons_succ]
      change wpAnyH _ _ _ _ _ 7 #[true, true, true, true, false, true, true, true, false, false, false, false, false, false] _ _
      refine heldTake (i := 8) (d := some 27) (v := ?v8_92) rfl rfl (by kernel_rfl) (by kernel_rfl) (by kernel_rfl) (fun _ _ _ h => h) (by rfl) ?hy8_92 (by assumption) ?r8_92
      case hy8_92 => (intro wz hSw; have q0 := (HM4.out.upd hSw (by simp; omega)).cell 0 rfl; go_simp; try with_reducible rfl)
      try simp only [Act.put, List.setIfInBounds_toArray, List.set_cons_zero, List.set_cons_succ]
      change wpAnyH _ _ _ _ _ 6 #[true, true, true, true, false, true, true, true, true, false, false, false, false, false] _ _
      refine wpAnyH_ready (rs := [4]) (by kernel_rfl) (by simp) ?_
      refine AllReadyH.cons rfl (fun K hK => ?_) AllReadyH.nil
      go_simp
      refine (HPA.out _ (by first | exact HD4.out.drew | exact HD4.out)).mono ?_
      rintro e z1 ⟨rfl, hD1, hU1⟩
      have hS1 : Upd [b, q] w4 z1 := hHeld.trans hU1 (fun k hk => .inl (by simp at hk; simp [hk]))
      have hQ1 := (show Blk w4.drew q (evCells 4) 143 from HQ4.out.drew).upd hU1 (by simp; omega)
      have hZ1 := (show Blk w4.drew r0 zeroEv 143 from HZ4.out.drew).upd hU1 (by simp; omega)
      have HW1 := Lib.hid ((HU4.out.drew).then hU1)
      have HD1 := Lib.hid hD1
      have HQ1 := Lib.hid hQ1
      have HZ1 := Lib.hid hZ1
      clear hD1 hU1 hQ1 hZ1
      go_wp2
      refine hK.out _ _ hS1 (fun hHeld => ?_)
      clear hK K
      try simp only [Act.put, List.setIfInBounds_toArray, List.set_cons_zero, List.set_cons_succ]
      change wpAnyH _ _ _ _ _ 5 #[true, true, true, true, true, true, true, true, true, false, false, false, false, false] _ _
      refine heldTake (i := 10) (d := some 29) (v := ?v10_94) rfl rfl (by kernel_rfl) (by kernel_rfl) (by kernel_rfl) (fun _ _ _ h => h) (by rfl) ?hy10_94 (by assumption) ?r10_94
      case hy10_94 => (intro w hSw; (try dsimp only at hSw); go_simp; try with_reducible rfl)
      try simp only [Act.put, List.setIfInBounds_toArray, List.set_cons_zero, List.set_cons_succ]
      change wpAnyH _ _ _ _ _ 4 #[true, true, true, true, true, true, true, true, true, false, true, false, false, false] _ _
      refine wpAnyH_ready (rs := [9]) (by kernel_rfl) (by simp) ?_
      refine AllReadyH.cons rfl (fun K hK => ?_) AllReadyH.nil
      go_simp
      refine (HPB.out _ (by first | exact HD1.out | exact HD1.out.drew)).mono ?_
      rintro e z2 ⟨k2, m2, t2, D2, x2, rfl, hrel2, hD2, hU2⟩
      unfold nodeV
      have hS2 : Upd [b, q] w4 z2 := hHeld.trans hU2 (fun k hk => .inl (by simp at hk; simp [hk]))
      have hQ2 := HQ1.out.upd hU2 (by simp; omega)
      have HZ2 := Lib.hid (HZ1.out.upd hU2 (by simp; omega))
      have HW2 := Lib.hid (HW1.out.then hU2)
      have HD2 := Lib.hid hD2
      have HNR := Lib.hid hrel2
      have k1 := hQ2.cell 1 rfl
      have f1 := hQ2.frz 1
      have k3 := hQ2.cell 3 rfl
      have f3 := hQ2.frz 3
      have k4 := hQ2.cell 4 rfl
      have f4 := hQ2.frz 4
      have k5 := hQ2.cell 5 rfl
      have f5 := hQ2.frz 5
      have k6 := hQ2.cell 6 rfl
      have f6 := hQ2.frz 6
      have HQ2 := Lib.hid hQ2
      clear hD2 hU2 hQ2 hrel2
      go_wp2
      refine hK.out _ _ hS2 (fun hHeld => ?_)
      clear hK K
      try simp only [Act.put, List.setIfInBounds_toArray, List.set_cons_zero, List.set_cons_succ]
      change wpAnyH _ _ _ _ _ 3 #[true, true, true, true, true, true, true, true, true, true, true, false, false, false] _ _
      refine wpAnyH_ready (rs := [11]) (by kernel_rfl) (by simp) ?_
      refine AllReadyH.cons rfl (fun K hK => ?_) AllReadyH.nil
      go_simp
      go_wp2
      refine hK.out _ _ (hS2.setCell (p := ⟨q, 1, none⟩) (.inl (by simp)) (.string (strOf (pathB y)))) (fun hHeld => ?_)
      clear hK K
      try simp only [Act.put, List.setIfInBounds_toArray, List.set_cons_zero, List.set_cons_succ]
      change wpAnyH _ _ _ _ _ 2 #[true, true, true, true, true, true, true, true, true, true, true, true, false, false] _ _
      refine heldTake (i := 12) (d := some 30) (v := ?v12_97) rfl rfl (by kernel_rfl) (by kernel_rfl) (by kernel_rfl) (fun _ _ _ h => h) (by rfl) ?hy12_97 (by assumption) ?r12_97
      case hy12_97 => (intro w hSw; (try dsimp only at hSw); go_simp; try with_reducible rfl)
      try simp only [Act.put, List.setIfInBounds_toArray, List.set_cons_zero, List.set_cons_succ]
      change wpAnyH _ _ _ _ _ 1 #[true, true, true, true, true, true, true, true, true, true, true, true, true, false] _ _
      refine wpAnyH_ready (rs := [13]) (by kernel_rfl) (by simp) ?_
      refine AllReadyH.cons rfl (fun K hK => ?_) AllReadyH.nil
      go_simp
      go_wp2
      refine hK.out _ _ (((((hS2.setCell (p := ⟨q, 1, none⟩) (.inl (by simp)) (.string (strOf (pathB y)))).setCell (p := ⟨q, 3, none⟩) (.inl (by simp)) (.int .i64 (k2 : Nat))).setCell (p := ⟨q, 4, none⟩) (.inl (by simp)) (.int .i64 (m2 : Nat))).setCell (p := ⟨q, 5, none⟩) (.inl (by simp)) (.int .u32 (t2 : Nat))).setCell (p := ⟨q, 6, none⟩) (.inl (by simp)) (.string (strOf D2))) (fun hHeld => ?_)
      clear hK K
      try simp only [Act.put, List.setIfInBounds_toArray, List.set_cons_zero, List.set_cons_succ]
      change wpAnyH _ _ _ _ _ 0 #[true, true, true, true, true, true, true, true, true, true, true, true, true, true] _ _
      refine wpAnyH_done (by kernel_rfl) ?_ 0
      have HQ6 := Lib.hid (((((HQ2.out.set 1 (.string (strOf (pathB y)))).set 3 (.int .i64 (k2 : Nat))).set 4 (.int .i64 (m2 : Nat))).set 5 (.int .u32 (t2 : Nat))).set 6 (.string (strOf D2)))
      have HZ6 := Lib.hid (((((HZ2.out.setFar (a := ⟨q, 1, none⟩) (.string (strOf (pathB y))) hrq).setFar (a := ⟨q, 3, none⟩) (.int .i64 (k2 : Nat)) hrq).setFar (a := ⟨q, 4, none⟩) (.int .i64 (m2 : Nat)) hrq).setFar (a := ⟨q, 5, none⟩) (.int .u32 (t2 : Nat)) hrq).setFar (a := ⟨q, 6, none⟩) (.string (strOf D2)) hrq)
      have HU6 := Lib.hid (((((HW2.out.setCell (p := ⟨q, 1, none⟩) (.inr hq0) (.string (strOf (pathB y)))).setCell (p := ⟨q, 3, none⟩) (.inr hq0) (.int .i64 (k2 : Nat))).setCell (p := ⟨q, 4, none⟩) (.inr hq0) (.int .i64 (m2 : Nat))).setCell (p := ⟨q, 5, none⟩) (.inr hq0) (.int .u32 (t2 : Nat))).setCell (p := ⟨q, 6, none⟩) (.inr hq0) (.string (strOf D2)))
      have HD6 := Lib.hid (HD2.out.upd ((((((Upd.refl [q] z2).setCell (p := ⟨q, 1, none⟩) (.inl (by simp)) (.string (strOf (pathB y)))).setCell (p := ⟨q, 3, none⟩) (.inl (by simp)) (.int .i64 (k2 : Nat))).setCell (p := ⟨q, 4, none⟩) (.inl (by simp)) (.int .i64 (m2 : Nat))).setCell (p := ⟨q, 5, none⟩) (.inl (by simp)) (.int .u32 (t2 : Nat))).setCell (p := ⟨q, 6, none⟩) (.inl (by simp)) (.string (strOf D2))) (by simp; omega))
      have HM6 := Lib.hid (HM4.out.upd hHeld (by simp; omega))
      clear hS2 hHeld hS1 HZ2 HW2 HD2 HQ2 HD1 HQ1 HZ1 HW1 k1 f1 k3 f3 k4 f4 k5 f5 k6 f6
      generalize (((((z2.setCell ⟨q, 1, none⟩ (.string (strOf (pathB y)))).setCell ⟨q, 3, none⟩ (.int .i64 (k2 : Nat))).setCell ⟨q, 4, none⟩ (.int .i64 (m2 : Nat))).setCell ⟨q, 5, none⟩ (.int .u32 (t2 : Nat))).setCell ⟨q, 6, none⟩ (.string (strOf D2))) = z6 at *
      have c0 := HQ6.out.cell 0 rfl
      have p6 := HM6.out.cell 0 rfl
      have HB3 := Lib.hid (dbelow_any b x2 3 z6 HD6.out (by omega))
      go_wp2_with fail
      refine HB3.out.mono ?_
      rintro e z7 ⟨rfl, hD7, hU7⟩
      have HQ7 := Lib.hid (HQ6.out.upd hU7 (by simp; omega))
      have HZ7 := Lib.hid (HZ6.out.upd hU7 (by simp; omega))
      have HU7 := Lib.hid (HU6.out.then hU7)
      have HD7 := Lib.hid hD7
      clear hD7 hU7 HB3 HQ6 HZ6 HU6 HD6 c0 p6
      by_cases h0 : belowI x2 3 = 0
      · have H0 := Lib.hid h0
        rw [h0]
        clear h0
        have hQ7 := HQ7.out
        have k3 := hQ7.cell 3 rfl
        have k4 := hQ7.cell 4 rfl
        have k5 := hQ7.cell 5 rfl
        have k6 := hQ7.cell 6 rfl
        have f3 := hQ7.frz 3
        have f4 := hQ7.frz 4
        have f5 := hQ7.frz 5
        have f6 := hQ7.frz 6
        clear hQ7
        have HQ8 := Lib.hid ((((HQ7.out.set 3 (.int .i64 0)).set 4 (.int .i64 0)).set 5 (.int .u32 0)).set 6 (.string { data := #[] }))
        have HZ8 := Lib.hid ((((HZ7.out.setFar (a := ⟨q, 3, none⟩) (.int .i64 0) hrq).setFar (a := ⟨q, 4, none⟩) (.int .i64 0) hrq).setFar (a := ⟨q, 5, none⟩) (.int .u32 0) hrq).setFar (a := ⟨q, 6, none⟩) (.string { data := #[] }) hrq)
        have HU8 := Lib.hid ((((HU7.out.setCell (p := ⟨q, 3, none⟩) (.inr hq0) (.int .i64 0)).setCell (p := ⟨q, 4, none⟩) (.inr hq0) (.int .i64 0)).setCell (p := ⟨q, 5, none⟩) (.inr hq0) (.int .u32 0)).setCell (p := ⟨q, 6, none⟩) (.inr hq0) (.string { data := #[] }))
        have HD8 := Lib.hid (HD7.out.upd (((((Upd.refl [q] z7).setCell (p := ⟨q, 3, none⟩) (.inl (by simp)) (.int .i64 0)).setCell (p := ⟨q, 4, none⟩) (.inl (by simp)) (.int .i64 0)).setCell (p := ⟨q, 5, none⟩) (.inl (by simp)) (.int .u32 0)).setCell (p := ⟨q, 6, none⟩) (.inl (by simp)) (.string { data := #[] })) (by simp; omega))
        clear HQ7 HZ7 HU7 HD7
        go_upto_region 15 with fail
        change Code.wp _ _ _ _ ((((z7.setCell ⟨q, 3, none⟩ (.int .i64 0)).setCell ⟨q, 4, none⟩ (.int .i64 0)).setCell ⟨q, 5, none⟩ (.int .u32 0)).setCell ⟨q, 6, none⟩ (.string { data := #[] }))
        clear k3 k4 k5 k6 f3 f4 f5 f6
        generalize ((((z7.setCell ⟨q, 3, none⟩ (.int .i64 0)).setCell ⟨q, 4, none⟩ (.int .i64 0)).setCell ⟨q, 5, none⟩ (.int .u32 0)).setCell ⟨q, 6, none⟩ (.string { data := #[] })) = z8 at *
        have hzz := HZ8.out
        have z0 := hzz.cell 0 rfl
        have z1 := hzz.cell 1 rfl
        have z2 := hzz.cell 2 rfl
        have z3 := hzz.cell 3 rfl
        have z4 := hzz.cell 4 rfl
        have z5 := hzz.cell 5 rfl
        have z6 := hzz.cell 6 rfl
        have z7 := hzz.cell 7 rfl
        have z8 := hzz.cell 8 rfl
        have g0 := hzz.frz 0
        have g1 := hzz.frz 1
        have g2 := hzz.frz 2
        have g3 := hzz.frz 3
        have g4 := hzz.frz 4
        have g5 := hzz.frz 5
        have g6 := hzz.frz 6
        have g7 := hzz.frz 7
        have g8 := hzz.frz 8
        have hqq := HQ8.out
        have cc0 := hqq.cell 0 rfl
        have cc1 := hqq.cell 1 rfl
        have cc2 := hqq.cell 2 rfl
        have cc3 := hqq.cell 3 rfl
        have cc4 := hqq.cell 4 rfl
        have cc5 := hqq.cell 5 rfl
        have cc6 := hqq.cell 6 rfl
        have cc7 := hqq.cell 7 rfl
        have cc8 := hqq.cell 8 rfl
        have HZZ := Lib.hid hzz
        have HUU := Lib.hid HU8.out
        have HDD := Lib.hid HD8.out
        have HRR : Hid (CalmRel x (⟨4, pathB y, [], 0, 0, 0, [], 0⟩ : EvD) (nextB x2 3)) := Lib.hid ⟨by rw [HKK.out]; rfl, .inr (.inl ⟨rfl, by rw [HY.out], rfl, rfl, k2, m2, t2, D2, x2, by rw [HY.out]; exact HNR.out, rfl, .inl ⟨H0.out, rfl, rfl, rfl, rfl⟩⟩)⟩
        clear hzz hqq
        go_wp2_with fail
        (try simp only [Exit.inBlock, Exit.then]); refine bodyPost_ret (results_ev rfl _ _ r0 _ _ _ _ _ _ _ _ _ rfl (Blk.set9e HZZ.out _ _ _ _ _ _ _ _ _)) rfl ⟨(⟨4, pathB y, [], 0, 0, 0, [], 0⟩ : EvD), _, rfl, HRR.out, ?_, Upd.set9e HUU.out (.inr (by rw [HR0.out]; exact Nat.le_refl _)) _ _ _ _ _ _ _ _ _⟩
        exact HDD.out.upd (Upd.set9e (Upd.refl [r0] _) (.inl (by simp)) _ _ _ _ _ _ _ _ _) (by simp; omega)
      · have H0 := Lib.hid h0
        have h0b : ((belowI x2 3 : Int) == 0) = false := by simpa using h0
        have h0z : ¬ ((belowI x2 3 : Int) = 0) := by omega
        clear h0
        have hzz := HZ7.out
        have z0 := hzz.cell 0 rfl
        have z1 := hzz.cell 1 rfl
        have z2 := hzz.cell 2 rfl
        have z3 := hzz.cell 3 rfl
        have z4 := hzz.cell 4 rfl
        have z5 := hzz.cell 5 rfl
        have z6 := hzz.cell 6 rfl
        have z7 := hzz.cell 7 rfl
        have z8 := hzz.cell 8 rfl
        have g0 := hzz.frz 0
        have g1 := hzz.frz 1
        have g2 := hzz.frz 2
        have g3 := hzz.frz 3
        have g4 := hzz.frz 4
        have g5 := hzz.frz 5
        have g6 := hzz.frz 6
        have g7 := hzz.frz 7
        have g8 := hzz.frz 8
        have hqq := HQ7.out
        have cc0 := hqq.cell 0 rfl
        have cc1 := hqq.cell 1 rfl
        have cc2 := hqq.cell 2 rfl
        have cc3 := hqq.cell 3 rfl
        have cc4 := hqq.cell 4 rfl
        have cc5 := hqq.cell 5 rfl
        have cc6 := hqq.cell 6 rfl
        have cc7 := hqq.cell 7 rfl
        have cc8 := hqq.cell 8 rfl
        have HZZ := Lib.hid hzz
        have HUU := Lib.hid HU7.out
        have HDD := Lib.hid HD7.out
        have HRR : Hid (CalmRel x (⟨4, pathB y, [], k2, m2, t2, D2, 0⟩ : EvD) (nextB x2 3)) := Lib.hid ⟨by rw [HKK.out]; rfl, .inr (.inl ⟨rfl, by rw [HY.out], rfl, rfl, k2, m2, t2, D2, x2, by rw [HY.out]; exact HNR.out, rfl, .inr ⟨H0.out, rfl, rfl, rfl, rfl⟩⟩)⟩
        clear hzz hqq
        go_wp2_with fail
        (try simp only [Exit.inBlock, Exit.then]); refine bodyPost_ret (results_ev rfl _ _ r0 _ _ _ _ _ _ _ _ _ rfl (Blk.set9e HZZ.out _ _ _ _ _ _ _ _ _)) rfl ⟨(⟨4, pathB y, [], k2, m2, t2, D2, 0⟩ : EvD), _, rfl, HRR.out, ?_, Upd.set9e HUU.out (.inr (by rw [HR0.out]; exact Nat.le_refl _)) _ _ _ _ _ _ _ _ _⟩
        exact HDD.out.upd (Upd.set9e (Upd.refl [r0] _) (.inl (by simp)) _ _ _ _ _ _ _ _ _) (by simp; omega)
    · have d0 := dk
      change _ = some (Value.int .i64 4) at d0
      clear dk
      have hQ4 := Blk.new w1 (evCells 4) 143
      have hM4 := HM2.out.alloc (.cells (evCells 4).toArray 143)
      have hZ4 := HZ2.out.alloc (.cells (evCells 4).toArray 143)
      have hD4 := HD2.out.upd ((Upd.refl [] w1).alloc (.cells (evCells 4).toArray 143)) (by simp)
      have hU4 := HU2.out.alloc (.cells (evCells 4).toArray 143)
      have hsz4 : (w1.alloc (.cells (evCells 4).toArray 143)).heap.size = w1.heap.size + 1 := World.size_alloc _ _
      clear hk HD2 HM2 HZ2 HU2
      go_upto_region 3 with fail
      change Code.wp _ _ _ _ (w1.alloc (.cells (evCells 4).toArray 143))
      generalize w1.alloc (.cells (evCells 4).toArray 143) = w4 at *
      generalize w1.heap.size = q at *
      have hbq : b ≠ q := by omega
      have hmq : mb ≠ q := by omega
      have hrq : r0 ≠ q := by omega
      have hbr : b ≠ r0 := by omega
      have hmr : mb ≠ r0 := by omega
      have HQ4 := Lib.hid hQ4
      have HM4 := Lib.hid hM4
      have HZ4 := Lib.hid hZ4
      have HD4 := Lib.hid hD4
      have HU4 := Lib.hid hU4
      clear hQ4 hM4 hZ4 hD4 hU4 d0
      have p0 := HM4.out.cell 0 rfl
      have c0 := HQ4.out.cell 0 rfl
      have hq0 : w.heap.size ≤ q := by rw [HR0.out]; omega
      have HPA := Lib.hid (fun W (h : DiceB W b y) => dpath_any b y W h)
      have HPB := Lib.hid (fun W (h : DiceB W b (pathR y).2) => dnode_any b (pathR y).2 W h)
      go_wp2
      refine wp_region_held_drew (S := fun w' => Upd [b, q] w4 w') (by kernel_rfl) (Upd.refl _ _).drew (fun hHeld => ?_)
      change wpAnyH _ _ _ _ _ 14 #[false, false, false, false, false, false, false, false, false, false, false, false, false, false] _ _
      refine heldTake (i := 0) (d := some 19) (v := ?v0_99) rfl rfl (by kernel_rfl) (by kernel_rfl) (by kernel_rfl) (fun _ _ _ h => h) (by rfl) ?hy0_99 (by assumption) ?r0_99
      case hy0_99 => (intro w hSw; (try dsimp only at hSw); go_simp; try with_reducible rfl)
      try simp only [Act.put, List.setIfInBounds_toArray, List.set_cons_zero, List.set_cons_succ]
      change wpAnyH _ _ _ _ _ 13 #[true, false, false, false, false, false, false, false, false, false, false, false, false, false] _ _
      refine heldTake (i := 1) (d := some 20) (v := ?v1_100) rfl rfl (by kernel_rfl) (by kernel_rfl) (by kernel_rfl) (fun _ _ _ h => h) (by rfl) ?hy1_100 (by assumption) ?r1_100
      case hy1_100 => (intro w hSw; (try dsimp only at hSw); go_simp; try with_reducible rfl)
      try simp only [Act.put, List.setIfInBounds_toArray, List.set_cons_zero, List.set_cons_succ]
      change wpAnyH _ _ _ _ _ 12 #[true, true, false, false, false, false, false, false, false, false, false, false, false, false] _ _
      refine heldTake (i := 2) (d := some 21) (v := ?v2_101) rfl rfl (by kernel_rfl) (by kernel_rfl) (by kernel_rfl) (fun _ _ _ h => h) (by rfl) ?hy2_101 (by assumption) ?r2_101
      case hy2_101 => (intro w hSw; (try dsimp only at hSw); go_simp; try with_reducible rfl)
      try simp only [Act.put, List.setIfInBounds_toArray, List.set_cons_zero, List.set_cons_succ]
      change wpAnyH _ _ _ _ _ 11 #[true, true, true, false, false, false, false, false, false, false, false, false, false, false] _ _
      refine heldTake (i := 3) (d := some 22) (v := ?v3_102) rfl rfl (by kernel_rfl) (by kernel_rfl) (by kernel_rfl) (fun _ _ _ h => h) (by rfl) ?hy3_102 (by assumption) ?r3_102
      case hy3_102 => (intro wz hSw; have q0 := (HM4.out.upd hSw (by simp; omega)).cell 0 rfl; go_simp; try with_reducible rfl)
      try simp only [Act.put, List.setIfInBounds_toArray, List.set_cons_zero, List.set_cons_succ]
      change wpAnyH _ _ _ _ _ 10 #[true, true, true, true, false, false, false, false, false, false, false, false, false, false] _ _
      refine heldTake (i := 5) (d := some 24) (v := ?v5_103) rfl rfl (by kernel_rfl) (by kernel_rfl) (by kernel_rfl) (fun _ _ _ h => h) (by rfl) ?hy5_103 (by assumption) ?r5_103
      case hy5_103 => (intro w hSw; (try dsimp only at hSw); go_simp; try with_reducible rfl)
      try simp only [Act.put, List.setIfInBounds_toArray, List.set_cons_zero, List.set_cons_succ]
      change wpAnyH _ _ _ _ _ 9 #[true, true, true, true, false, true, false, false, false, false, false, false, false, false] _ _
      refine heldTake (i := 6) (d := some 25) (v := ?v6_104) rfl rfl (by kernel_rfl) (by kernel_rfl) (by kernel_rfl) (fun _ _ _ h => h) (by rfl) ?hy6_104 (by assumption) ?r6_104
      case hy6_104 => (intro w hSw; (try dsimp only at hSw); go_simp; try with_reducible rfl)
      try simp only [Act.put, List.setIfInBounds_toArray, List.set_cons_zero, List.set_cons_succ]
      change wpAnyH _ _ _ _ _ 8 #[true, true, true, true, false, true, true, false, false, false, false, false, false, false] _ _
      refine heldTake (i := 7) (d := some 26) (v := ?v7_105) rfl rfl (by kernel_rfl) (by kernel_rfl) (by kernel_rfl) (fun _ _ _ h => h) (by rfl) ?hy7_105 (by assumption) ?r7_105
      case hy7_105 => (intro w hSw; (try dsimp only at hSw); go_simp; try with_reducible rfl)
      try simp only [Act.put, List.setIfInBounds_toArray, List.set_cons_zero, List.set_cons_succ]
      change wpAnyH _ _ _ _ _ 7 #[true, true, true, true, false, true, true, true, false, false, false, false, false, false] _ _
      refine heldTake (i := 8) (d := some 27) (v := ?v8_106) rfl rfl (by kernel_rfl) (by kernel_rfl) (by kernel_rfl) (fun _ _ _ h => h) (by rfl) ?hy8_106 (by assumption) ?r8_106
      case hy8_106 => (intro wz hSw; have q0 := (HM4.out.upd hSw (by simp; omega)).cell 0 rfl; go_simp; try with_reducible rfl)
      try simp only [Act.put, List.setIfInBounds_toArray, List.set_cons_zero, List.set_cons_succ]
      change wpAnyH _ _ _ _ _ 6 #[true, true, true, true, false, true, true, true, true, false, false, false, false, false] _ _
      refine wpAnyH_ready (rs := [4]) (by kernel_rfl) (by simp) ?_
      refine AllReadyH.cons rfl (fun K hK => ?_) AllReadyH.nil
      go_simp
      refine (HPA.out _ (by first | exact HD4.out.drew | exact HD4.out)).mono ?_
      rintro e z1 ⟨rfl, hD1, hU1⟩
      have hS1 : Upd [b, q] w4 z1 := hHeld.trans hU1 (fun k hk => .inl (by simp at hk; simp [hk]))
      have hQ1 := (show Blk w4.drew q (evCells 4) 143 from HQ4.out.drew).upd hU1 (by simp; omega)
      have hZ1 := (show Blk w4.drew r0 zeroEv 143 from HZ4.out.drew).upd hU1 (by simp; omega)
      have HW1 := Lib.hid ((HU4.out.drew).then hU1)
      have HD1 := Lib.hid hD1
      have HQ1 := Lib.hid hQ1
      have HZ1 := Lib.hid hZ1
      clear hD1 hU1 hQ1 hZ1
      go_wp2
      refine hK.out _ _ hS1 (fun hHeld => ?_)
      clear hK K
      try simp only [Act.put, List.setIfInBounds_toArray, List.set_cons_zero, List.set_cons_succ]
      change wpAnyH _ _ _ _ _ 5 #[true, true, true, true, true, true, true, true, true, false, false, false, false, false] _ _
      refine heldTake (i := 10) (d := some 29) (v := ?v10_108) rfl rfl (by kernel_rfl) (by kernel_rfl) (by kernel_rfl) (fun _ _ _ h => h) (by rfl) ?hy10_108 (by assumption) ?r10_108
      case hy10_108 => (intro w hSw; (try dsimp only at hSw); go_simp; try with_reducible rfl)
      try simp only [Act.put, List.setIfInBounds_toArray, List.set_cons_zero, List.set_cons_succ]
      change wpAnyH _ _ _ _ _ 4 #[true, true, true, true, true, true, true, true, true, false, true, false, false, false] _ _
      refine wpAnyH_ready (rs := [9]) (by kernel_rfl) (by simp) ?_
      refine AllReadyH.cons rfl (fun K hK => ?_) AllReadyH.nil
      go_simp
      refine (HPB.out _ (by first | exact HD1.out | exact HD1.out.drew)).mono ?_
      rintro e z2 ⟨k2, m2, t2, D2, x2, rfl, hrel2, hD2, hU2⟩
      unfold nodeV
      have hS2 : Upd [b, q] w4 z2 := hHeld.trans hU2 (fun k hk => .inl (by simp at hk; simp [hk]))
      have hQ2 := HQ1.out.upd hU2 (by simp; omega)
      have HZ2 := Lib.hid (HZ1.out.upd hU2 (by simp; omega))
      have HW2 := Lib.hid (HW1.out.then hU2)
      have HD2 := Lib.hid hD2
      have HNR := Lib.hid hrel2
      have k1 := hQ2.cell 1 rfl
      have f1 := hQ2.frz 1
      have k3 := hQ2.cell 3 rfl
      have f3 := hQ2.frz 3
      have k4 := hQ2.cell 4 rfl
      have f4 := hQ2.frz 4
      have k5 := hQ2.cell 5 rfl
      have f5 := hQ2.frz 5
      have k6 := hQ2.cell 6 rfl
      have f6 := hQ2.frz 6
      have HQ2 := Lib.hid hQ2
      clear hD2 hU2 hQ2 hrel2
      go_wp2
      refine hK.out _ _ hS2 (fun hHeld => ?_)
      clear hK K
      try simp only [Act.put, List.setIfInBounds_toArray, List.set_cons_zero, List.set_cons_succ]
      change wpAnyH _ _ _ _ _ 3 #[true, true, true, true, true, true, true, true, true, true, true, false, false, false] _ _
      refine wpAnyH_ready (rs := [11]) (by kernel_rfl) (by simp) ?_
      refine AllReadyH.cons rfl (fun K hK => ?_) AllReadyH.nil
      go_simp
      go_wp2
      refine hK.out _ _ (hS2.setCell (p := ⟨q, 1, none⟩) (.inl (by simp)) (.string (strOf (pathB y)))) (fun hHeld => ?_)
      clear hK K
      try simp only [Act.put, List.setIfInBounds_toArray, List.set_cons_zero, List.set_cons_succ]
      change wpAnyH _ _ _ _ _ 2 #[true, true, true, true, true, true, true, true, true, true, true, true, false, false] _ _
      refine heldTake (i := 12) (d := some 30) (v := ?v12_111) rfl rfl (by kernel_rfl) (by kernel_rfl) (by kernel_rfl) (fun _ _ _ h => h) (by rfl) ?hy12_111 (by assumption) ?r12_111
      case hy12_111 => (intro w hSw; (try dsimp only at hSw); go_simp; try with_reducible rfl)
      try simp only [Act.put, List.setIfInBounds_toArray, List.set_cons_zero, List.set_cons_succ]
      change wpAnyH _ _ _ _ _ 1 #[true, true, true, true, true, true, true, true, true, true, true, true, true, false] _ _
      refine wpAnyH_ready (rs := [13]) (by kernel_rfl) (by simp) ?_
      refine AllReadyH.cons rfl (fun K hK => ?_) AllReadyH.nil
      go_simp
      go_wp2
      refine hK.out _ _ (((((hS2.setCell (p := ⟨q, 1, none⟩) (.inl (by simp)) (.string (strOf (pathB y)))).setCell (p := ⟨q, 3, none⟩) (.inl (by simp)) (.int .i64 (k2 : Nat))).setCell (p := ⟨q, 4, none⟩) (.inl (by simp)) (.int .i64 (m2 : Nat))).setCell (p := ⟨q, 5, none⟩) (.inl (by simp)) (.int .u32 (t2 : Nat))).setCell (p := ⟨q, 6, none⟩) (.inl (by simp)) (.string (strOf D2))) (fun hHeld => ?_)
      clear hK K
      try simp only [Act.put, List.setIfInBounds_toArray, List.set_cons_zero, List.set_cons_succ]
      change wpAnyH _ _ _ _ _ 0 #[true, true, true, true, true, true, true, true, true, true, true, true, true, true] _ _
      refine wpAnyH_done (by kernel_rfl) ?_ 0
      have HQ6 := Lib.hid (((((HQ2.out.set 1 (.string (strOf (pathB y)))).set 3 (.int .i64 (k2 : Nat))).set 4 (.int .i64 (m2 : Nat))).set 5 (.int .u32 (t2 : Nat))).set 6 (.string (strOf D2)))
      have HZ6 := Lib.hid (((((HZ2.out.setFar (a := ⟨q, 1, none⟩) (.string (strOf (pathB y))) hrq).setFar (a := ⟨q, 3, none⟩) (.int .i64 (k2 : Nat)) hrq).setFar (a := ⟨q, 4, none⟩) (.int .i64 (m2 : Nat)) hrq).setFar (a := ⟨q, 5, none⟩) (.int .u32 (t2 : Nat)) hrq).setFar (a := ⟨q, 6, none⟩) (.string (strOf D2)) hrq)
      have HU6 := Lib.hid (((((HW2.out.setCell (p := ⟨q, 1, none⟩) (.inr hq0) (.string (strOf (pathB y)))).setCell (p := ⟨q, 3, none⟩) (.inr hq0) (.int .i64 (k2 : Nat))).setCell (p := ⟨q, 4, none⟩) (.inr hq0) (.int .i64 (m2 : Nat))).setCell (p := ⟨q, 5, none⟩) (.inr hq0) (.int .u32 (t2 : Nat))).setCell (p := ⟨q, 6, none⟩) (.inr hq0) (.string (strOf D2)))
      have HD6 := Lib.hid (HD2.out.upd ((((((Upd.refl [q] z2).setCell (p := ⟨q, 1, none⟩) (.inl (by simp)) (.string (strOf (pathB y)))).setCell (p := ⟨q, 3, none⟩) (.inl (by simp)) (.int .i64 (k2 : Nat))).setCell (p := ⟨q, 4, none⟩) (.inl (by simp)) (.int .i64 (m2 : Nat))).setCell (p := ⟨q, 5, none⟩) (.inl (by simp)) (.int .u32 (t2 : Nat))).setCell (p := ⟨q, 6, none⟩) (.inl (by simp)) (.string (strOf D2))) (by simp; omega))
      have HM6 := Lib.hid (HM4.out.upd hHeld (by simp; omega))
      clear hS2 hHeld hS1 HZ2 HW2 HD2 HQ2 HD1 HQ1 HZ1 HW1 k1 f1 k3 f3 k4 f4 k5 f5 k6 f6
      generalize (((((z2.setCell ⟨q, 1, none⟩ (.string (strOf (pathB y)))).setCell ⟨q, 3, none⟩ (.int .i64 (k2 : Nat))).setCell ⟨q, 4, none⟩ (.int .i64 (m2 : Nat))).setCell ⟨q, 5, none⟩ (.int .u32 (t2 : Nat))).setCell ⟨q, 6, none⟩ (.string (strOf D2))) = z6 at *
      have c0 := HQ6.out.cell 0 rfl
      have p6 := HM6.out.cell 0 rfl
      have HB3 := Lib.hid (dbelow_any b x2 3 z6 HD6.out (by omega))
      go_wp2_with fail
      refine HB3.out.mono ?_
      rintro e z7 ⟨rfl, hD7, hU7⟩
      have HQ7 := Lib.hid (HQ6.out.upd hU7 (by simp; omega))
      have HZ7 := Lib.hid (HZ6.out.upd hU7 (by simp; omega))
      have HU7 := Lib.hid (HU6.out.then hU7)
      have HD7 := Lib.hid hD7
      clear hD7 hU7 HB3 HQ6 HZ6 HU6 HD6 c0 p6
      by_cases h0 : belowI x2 3 = 0
      · have H0 := Lib.hid h0
        rw [h0]
        clear h0
        have hQ7 := HQ7.out
        have k3 := hQ7.cell 3 rfl
        have k4 := hQ7.cell 4 rfl
        have k5 := hQ7.cell 5 rfl
        have k6 := hQ7.cell 6 rfl
        have f3 := hQ7.frz 3
        have f4 := hQ7.frz 4
        have f5 := hQ7.frz 5
        have f6 := hQ7.frz 6
        clear hQ7
        have HQ8 := Lib.hid ((((HQ7.out.set 3 (.int .i64 0)).set 4 (.int .i64 0)).set 5 (.int .u32 0)).set 6 (.string { data := #[] }))
        have HZ8 := Lib.hid ((((HZ7.out.setFar (a := ⟨q, 3, none⟩) (.int .i64 0) hrq).setFar (a := ⟨q, 4, none⟩) (.int .i64 0) hrq).setFar (a := ⟨q, 5, none⟩) (.int .u32 0) hrq).setFar (a := ⟨q, 6, none⟩) (.string { data := #[] }) hrq)
        have HU8 := Lib.hid ((((HU7.out.setCell (p := ⟨q, 3, none⟩) (.inr hq0) (.int .i64 0)).setCell (p := ⟨q, 4, none⟩) (.inr hq0) (.int .i64 0)).setCell (p := ⟨q, 5, none⟩) (.inr hq0) (.int .u32 0)).setCell (p := ⟨q, 6, none⟩) (.inr hq0) (.string { data := #[] }))
        have HD8 := Lib.hid (HD7.out.upd (((((Upd.refl [q] z7).setCell (p := ⟨q, 3, none⟩) (.inl (by simp)) (.int .i64 0)).setCell (p := ⟨q, 4, none⟩) (.inl (by simp)) (.int .i64 0)).setCell (p := ⟨q, 5, none⟩) (.inl (by simp)) (.int .u32 0)).setCell (p := ⟨q, 6, none⟩) (.inl (by simp)) (.string { data := #[] })) (by simp; omega))
        clear HQ7 HZ7 HU7 HD7
        go_upto_region 15 with fail
        change Code.wp _ _ _ _ ((((z7.setCell ⟨q, 3, none⟩ (.int .i64 0)).setCell ⟨q, 4, none⟩ (.int .i64 0)).setCell ⟨q, 5, none⟩ (.int .u32 0)).setCell ⟨q, 6, none⟩ (.string { data := #[] }))
        clear k3 k4 k5 k6 f3 f4 f5 f6
        generalize ((((z7.setCell ⟨q, 3, none⟩ (.int .i64 0)).setCell ⟨q, 4, none⟩ (.int .i64 0)).setCell ⟨q, 5, none⟩ (.int .u32 0)).setCell ⟨q, 6, none⟩ (.string { data := #[] })) = z8 at *
        have hzz := HZ8.out
        have z0 := hzz.cell 0 rfl
        have z1 := hzz.cell 1 rfl
        have z2 := hzz.cell 2 rfl
        have z3 := hzz.cell 3 rfl
        have z4 := hzz.cell 4 rfl
        have z5 := hzz.cell 5 rfl
        have z6 := hzz.cell 6 rfl
        have z7 := hzz.cell 7 rfl
        have z8 := hzz.cell 8 rfl
        have g0 := hzz.frz 0
        have g1 := hzz.frz 1
        have g2 := hzz.frz 2
        have g3 := hzz.frz 3
        have g4 := hzz.frz 4
        have g5 := hzz.frz 5
        have g6 := hzz.frz 6
        have g7 := hzz.frz 7
        have g8 := hzz.frz 8
        have hqq := HQ8.out
        have cc0 := hqq.cell 0 rfl
        have cc1 := hqq.cell 1 rfl
        have cc2 := hqq.cell 2 rfl
        have cc3 := hqq.cell 3 rfl
        have cc4 := hqq.cell 4 rfl
        have cc5 := hqq.cell 5 rfl
        have cc6 := hqq.cell 6 rfl
        have cc7 := hqq.cell 7 rfl
        have cc8 := hqq.cell 8 rfl
        have HZZ := Lib.hid hzz
        have HUU := Lib.hid HU8.out
        have HDD := Lib.hid HD8.out
        have HRR : Hid (CalmRel x (⟨4, pathB y, [], 0, 0, 0, [], 0⟩ : EvD) (nextB x2 3)) := Lib.hid ⟨by rw [HKK.out]; rfl, .inr (.inl ⟨rfl, by rw [HY.out], rfl, rfl, k2, m2, t2, D2, x2, by rw [HY.out]; exact HNR.out, rfl, .inl ⟨H0.out, rfl, rfl, rfl, rfl⟩⟩)⟩
        clear hzz hqq
        go_wp2_with fail
        (try simp only [Exit.inBlock, Exit.then]); refine bodyPost_ret (results_ev rfl _ _ r0 _ _ _ _ _ _ _ _ _ rfl (Blk.set9e HZZ.out _ _ _ _ _ _ _ _ _)) rfl ⟨(⟨4, pathB y, [], 0, 0, 0, [], 0⟩ : EvD), _, rfl, HRR.out, ?_, Upd.set9e HUU.out (.inr (by rw [HR0.out]; exact Nat.le_refl _)) _ _ _ _ _ _ _ _ _⟩
        exact HDD.out.upd (Upd.set9e (Upd.refl [r0] _) (.inl (by simp)) _ _ _ _ _ _ _ _ _) (by simp; omega)
      · have H0 := Lib.hid h0
        have h0b : ((belowI x2 3 : Int) == 0) = false := by simpa using h0
        have h0z : ¬ ((belowI x2 3 : Int) = 0) := by omega
        clear h0
        have hzz := HZ7.out
        have z0 := hzz.cell 0 rfl
        have z1 := hzz.cell 1 rfl
        have z2 := hzz.cell 2 rfl
        have z3 := hzz.cell 3 rfl
        have z4 := hzz.cell 4 rfl
        have z5 := hzz.cell 5 rfl
        have z6 := hzz.cell 6 rfl
        have z7 := hzz.cell 7 rfl
        have z8 := hzz.cell 8 rfl
        have g0 := hzz.frz 0
        have g1 := hzz.frz 1
        have g2 := hzz.frz 2
        have g3 := hzz.frz 3
        have g4 := hzz.frz 4
        have g5 := hzz.frz 5
        have g6 := hzz.frz 6
        have g7 := hzz.frz 7
        have g8 := hzz.frz 8
        have hqq := HQ7.out
        have cc0 := hqq.cell 0 rfl
        have cc1 := hqq.cell 1 rfl
        have cc2 := hqq.cell 2 rfl
        have cc3 := hqq.cell 3 rfl
        have cc4 := hqq.cell 4 rfl
        have cc5 := hqq.cell 5 rfl
        have cc6 := hqq.cell 6 rfl
        have cc7 := hqq.cell 7 rfl
        have cc8 := hqq.cell 8 rfl
        have HZZ := Lib.hid hzz
        have HUU := Lib.hid HU7.out
        have HDD := Lib.hid HD7.out
        have HRR : Hid (CalmRel x (⟨4, pathB y, [], k2, m2, t2, D2, 0⟩ : EvD) (nextB x2 3)) := Lib.hid ⟨by rw [HKK.out]; rfl, .inr (.inl ⟨rfl, by rw [HY.out], rfl, rfl, k2, m2, t2, D2, x2, by rw [HY.out]; exact HNR.out, rfl, .inr ⟨H0.out, rfl, rfl, rfl, rfl⟩⟩)⟩
        clear hzz hqq
        go_wp2_with fail
        (try simp only [Exit.inBlock, Exit.then]); refine bodyPost_ret (results_ev rfl _ _ r0 _ _ _ _ _ _ _ _ _ rfl (Blk.set9e HZZ.out _ _ _ _ _ _ _ _ _)) rfl ⟨(⟨4, pathB y, [], k2, m2, t2, D2, 0⟩ : EvD), _, rfl, HRR.out, ?_, Upd.set9e HUU.out (.inr (by rw [HR0.out]; exact Nat.le_refl _)) _ _ _ _ _ _ _ _ _⟩
        exact HDD.out.upd (Upd.set9e (Upd.refl [r0] _) (.inl (by simp)) _ _ _ _ _ _ _ _ _) (by simp; omega)
  · rcases h with rfl | rfl
    all_goals
      have d0 := dk
      change _ = some (Value.int .i64 5) at d0
      clear dk
      have hQ4 := Blk.new w1 (evCells 5) 143
      have hM4 := HM2.out.alloc (.cells (evCells 5).toArray 143)
      have hZ4 := HZ2.out.alloc (.cells (evCells 5).toArray 143)
      have hD4 := HD2.out.upd ((Upd.refl [] w1).alloc (.cells (evCells 5).toArray 143)) (by simp)
      have hU4 := HU2.out.alloc (.cells (evCells 5).toArray 143)
      have hsz4 : (w1.alloc (.cells (evCells 5).toArray 143)).heap.size = w1.heap.size + 1 := World.size_alloc _ _
      clear hk HD2 HM2 HZ2 HU2
      go_upto_region 3 with fail
      change Code.wp _ _ _ _ (w1.alloc (.cells (evCells 5).toArray 143))
      generalize w1.alloc (.cells (evCells 5).toArray 143) = w4 at *
      generalize w1.heap.size = q at *
      have hbq : b ≠ q := by omega
      have hmq : mb ≠ q := by omega
      have hrq : r0 ≠ q := by omega
      have hbr : b ≠ r0 := by omega
      have hmr : mb ≠ r0 := by omega
      have HQ4 := Lib.hid hQ4
      have HM4 := Lib.hid hM4
      have HZ4 := Lib.hid hZ4
      have HD4 := Lib.hid hD4
      have HU4 := Lib.hid hU4
      clear hQ4 hM4 hZ4 hD4 hU4 d0
      have p0 := HM4.out.cell 0 rfl
      have c0 := HQ4.out.cell 0 rfl
      have HCL := Lib.hid (dbelow_any b y 4 w4 HD4.out (by omega))
      go_wp2_with fail
      refine HCL.out.mono ?_
      rintro e w5 ⟨rfl, hD5, hU5⟩
      have hQ5 := HQ4.out.upd hU5 (by simp; omega)
      have c7 := hQ5.cell 7 rfl
      have f7 := hQ5.frz 7
      have HQ6 := Lib.hid (hQ5.set 7 (.int .i64 (belowI y 4 : Nat)))
      have HZ6 := Lib.hid ((HZ4.out.upd hU5 (by simp; omega)).setFar (a := ⟨q, 7, none⟩) (.int .i64 (belowI y 4 : Nat)) hrq)
      have HD6 := Lib.hid (hD5.upd ((Upd.refl [q] w5).setCell (p := ⟨q, 7, none⟩) (.inl (by simp)) (.int .i64 (belowI y 4 : Nat))) (by simp; omega))
      have HU6 := Lib.hid ((HU4.out.then hU5).setCell (p := ⟨q, 7, none⟩) (.inr (by rw [HR0.out]; show r0 ≤ q; omega)) (.int .i64 (belowI y 4 : Nat)))
      clear hQ5 hD5 hU5 HCL HQ4 HZ4 HD4 HU4
      have hzz := HZ6.out
      have z0 := hzz.cell 0 rfl
      have z1 := hzz.cell 1 rfl
      have z2 := hzz.cell 2 rfl
      have z3 := hzz.cell 3 rfl
      have z4 := hzz.cell 4 rfl
      have z5 := hzz.cell 5 rfl
      have z6 := hzz.cell 6 rfl
      have z7 := hzz.cell 7 rfl
      have z8 := hzz.cell 8 rfl
      have g0 := hzz.frz 0
      have g1 := hzz.frz 1
      have g2 := hzz.frz 2
      have g3 := hzz.frz 3
      have g4 := hzz.frz 4
      have g5 := hzz.frz 5
      have g6 := hzz.frz 6
      have g7 := hzz.frz 7
      have g8 := hzz.frz 8
      have hqq := HQ6.out
      have cc0 := hqq.cell 0 rfl
      have cc1 := hqq.cell 1 rfl
      have cc2 := hqq.cell 2 rfl
      have cc3 := hqq.cell 3 rfl
      have cc4 := hqq.cell 4 rfl
      have cc5 := hqq.cell 5 rfl
      have cc6 := hqq.cell 6 rfl
      have cc7 := hqq.cell 7 rfl
      have cc8 := hqq.cell 8 rfl
      have HZZ := Lib.hid hzz
      have HUU := Lib.hid HU6.out
      have HDD := Lib.hid HD6.out
      have HRR : Hid (CalmRel x (⟨5, [], [], 0, 0, 0, [], belowI y 4⟩ : EvD) (nextB y 4)) := Lib.hid ⟨by rw [HKK.out]; rfl, .inr (.inr (.inr (.inr (.inl ⟨rfl, rfl, rfl, by rw [HY.out], by rw [HY.out], rfl, rfl, rfl, rfl⟩))))⟩
      clear hzz hqq
      go_wp2_with fail
      (try simp only [Exit.inBlock, Exit.then]); refine bodyPost_ret (results_ev rfl _ _ r0 _ _ _ _ _ _ _ _ _ rfl (Blk.set9e HZZ.out _ _ _ _ _ _ _ _ _)) rfl ⟨(⟨5, [], [], 0, 0, 0, [], belowI y 4⟩ : EvD), _, rfl, HRR.out, ?_, Upd.set9e HUU.out (.inr (by rw [HR0.out]; exact Nat.le_refl _)) _ _ _ _ _ _ _ _ _⟩
      exact HDD.out.upd (Upd.set9e (Upd.refl [r0] _) (.inl (by simp)) _ _ _ _ _ _ _ _ _) (by simp; omega)
  · rcases h with rfl
    all_goals
      have d0 := dk
      change _ = some (Value.int .i64 6) at d0
      clear dk
      have hQ4 := Blk.new w1 (evCells 6) 143
      have hM4 := HM2.out.alloc (.cells (evCells 6).toArray 143)
      have hZ4 := HZ2.out.alloc (.cells (evCells 6).toArray 143)
      have hD4 := HD2.out.upd ((Upd.refl [] w1).alloc (.cells (evCells 6).toArray 143)) (by simp)
      have hU4 := HU2.out.alloc (.cells (evCells 6).toArray 143)
      have hsz4 : (w1.alloc (.cells (evCells 6).toArray 143)).heap.size = w1.heap.size + 1 := World.size_alloc _ _
      clear hk HD2 HM2 HZ2 HU2
      go_upto_region 3 with fail
      change Code.wp _ _ _ _ (w1.alloc (.cells (evCells 6).toArray 143))
      generalize w1.alloc (.cells (evCells 6).toArray 143) = w4 at *
      generalize w1.heap.size = q at *
      have hbq : b ≠ q := by omega
      have hmq : mb ≠ q := by omega
      have hrq : r0 ≠ q := by omega
      have hbr : b ≠ r0 := by omega
      have hmr : mb ≠ r0 := by omega
      have HQ4 := Lib.hid hQ4
      have HM4 := Lib.hid hM4
      have HZ4 := Lib.hid hZ4
      have HD4 := Lib.hid hD4
      have HU4 := Lib.hid hU4
      clear hQ4 hM4 hZ4 hD4 hU4 d0
      have hzz := HZ4.out
      have z0 := hzz.cell 0 rfl
      have z1 := hzz.cell 1 rfl
      have z2 := hzz.cell 2 rfl
      have z3 := hzz.cell 3 rfl
      have z4 := hzz.cell 4 rfl
      have z5 := hzz.cell 5 rfl
      have z6 := hzz.cell 6 rfl
      have z7 := hzz.cell 7 rfl
      have z8 := hzz.cell 8 rfl
      have g0 := hzz.frz 0
      have g1 := hzz.frz 1
      have g2 := hzz.frz 2
      have g3 := hzz.frz 3
      have g4 := hzz.frz 4
      have g5 := hzz.frz 5
      have g6 := hzz.frz 6
      have g7 := hzz.frz 7
      have g8 := hzz.frz 8
      have hqq := HQ4.out
      have cc0 := hqq.cell 0 rfl
      have cc1 := hqq.cell 1 rfl
      have cc2 := hqq.cell 2 rfl
      have cc3 := hqq.cell 3 rfl
      have cc4 := hqq.cell 4 rfl
      have cc5 := hqq.cell 5 rfl
      have cc6 := hqq.cell 6 rfl
      have cc7 := hqq.cell 7 rfl
      have cc8 := hqq.cell 8 rfl
      have HZZ := Lib.hid hzz
      have HUU := Lib.hid HU4.out
      have HDD := Lib.hid HD4.out
      have HRR : Hid (CalmRel x (⟨6, [], [], 0, 0, 0, [], 0⟩ : EvD) (y)) := Lib.hid ⟨by rw [HKK.out]; rfl, .inr (.inr (.inr (.inr (.inr ⟨by decide, rfl, rfl, rfl, by rw [HY.out], rfl, rfl, rfl, rfl⟩))))⟩
      clear hzz hqq
      go_wp2_with fail
      (try simp only [Exit.inBlock, Exit.then]); refine bodyPost_ret (results_ev rfl _ _ r0 _ _ _ _ _ _ _ _ _ rfl (Blk.set9e HZZ.out _ _ _ _ _ _ _ _ _)) rfl ⟨(⟨6, [], [], 0, 0, 0, [], 0⟩ : EvD), _, rfl, HRR.out, ?_, Upd.set9e HUU.out (.inr (by rw [HR0.out]; exact Nat.le_refl _)) _ _ _ _ _ _ _ _ _⟩
      exact HDD.out.upd (Upd.set9e (Upd.refl [r0] _) (.inl (by simp)) _ _ _ _ _ _ _ _ _) (by simp; omega)
  · rcases h with rfl
    all_goals
      have d0 := dk
      change _ = some (Value.int .i64 7) at d0
      clear dk
      have hQ4 := Blk.new w1 (evCells 7) 143
      have hM4 := HM2.out.alloc (.cells (evCells 7).toArray 143)
      have hZ4 := HZ2.out.alloc (.cells (evCells 7).toArray 143)
      have hD4 := HD2.out.upd ((Upd.refl [] w1).alloc (.cells (evCells 7).toArray 143)) (by simp)
      have hU4 := HU2.out.alloc (.cells (evCells 7).toArray 143)
      have hsz4 : (w1.alloc (.cells (evCells 7).toArray 143)).heap.size = w1.heap.size + 1 := World.size_alloc _ _
      clear hk HD2 HM2 HZ2 HU2
      go_upto_region 3 with fail
      change Code.wp _ _ _ _ (w1.alloc (.cells (evCells 7).toArray 143))
      generalize w1.alloc (.cells (evCells 7).toArray 143) = w4 at *
      generalize w1.heap.size = q at *
      have hbq : b ≠ q := by omega
      have hmq : mb ≠ q := by omega
      have hrq : r0 ≠ q := by omega
      have hbr : b ≠ r0 := by omega
      have hmr : mb ≠ r0 := by omega
      have HQ4 := Lib.hid hQ4
      have HM4 := Lib.hid hM4
      have HZ4 := Lib.hid hZ4
      have HD4 := Lib.hid hD4
      have HU4 := Lib.hid hU4
      clear hQ4 hM4 hZ4 hD4 hU4 d0
      have hzz := HZ4.out
      have z0 := hzz.cell 0 rfl
      have z1 := hzz.cell 1 rfl
      have z2 := hzz.cell 2 rfl
      have z3 := hzz.cell 3 rfl
      have z4 := hzz.cell 4 rfl
      have z5 := hzz.cell 5 rfl
      have z6 := hzz.cell 6 rfl
      have z7 := hzz.cell 7 rfl
      have z8 := hzz.cell 8 rfl
      have g0 := hzz.frz 0
      have g1 := hzz.frz 1
      have g2 := hzz.frz 2
      have g3 := hzz.frz 3
      have g4 := hzz.frz 4
      have g5 := hzz.frz 5
      have g6 := hzz.frz 6
      have g7 := hzz.frz 7
      have g8 := hzz.frz 8
      have hqq := HQ4.out
      have cc0 := hqq.cell 0 rfl
      have cc1 := hqq.cell 1 rfl
      have cc2 := hqq.cell 2 rfl
      have cc3 := hqq.cell 3 rfl
      have cc4 := hqq.cell 4 rfl
      have cc5 := hqq.cell 5 rfl
      have cc6 := hqq.cell 6 rfl
      have cc7 := hqq.cell 7 rfl
      have cc8 := hqq.cell 8 rfl
      have HZZ := Lib.hid hzz
      have HUU := Lib.hid HU4.out
      have HDD := Lib.hid HD4.out
      have HRR : Hid (CalmRel x (⟨7, [], [], 0, 0, 0, [], 0⟩ : EvD) (y)) := Lib.hid ⟨by rw [HKK.out]; rfl, .inr (.inr (.inr (.inr (.inr ⟨by decide, rfl, rfl, rfl, by rw [HY.out], rfl, rfl, rfl, rfl⟩))))⟩
      clear hzz hqq
      go_wp2_with fail
      (try simp only [Exit.inBlock, Exit.then]); refine bodyPost_ret (results_ev rfl _ _ r0 _ _ _ _ _ _ _ _ _ rfl (Blk.set9e HZZ.out _ _ _ _ _ _ _ _ _)) rfl ⟨(⟨7, [], [], 0, 0, 0, [], 0⟩ : EvD), _, rfl, HRR.out, ?_, Upd.set9e HUU.out (.inr (by rw [HR0.out]; exact Nat.le_refl _)) _ _ _ _ _ _ _ _ _⟩
      exact HDD.out.upd (Upd.set9e (Upd.refl [r0] _) (.inl (by simp)) _ _ _ _ _ _ _ _ _) (by simp; omega)
  · rcases h with rfl
    all_goals
      have d0 := dk
      change _ = some (Value.int .i64 8) at d0
      clear dk
      have hQ4 := Blk.new w1 (evCells 8) 143
      have hM4 := HM2.out.alloc (.cells (evCells 8).toArray 143)
      have hZ4 := HZ2.out.alloc (.cells (evCells 8).toArray 143)
      have hD4 := HD2.out.upd ((Upd.refl [] w1).alloc (.cells (evCells 8).toArray 143)) (by simp)
      have hU4 := HU2.out.alloc (.cells (evCells 8).toArray 143)
      have hsz4 : (w1.alloc (.cells (evCells 8).toArray 143)).heap.size = w1.heap.size + 1 := World.size_alloc _ _
      clear hk HD2 HM2 HZ2 HU2
      go_upto_region 3 with fail
      change Code.wp _ _ _ _ (w1.alloc (.cells (evCells 8).toArray 143))
      generalize w1.alloc (.cells (evCells 8).toArray 143) = w4 at *
      generalize w1.heap.size = q at *
      have hbq : b ≠ q := by omega
      have hmq : mb ≠ q := by omega
      have hrq : r0 ≠ q := by omega
      have hbr : b ≠ r0 := by omega
      have hmr : mb ≠ r0 := by omega
      have HQ4 := Lib.hid hQ4
      have HM4 := Lib.hid hM4
      have HZ4 := Lib.hid hZ4
      have HD4 := Lib.hid hD4
      have HU4 := Lib.hid hU4
      clear hQ4 hM4 hZ4 hD4 hU4 d0
      have hzz := HZ4.out
      have z0 := hzz.cell 0 rfl
      have z1 := hzz.cell 1 rfl
      have z2 := hzz.cell 2 rfl
      have z3 := hzz.cell 3 rfl
      have z4 := hzz.cell 4 rfl
      have z5 := hzz.cell 5 rfl
      have z6 := hzz.cell 6 rfl
      have z7 := hzz.cell 7 rfl
      have z8 := hzz.cell 8 rfl
      have g0 := hzz.frz 0
      have g1 := hzz.frz 1
      have g2 := hzz.frz 2
      have g3 := hzz.frz 3
      have g4 := hzz.frz 4
      have g5 := hzz.frz 5
      have g6 := hzz.frz 6
      have g7 := hzz.frz 7
      have g8 := hzz.frz 8
      have hqq := HQ4.out
      have cc0 := hqq.cell 0 rfl
      have cc1 := hqq.cell 1 rfl
      have cc2 := hqq.cell 2 rfl
      have cc3 := hqq.cell 3 rfl
      have cc4 := hqq.cell 4 rfl
      have cc5 := hqq.cell 5 rfl
      have cc6 := hqq.cell 6 rfl
      have cc7 := hqq.cell 7 rfl
      have cc8 := hqq.cell 8 rfl
      have HZZ := Lib.hid hzz
      have HUU := Lib.hid HU4.out
      have HDD := Lib.hid HD4.out
      have HRR : Hid (CalmRel x (⟨8, [], [], 0, 0, 0, [], 0⟩ : EvD) (y)) := Lib.hid ⟨by rw [HKK.out]; rfl, .inr (.inr (.inr (.inr (.inr ⟨by decide, rfl, rfl, rfl, by rw [HY.out], rfl, rfl, rfl, rfl⟩))))⟩
      clear hzz hqq
      go_wp2_with fail
      (try simp only [Exit.inBlock, Exit.then]); refine bodyPost_ret (results_ev rfl _ _ r0 _ _ _ _ _ _ _ _ _ rfl (Blk.set9e HZZ.out _ _ _ _ _ _ _ _ _)) rfl ⟨(⟨8, [], [], 0, 0, 0, [], 0⟩ : EvD), _, rfl, HRR.out, ?_, Upd.set9e HUU.out (.inr (by rw [HR0.out]; exact Nat.le_refl _)) _ _ _ _ _ _ _ _ _⟩
      exact HDD.out.upd (Upd.set9e (Upd.refl [r0] _) (.inl (by simp)) _ _ _ _ _ _ _ _ _) (by simp; omega)
  · rcases h with rfl
    all_goals
      have d0 := dk
      change _ = some (Value.int .i64 9) at d0
      clear dk
      have hQ4 := Blk.new w1 (evCells 9) 143
      have hM4 := HM2.out.alloc (.cells (evCells 9).toArray 143)
      have hZ4 := HZ2.out.alloc (.cells (evCells 9).toArray 143)
      have hD4 := HD2.out.upd ((Upd.refl [] w1).alloc (.cells (evCells 9).toArray 143)) (by simp)
      have hU4 := HU2.out.alloc (.cells (evCells 9).toArray 143)
      have hsz4 : (w1.alloc (.cells (evCells 9).toArray 143)).heap.size = w1.heap.size + 1 := World.size_alloc _ _
      clear hk HD2 HM2 HZ2 HU2
      go_upto_region 3 with fail
      change Code.wp _ _ _ _ (w1.alloc (.cells (evCells 9).toArray 143))
      generalize w1.alloc (.cells (evCells 9).toArray 143) = w4 at *
      generalize w1.heap.size = q at *
      have hbq : b ≠ q := by omega
      have hmq : mb ≠ q := by omega
      have hrq : r0 ≠ q := by omega
      have hbr : b ≠ r0 := by omega
      have hmr : mb ≠ r0 := by omega
      have HQ4 := Lib.hid hQ4
      have HM4 := Lib.hid hM4
      have HZ4 := Lib.hid hZ4
      have HD4 := Lib.hid hD4
      have HU4 := Lib.hid hU4
      clear hQ4 hM4 hZ4 hD4 hU4 d0
      have hzz := HZ4.out
      have z0 := hzz.cell 0 rfl
      have z1 := hzz.cell 1 rfl
      have z2 := hzz.cell 2 rfl
      have z3 := hzz.cell 3 rfl
      have z4 := hzz.cell 4 rfl
      have z5 := hzz.cell 5 rfl
      have z6 := hzz.cell 6 rfl
      have z7 := hzz.cell 7 rfl
      have z8 := hzz.cell 8 rfl
      have g0 := hzz.frz 0
      have g1 := hzz.frz 1
      have g2 := hzz.frz 2
      have g3 := hzz.frz 3
      have g4 := hzz.frz 4
      have g5 := hzz.frz 5
      have g6 := hzz.frz 6
      have g7 := hzz.frz 7
      have g8 := hzz.frz 8
      have hqq := HQ4.out
      have cc0 := hqq.cell 0 rfl
      have cc1 := hqq.cell 1 rfl
      have cc2 := hqq.cell 2 rfl
      have cc3 := hqq.cell 3 rfl
      have cc4 := hqq.cell 4 rfl
      have cc5 := hqq.cell 5 rfl
      have cc6 := hqq.cell 6 rfl
      have cc7 := hqq.cell 7 rfl
      have cc8 := hqq.cell 8 rfl
      have HZZ := Lib.hid hzz
      have HUU := Lib.hid HU4.out
      have HDD := Lib.hid HD4.out
      have HRR : Hid (CalmRel x (⟨9, [], [], 0, 0, 0, [], 0⟩ : EvD) (y)) := Lib.hid ⟨by rw [HKK.out]; rfl, .inr (.inr (.inr (.inr (.inr ⟨by decide, rfl, rfl, rfl, by rw [HY.out], rfl, rfl, rfl, rfl⟩))))⟩
      clear hzz hqq
      go_wp2_with fail
      (try simp only [Exit.inBlock, Exit.then]); refine bodyPost_ret (results_ev rfl _ _ r0 _ _ _ _ _ _ _ _ _ rfl (Blk.set9e HZZ.out _ _ _ _ _ _ _ _ _)) rfl ⟨(⟨9, [], [], 0, 0, 0, [], 0⟩ : EvD), _, rfl, HRR.out, ?_, Upd.set9e HUU.out (.inr (by rw [HR0.out]; exact Nat.le_refl _)) _ _ _ _ _ _ _ _ _⟩
      exact HDD.out.upd (Upd.set9e (Upd.refl [r0] _) (.inl (by simp)) _ _ _ _ _ _ _ _ _) (by simp; omega)
  · rcases h with rfl
    all_goals
      have d0 := dk
      change _ = some (Value.int .i64 10) at d0
      clear dk
      have hQ4 := Blk.new w1 (evCells 10) 143
      have hM4 := HM2.out.alloc (.cells (evCells 10).toArray 143)
      have hZ4 := HZ2.out.alloc (.cells (evCells 10).toArray 143)
      have hD4 := HD2.out.upd ((Upd.refl [] w1).alloc (.cells (evCells 10).toArray 143)) (by simp)
      have hU4 := HU2.out.alloc (.cells (evCells 10).toArray 143)
      have hsz4 : (w1.alloc (.cells (evCells 10).toArray 143)).heap.size = w1.heap.size + 1 := World.size_alloc _ _
      clear hk HD2 HM2 HZ2 HU2
      go_upto_region 3 with fail
      change Code.wp _ _ _ _ (w1.alloc (.cells (evCells 10).toArray 143))
      generalize w1.alloc (.cells (evCells 10).toArray 143) = w4 at *
      generalize w1.heap.size = q at *
      have hbq : b ≠ q := by omega
      have hmq : mb ≠ q := by omega
      have hrq : r0 ≠ q := by omega
      have hbr : b ≠ r0 := by omega
      have hmr : mb ≠ r0 := by omega
      have HQ4 := Lib.hid hQ4
      have HM4 := Lib.hid hM4
      have HZ4 := Lib.hid hZ4
      have HD4 := Lib.hid hD4
      have HU4 := Lib.hid hU4
      clear hQ4 hM4 hZ4 hD4 hU4 d0
      have hzz := HZ4.out
      have z0 := hzz.cell 0 rfl
      have z1 := hzz.cell 1 rfl
      have z2 := hzz.cell 2 rfl
      have z3 := hzz.cell 3 rfl
      have z4 := hzz.cell 4 rfl
      have z5 := hzz.cell 5 rfl
      have z6 := hzz.cell 6 rfl
      have z7 := hzz.cell 7 rfl
      have z8 := hzz.cell 8 rfl
      have g0 := hzz.frz 0
      have g1 := hzz.frz 1
      have g2 := hzz.frz 2
      have g3 := hzz.frz 3
      have g4 := hzz.frz 4
      have g5 := hzz.frz 5
      have g6 := hzz.frz 6
      have g7 := hzz.frz 7
      have g8 := hzz.frz 8
      have hqq := HQ4.out
      have cc0 := hqq.cell 0 rfl
      have cc1 := hqq.cell 1 rfl
      have cc2 := hqq.cell 2 rfl
      have cc3 := hqq.cell 3 rfl
      have cc4 := hqq.cell 4 rfl
      have cc5 := hqq.cell 5 rfl
      have cc6 := hqq.cell 6 rfl
      have cc7 := hqq.cell 7 rfl
      have cc8 := hqq.cell 8 rfl
      have HZZ := Lib.hid hzz
      have HUU := Lib.hid HU4.out
      have HDD := Lib.hid HD4.out
      have HRR : Hid (CalmRel x (⟨10, [], [], 0, 0, 0, [], 0⟩ : EvD) (y)) := Lib.hid ⟨by rw [HKK.out]; rfl, .inr (.inr (.inr (.inr (.inr ⟨by decide, rfl, rfl, rfl, by rw [HY.out], rfl, rfl, rfl, rfl⟩))))⟩
      clear hzz hqq
      go_wp2_with fail
      (try simp only [Exit.inBlock, Exit.then]); refine bodyPost_ret (results_ev rfl _ _ r0 _ _ _ _ _ _ _ _ _ rfl (Blk.set9e HZZ.out _ _ _ _ _ _ _ _ _)) rfl ⟨(⟨10, [], [], 0, 0, 0, [], 0⟩ : EvD), _, rfl, HRR.out, ?_, Upd.set9e HUU.out (.inr (by rw [HR0.out]; exact Nat.le_refl _)) _ _ _ _ _ _ _ _ _⟩
      exact HDD.out.upd (Upd.set9e (Upd.refl [r0] _) (.inl (by simp)) _ _ _ _ _ _ _ _ _) (by simp; omega)
end Go.Proofs.Ytdehkaknbmbieaa

/- The codes of lengths and distances, as they are listed; swingleref06.Long, Back: walks. -/
import Derived.Test.YtdehkaknbmbieaaSame
import Derived.Lib.MinMax
namespace Go.Proofs.Ytdehkaknbmbieaa
set_option linter.unusedVariables false
set_option linter.unusedSimpArgs false
set_option linter.unusedSectionVars false
open Go.RowKit
set_option linter.unusedVariables false
set_option linter.unusedSimpArgs false

theorem results_row_tmp {P : Program} {fn : Func} {p u : Tmp} {ty : TypeId} (h : fn.results = #[.cell p ty, .tmp u]) (tmps : Array Value) (w : World) (g : Nat) (t : TypeId) (cs : Array Value) (fr : Nat × Nat) (d : TypeDesc) (v : Value)
    (hp : tmps.getD p undef = .pointer (some ⟨g, 0, none⟩)) (hv : tmps.getD u undef = v) (hg : w.heap[g]? = some (.cells cs t fr))
    (hu : P.underlying ty = some d) (hd : (match d with | .struct _ | .array _ _ => true | _ => false) = true) (hi : (P.info? ty).map (·.size) = some cs.size) :
    (results fn tmps).run P w = .ok (.tuple #[.agg cs, v]) w := by
  rw [results_cell_tmp h, hp, hv]
  simp [asAddr, run_loadVar_row w g t ty cs fr d hg hu hd hi, Result.andThen]
theorem infoS6 : (Try.prog.info? 42).map (·.size) = some 3 := by kernel_rfl
def lAt : List Nat := [3, 4, 5, 6, 7, 8, 9, 10, 11, 13, 15, 17, 19, 23, 27, 31, 35, 43, 51, 59, 67, 83, 99, 115, 131, 163, 195, 227, 258, 259]
def lBits : List Nat := [0, 0, 0, 0, 0, 0, 0, 0, 1, 1, 1, 1, 2, 2, 2, 2, 3, 3, 3, 3, 4, 4, 4, 4, 5, 5, 5, 5, 0]
/-- Is n of kind i? -/
def isL (n i : Nat) : Prop := lAt.getD i 0 ≤ n ∧ n < lAt.getD (i + 1) 0
instance (n i : Nat) : Decidable (isL n i) := by unfold isL; infer_instance
/-- The first kind from i on, of m more. -/
def findL (n : Nat) : Nat → Nat → Option Nat
  | 0, _ => none
  | m + 1, i => if isL n i then some i else findL n m (i + 1)
theorem findL_all : ∀ n : Fin 259, 3 ≤ n.val → (findL n.val 29 0).isSome = true := by decide +kernel
def longV (i n : Nat) : Value := .agg #[.int .i64 ((257 + i : Nat) : Int), .int .i64 (lBits.getD i 0 : Nat), .int .i64 ((n - lAt.getD i 0 : Nat) : Int)]

set_option maxRecDepth 100000 in
set_option maxHeartbeats 3200000 in
theorem rlong_any (n : Nat) (w : World) (h3 : 3 ≤ n) (h258 : n ≤ 258) :
    Calls Try.prog 22 #[.int .i64 (n : Nat)] w fun e w' => ∃ i, findL n 29 0 = some i ∧ e = .returned (.tuple #[longV i n, .bool true]) ∧ Upd [] w w' := by
  have hall := findL_all ⟨n, by omega⟩ h3
  have HF := Lib.hid hall
  clear hall
  go_enter Try.func22, Try.ntmps22
  go_wp2
  obtain ⟨w2, hw2⟩ : ∃ w2, w2 = ((w.alloc (Obj.cells #[.int .i64 0, .int .i64 0, .int .i64 0] 42)).alloc (Obj.cells (i64s lAt).toArray 3)).alloc (Obj.cells (i64s lBits).toArray 3) := ⟨_, rfl⟩
  change Code.wp _ _ _ _ (((w.alloc (Obj.cells #[.int .i64 0, .int .i64 0, .int .i64 0] 42)).alloc (Obj.cells (i64s lAt).toArray 3)).alloc (Obj.cells (i64s lBits).toArray 3))
  have hU2 : Upd [] w w2 := by rw [hw2]; exact (((Upd.refl [] w).alloc _).alloc _).alloc _
  have hS : Blk w2 w.heap.size [.int .i64 0, .int .i64 0, .int .i64 0] 42 := by rw [hw2]; exact ((Blk.new w [.int .i64 0, .int .i64 0, .int .i64 0] 42).alloc _).alloc _
  have hA : Blk w2 (w.heap.size + 1) (i64s lAt) 3 := by
    have h := (Blk.new (w.alloc (Obj.cells #[.int .i64 0, .int .i64 0, .int .i64 0] 42)) (i64s lAt) 3).alloc (Obj.cells (i64s lBits).toArray 3)
    rw [World.size_alloc] at h
    rw [hw2]; exact h
  have hB : Blk w2 (w.heap.size + 1 + 1) (i64s lBits) 3 := by
    have h := Blk.new ((w.alloc (Obj.cells #[.int .i64 0, .int .i64 0, .int .i64 0] 42)).alloc (Obj.cells (i64s lAt).toArray 3)) (i64s lBits) 3
    rw [World.size_alloc, World.size_alloc] at h
    rw [hw2]; exact h
  rw [← hw2]
  clear hw2
  go_loopg [6, 11] 29 (fun g s6 s11 wr => ∃ i, i ≤ 29 ∧ g = 29 - i ∧ s11 = .int .i64 (i : Nat) ∧ Hid (findL n 29 0 = findL n (29 - i) i) ∧ w2 = wr)
  case atStart => exact ⟨0, by omega, rfl, rfl, Lib.hid rfl, rfl⟩
  case round =>
    obtain ⟨i, hi, rfl, rfl, HL, rfl⟩ := hrel
    by_cases hc : i < 29
    · have hcz : (i : Int) < 29 := by omega
      have hst : findL n (29 - i) i = if isL n i then some i else findL n (29 - (i + 1)) (i + 1) := by
        rw [show 29 - i = (29 - (i + 1)) + 1 by omega]; rfl
      have HST := Lib.hid hst
      clear hst
      have hget : ∀ (l : List Nat) (j : Nat), j < l.length → l[j]? = some (l.getD j 0) := fun l j h => by rw [List.getD, List.getElem?_eq_getElem h]; rfl
      have d1 := hA.cell i (i64s_get _ _ _ (hget lAt i (by show i < 30; omega)))
      have d2 := hA.cell (i + 1) (i64s_get _ _ _ (hget lAt (i + 1) (by show i + 1 < 30; omega)))
      have d3 := hB.cell i (i64s_get _ _ _ (hget lBits i (by show i < 29; omega)))
      have s0 := hS.cell 0 rfl
      have f0 := hS.frz 0
      have f1 := hS.frz 1
      have f2 := hS.frz 2
      have s1 := hS.cell 1 rfl
      have s2 := hS.cell 2 rfl
      clear hget
      have HIL := Lib.hid (show isL n i ↔ lAt.getD i 0 ≤ n ∧ n < lAt.getD (i + 1) 0 from Iff.rfl)
      have HLV := Lib.hid (show longV i n = .agg #[.int .i64 ((257 + i : Nat) : Int), .int .i64 (lBits.getD i 0 : Nat), .int .i64 ((n - lAt.getD i 0 : Nat) : Int)] from rfl)
      generalize lAt.getD i 0 = p at *
      generalize lAt.getD (i + 1) 0 = q at *
      generalize lBits.getD i 0 = bb at *
      have hi30 : (i : Int) < 30 := by omega
      have hi31 : (i : Int) + 1 < 30 := by omega
      have hi01 : (0 : Int) ≤ (i : Int) + 1 := by omega
      by_cases hp : p ≤ n
      · have t1 : decide ((p : Int) ≤ (n : Int)) = true := decide_eq_true (by omega)
        have t1' : decide (p ≤ n) = true := decide_eq_true hp
        have hpz : (p : Int) ≤ (n : Int) := by omega
        by_cases hq : n < q
        · have t2 : decide ((n : Int) < (q : Int)) = true := decide_eq_true (by omega)
          have t2' : decide (n < q) = true := decide_eq_true hq
          have hqz : (n : Int) < (q : Int) := by omega
          have e1 : IntKind.i64.wrap ((n : Int) - (p : Int)) = ((n - p : Nat) : Int) := by rw [IntWalk.i64_in _ (by omega)]; omega
          have e2 : IntKind.i64.wrap (257 + (i : Int)) = ((257 + i : Nat) : Int) := by rw [IntWalk.i64_in _ (by omega)]; omega
          go_wp2
          go_region_law (fail)
          all_goals go_wp2
          all_goals (
            have hB9 := ((hS.set 0 (.int .i64 (257 + (i : Int)))).set 1 (.int .i64 (bb : Nat))).set 2 (.int .i64 ((n - p : Nat) : Int))
            refine bodyPost_ret (results_row_tmp rfl _ _ w.heap.size _ _ _ _ (.bool true) (by simp [Act.put]) (by simp [Act.put]) hB9 Try.underlying42 rfl (by rw [infoS6]; rfl)) (by simp [Act.put]) ⟨i, ?_, ?_, ?_⟩
            · rw [HL.out, HST.out, if_pos (HIL.out.2 ⟨hp, hq⟩)]
            · rw [HLV.out]; rfl
            · exact (((hU2.setCell (.inr (Nat.le_refl _)) _).setCell (.inr (Nat.le_refl _)) _).setCell (.inr (Nat.le_refl _)) _).drew)
        · have t2 : decide ((n : Int) < (q : Int)) = false := decide_eq_false (by omega)
          have t2' : decide (n < q) = false := decide_eq_false hq
          go_wp2
          go_roundg (29 - (i + 1))
          · exact ⟨i + 1, by omega, rfl, by first | rfl | go_num, Lib.hid (by rw [HL.out, HST.out, if_neg (fun h => hq (HIL.out.1 h).2)]), rfl⟩
          · omega
      · have t1 : decide ((p : Int) ≤ (n : Int)) = false := decide_eq_false (by omega)
        have t1' : decide (p ≤ n) = false := decide_eq_false hp
        go_wp2
        go_roundg (29 - (i + 1))
        · exact ⟨i + 1, by omega, rfl, by first | rfl | go_num, Lib.hid (by rw [HL.out, HST.out, if_neg (fun h => hp (HIL.out.1 h).1)]), rfl⟩
        · omega
    · exfalso
      have h1 := HL.out
      rw [show 29 - i = 0 by omega] at h1
      have h2 := HF.out
      rw [h1] at h2
      cases h2

/-- The distances' codes. -/
def dAt : List Nat := [1, 2, 3, 4, 5, 7, 9, 13, 17, 25, 33, 49, 65, 97, 129, 193, 257, 385, 513, 769, 1025, 1537, 2049, 3073, 4097, 6145, 8193, 12289, 16385, 24577, 32769]
def dBt (i : Nat) : Nat := i / 2 - 1
def isD (n i : Nat) : Prop := dAt.getD i 0 ≤ n ∧ n < dAt.getD (i + 1) 0
instance (n i : Nat) : Decidable (isD n i) := by unfold isD; infer_instance
def findD (n : Nat) : Nat → Nat → Option Nat
  | 0, _ => none
  | m + 1, i => if isD n i then some i else findD n m (i + 1)
theorem findD_succ (n m i : Nat) : findD n (m + 1) i = if isD n i then some i else findD n m (i + 1) := rfl
theorem findD_ex (n : Nat) : ∀ m i, dAt.getD i 0 ≤ n → n < dAt.getD (i + m) 0 → ∃ r, findD n m i = some r ∧ i ≤ r ∧ r < i + m
  | 0, i, h1, h2 => by rw [Nat.add_zero] at h2; omega
  | m + 1, i, h1, h2 => by
    rw [findD_succ]
    by_cases h : isD n i
    · exact ⟨i, by rw [if_pos h], by omega, by omega⟩
    · rw [if_neg h]
      have h3 : dAt.getD (i + 1) 0 ≤ n := by
        unfold isD at h
        omega
      obtain ⟨r, r1, r2, r3⟩ := findD_ex n m (i + 1) h3 (by rw [show i + 1 + m = i + (m + 1) by omega]; exact h2)
      exact ⟨r, r1, by omega, by omega⟩
theorem findD_some (n : Nat) (h1 : 1 ≤ n) (h2 : n ≤ 32768) : ∃ r, findD n 30 0 = some r ∧ r < 30 := by
  obtain ⟨r, r1, _, r3⟩ := findD_ex n 30 0 h1 (by show n < 32769; omega)
  exact ⟨r, r1, by omega⟩
def backV (i n : Nat) : Value := .agg #[.int .i64 (i : Nat), .int .i64 (dBt i : Nat), .int .i64 ((n - dAt.getD i 0 : Nat) : Int)]
theorem dBt_max (i : Nat) : max 0 (((i / 2 : Nat) : Int) - 1) = (dBt i : Int) := by unfold dBt; omega
set_option maxRecDepth 100000 in
set_option maxHeartbeats 3200000 in
theorem rback_any (n : Nat) (w : World) (h1 : 1 ≤ n) (h2 : n ≤ 32768) :
    Calls Try.prog 23 #[.int .i64 (n : Nat)] w fun e w' => ∃ i, findD n 30 0 = some i ∧ e = .returned (.tuple #[backV i n, .bool true]) ∧ Upd [] w w' := by
  obtain ⟨r, hr, hr30⟩ := findD_some n h1 h2
  have HR := Lib.hid hr
  clear hr
  go_enter Try.func23, Try.ntmps23
  go_wp2
  change Code.wp _ _ _ _ ((w.alloc (Obj.cells #[.int .i64 0, .int .i64 0, .int .i64 0] 42)).alloc (Obj.cells (i64s dAt).toArray 3))
  have hU := ((Upd.refl [] w).alloc (Obj.cells #[.int .i64 0, .int .i64 0, .int .i64 0] 42)).alloc (Obj.cells (i64s dAt).toArray 3)
  have hS := (Blk.new w [.int .i64 0, .int .i64 0, .int .i64 0] 42).alloc (Obj.cells (i64s dAt).toArray 3)
  have hA := Blk.new (w.alloc (Obj.cells #[.int .i64 0, .int .i64 0, .int .i64 0] 42)) (i64s dAt) 3
  rw [World.size_alloc] at hA
  have HU := Lib.hid hU
  have HS := Lib.hid hS
  have HA := Lib.hid hA
  clear hU hS hA
  generalize (w.alloc (Obj.cells #[.int .i64 0, .int .i64 0, .int .i64 0] 42)).alloc (Obj.cells (i64s dAt).toArray 3) = w2 at *
  go_loopg [5] 100 (fun g s5 wr => ∃ i, i ≤ 30 ∧ g = 100 - i ∧ s5 = .int .i64 (i : Nat) ∧ Hid (findD n (30 - i) i = some r) ∧ w2 = wr)
  case atStart => exact ⟨0, by omega, by omega, rfl, HR, rfl⟩
  case round =>
    obtain ⟨i, hi, rfl, rfl, HF, rfl⟩ := hrel
    by_cases hc : i < 30
    · have hcz : (i : Int) < 30 := by omega
      have HST : Hid (findD n (30 - i) i = if isD n i then some i else findD n (30 - (i + 1)) (i + 1)) := Lib.hid (by rw [show 30 - i = (30 - (i + 1)) + 1 by omega, findD_succ])
      have hget : ∀ (j : Nat), j < dAt.length → dAt[j]? = some (dAt.getD j 0) := fun j h => by rw [List.getD, List.getElem?_eq_getElem h]; rfl
      have d1 := HA.out.cell i (i64s_get _ _ _ (hget i (by show i < 31; omega)))
      have d2 := HA.out.cell (i + 1) (i64s_get _ _ _ (hget (i + 1) (by show i + 1 < 31; omega)))
      have HIL := Lib.hid (show isD n i ↔ dAt.getD i 0 ≤ n ∧ n < dAt.getD (i + 1) 0 from Iff.rfl)
      have HLV := Lib.hid (show backV i n = .agg #[.int .i64 (i : Nat), .int .i64 (dBt i : Nat), .int .i64 ((n - dAt.getD i 0 : Nat) : Int)] from rfl)
      have hmx := dBt_max i
      have hdb : dBt i ≤ 15 := by unfold dBt; omega
      clear hget
      generalize dAt.getD i 0 = p at *
      generalize dAt.getD (i + 1) 0 = q at *
      generalize dBt i = bb at *
      have hi30 : (i : Int) < 31 := by omega
      have hi31 : (i : Int) + 1 < 31 := by omega
      have hi01 : (0 : Int) ≤ (i : Int) + 1 := by omega
      have hw1 : IntKind.i64.wrap ((i : Int) + 1) = (i : Int) + 1 := IntWalk.i64_in _ (by omega)
      have hdiv : (i : Int).tdiv 2 = ((i / 2 : Nat) : Int) := by rw [Int.tdiv_eq_ediv_of_nonneg (by omega)]; rfl
      have hdiv2 : (i : Int) / 2 = ((i / 2 : Nat) : Int) := rfl
      have hwd : IntKind.i64.wrap (((i / 2 : Nat) : Int) - 1) = ((i / 2 : Nat) : Int) - 1 := IntWalk.i64_in _ (by omega)
      generalize (i / 2 : Nat) = hf at *
      by_cases hp : p ≤ n
      · have hpz : (p : Int) ≤ (n : Int) := by omega
        by_cases hq : n < q
        · have hqz : (n : Int) < (q : Int) := by omega
          have e1 : IntKind.i64.wrap ((n : Int) - (p : Int)) = ((n - p : Nat) : Int) := by rw [IntWalk.i64_in _ (by omega)]; omega
          have hS := HS.out
          have f0 := hS.frz 0
          have f1 := hS.frz 1
          have f2 := hS.frz 2
          have c0 := hS.cell 0 rfl
          have c1 := hS.cell 1 rfl
          have c2 := hS.cell 2 rfl
          clear hS
          go_wp2
          have hB9 := ((HS.out.set 0 (.int .i64 (i : Nat))).set 1 (.int .i64 (bb : Nat))).set 2 (.int .i64 ((n - p : Nat) : Int))
          refine bodyPost_ret (results_row_tmp rfl _ _ w.heap.size _ _ _ _ (.bool true) (by simp [Act.put]) (by simp [Act.put]) hB9 Try.underlying42 rfl (by rw [infoS6]; rfl)) (by simp [Act.put]) ⟨i, ?_, ?_, ?_⟩
          · have h1 := HF.out
            rw [HST.out, if_pos (HIL.out.2 ⟨hp, hq⟩)] at h1
            rw [HR.out]
            exact h1.symm
          · rw [HLV.out]; rfl
          · exact ((HU.out.setCell (.inr (Nat.le_refl _)) _).setCell (.inr (Nat.le_refl _)) _).setCell (.inr (Nat.le_refl _)) _
        · have hqz : ¬ (n : Int) < (q : Int) := by omega
          have HF2 : Hid (findD n (30 - (i + 1)) (i + 1) = some r) := Lib.hid (by
            have h1 := HF.out
            rw [HST.out, if_neg (fun h => hq (HIL.out.1 h).2)] at h1
            exact h1)
          go_wp2
          go_roundg (100 - (i + 1))
          · exact ⟨i + 1, by omega, by first | rfl | omega, by first | rfl | go_num, HF2, rfl⟩
          · omega
      · have hpz : ¬ (p : Int) ≤ (n : Int) := by omega
        have HF2 : Hid (findD n (30 - (i + 1)) (i + 1) = some r) := Lib.hid (by
          have h1 := HF.out
          rw [HST.out, if_neg (fun h => hp (HIL.out.1 h).1)] at h1
          exact h1)
        go_wp2
        go_roundg (100 - (i + 1))
        · exact ⟨i + 1, by omega, by first | rfl | omega, by first | rfl | go_num, HF2, rfl⟩
        · omega
    · exfalso
      have h1 := HF.out
      rw [show 30 - i = 0 by omega] at h1
      cases h1
end Go.Proofs.Ytdehkaknbmbieaa

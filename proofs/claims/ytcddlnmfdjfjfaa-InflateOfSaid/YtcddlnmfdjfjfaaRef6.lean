/- Package swingleref06: Long, LongBits, LongOf, BackBits, BackOf: walks. -/
import Derived.Test.YtcddlnmfdjfjfaaCopy
import Derived.Lib.MinMax
namespace Go.Proofs.Ytcddlnmfdjfjfaa
open Go.RowKit
set_option linter.unusedVariables false

theorem results_row_tmp {P : Program} {fn : Func} {p u : Tmp} {ty : TypeId} (h : fn.results = #[.cell p ty, .tmp u]) (tmps : Array Value) (w : World) (g : Nat) (t : TypeId) (cs : Array Value) (fr : Nat × Nat) (d : TypeDesc) (v : Value)
    (hp : tmps.getD p undef = .pointer (some ⟨g, 0, none⟩)) (hv : tmps.getD u undef = v) (hg : w.heap[g]? = some (.cells cs t fr))
    (hu : P.underlying ty = some d) (hd : (match d with | .struct _ | .array _ _ => true | _ => false) = true) (hi : (P.info? ty).map (·.size) = some cs.size) :
    (results fn tmps).run P w = .ok (.tuple #[.agg cs, v]) w := by
  rw [results_cell_tmp h, hp, hv]
  simp [asAddr, run_loadVar_row w g t ty cs fr d hg hu hd hi, Result.andThen]
theorem infoS6 : (Try.prog.info? 115).map (·.size) = some 3 := by kernel_rfl
def lAt : List Nat := [3, 4, 5, 6, 7, 8, 9, 10, 11, 13, 15, 17, 19, 23, 27, 31, 35, 43, 51, 59, 67, 83, 99, 115, 131, 163, 195, 227, 258, 259]
def lBits : List Nat := [0, 0, 0, 0, 0, 0, 0, 0, 1, 1, 1, 1, 2, 2, 2, 2, 3, 3, 3, 3, 4, 4, 4, 4, 5, 5, 5, 5, 0]
/-- Is n of kind i? -/
def isL (n i : Nat) : Prop := lAt.getD i 0 ≤ n ∧ n < lAt.getD (i + 1) 0
instance (n i : Nat) : Decidable (isL n i) := by unfold isL; infer_instance
/-- The first kind from i on, of m more. -/
def findL (n : Nat) : Nat → Nat → Option Nat
  | 0, _ => none
  | m + 1, i => if isL n i then some i else findL n m (i + 1)
theorem findL_all : ∀ n : Fin 259, 3 ≤ n.val → (findL n.val 29 0).isSome = true := by decide +kernel
def longV (i n : Nat) : Value := .agg #[.int .i64 ((257 + i : Nat) : Int), .int .i64 (lBits.getD i 0 : Nat), .int .i64 ((n - lAt.getD i 0 : Nat) : Int)]

set_option maxRecDepth 100000 in
set_option maxHeartbeats 3200000 in
theorem rlong_any (n : Nat) (w : World) (h3 : 3 ≤ n) (h258 : n ≤ 258) :
    Calls Try.prog 81 #[.int .i64 (n : Nat)] w fun e w' => ∃ i, findL n 29 0 = some i ∧ e = .returned (.tuple #[longV i n, .bool true]) ∧ Upd [] w w' := by
  have hall := findL_all ⟨n, by omega⟩ h3
  have HF := Lib.hid hall
  clear hall
  go_enter Try.func81, Try.ntmps81
  go_wp2
  obtain ⟨w2, hw2⟩ : ∃ w2, w2 = ((w.alloc (Obj.cells #[.int .i64 0, .int .i64 0, .int .i64 0] 115)).alloc (Obj.cells (i64s lAt).toArray 3)).alloc (Obj.cells (i64s lBits).toArray 3) := ⟨_, rfl⟩
  change Code.wp _ _ _ _ (((w.alloc (Obj.cells #[.int .i64 0, .int .i64 0, .int .i64 0] 115)).alloc (Obj.cells (i64s lAt).toArray 3)).alloc (Obj.cells (i64s lBits).toArray 3))
  have hU2 : Upd [] w w2 := by rw [hw2]; exact (((Upd.refl [] w).alloc _).alloc _).alloc _
  have hS : Blk w2 w.heap.size [.int .i64 0, .int .i64 0, .int .i64 0] 115 := by rw [hw2]; exact ((Blk.new w [.int .i64 0, .int .i64 0, .int .i64 0] 115).alloc _).alloc _
  have hA : Blk w2 (w.heap.size + 1) (i64s lAt) 3 := by
    have h := (Blk.new (w.alloc (Obj.cells #[.int .i64 0, .int .i64 0, .int .i64 0] 115)) (i64s lAt) 3).alloc (Obj.cells (i64s lBits).toArray 3)
    rw [World.size_alloc] at h
    rw [hw2]; exact h
  have hB : Blk w2 (w.heap.size + 1 + 1) (i64s lBits) 3 := by
    have h := Blk.new ((w.alloc (Obj.cells #[.int .i64 0, .int .i64 0, .int .i64 0] 115)).alloc (Obj.cells (i64s lAt).toArray 3)) (i64s lBits) 3
    rw [World.size_alloc, World.size_alloc] at h
    rw [hw2]; exact h
  rw [← hw2]
  clear hw2
  go_loopg [6, 11] 29 (fun g s6 s11 wr => ∃ i, i ≤ 29 ∧ g = 29 - i ∧ s11 = .int .i64 (i : Nat) ∧ Hid (findL n 29 0 = findL n (29 - i) i) ∧ w2 = wr)
  case atStart => exact ⟨0, by omega, rfl, rfl, Lib.hid rfl, rfl⟩
  case round =>
    obtain ⟨i, hi, rfl, rfl, HL, rfl⟩ := hrel
    by_cases hc : i < 29
    · have hcz : (i : Int) < 29 := by omega
      have hst : findL n (29 - i) i = if isL n i then some i else findL n (29 - (i + 1)) (i + 1) := by
        rw [show 29 - i = (29 - (i + 1)) + 1 by omega]; rfl
      have HST := Lib.hid hst
      clear hst
      have hget : ∀ (l : List Nat) (j : Nat), j < l.length → l[j]? = some (l.getD j 0) := fun l j h => by rw [List.getD, List.getElem?_eq_getElem h]; rfl
      have d1 := hA.cell i (i64s_get _ _ _ (hget lAt i (by show i < 30; omega)))
      have d2 := hA.cell (i + 1) (i64s_get _ _ _ (hget lAt (i + 1) (by show i + 1 < 30; omega)))
      have d3 := hB.cell i (i64s_get _ _ _ (hget lBits i (by show i < 29; omega)))
      have s0 := hS.cell 0 rfl
      have f0 := hS.frz 0
      have f1 := hS.frz 1
      have f2 := hS.frz 2
      have s1 := hS.cell 1 rfl
      have s2 := hS.cell 2 rfl
      clear hget
      have HIL := Lib.hid (show isL n i ↔ lAt.getD i 0 ≤ n ∧ n < lAt.getD (i + 1) 0 from Iff.rfl)
      have HLV := Lib.hid (show longV i n = .agg #[.int .i64 ((257 + i : Nat) : Int), .int .i64 (lBits.getD i 0 : Nat), .int .i64 ((n - lAt.getD i 0 : Nat) : Int)] from rfl)
      generalize lAt.getD i 0 = p at *
      generalize lAt.getD (i + 1) 0 = q at *
      generalize lBits.getD i 0 = bb at *
      have hi30 : (i : Int) < 30 := by omega
      have hi31 : (i : Int) + 1 < 30 := by omega
      have hi01 : (0 : Int) ≤ (i : Int) + 1 := by omega
      by_cases hp : p ≤ n
      · have t1 : decide ((p : Int) ≤ (n : Int)) = true := decide_eq_true (by omega)
        have t1' : decide (p ≤ n) = true := decide_eq_true hp
        have hpz : (p : Int) ≤ (n : Int) := by omega
        by_cases hq : n < q
        · have t2 : decide ((n : Int) < (q : Int)) = true := decide_eq_true (by omega)
          have t2' : decide (n < q) = true := decide_eq_true hq
          have hqz : (n : Int) < (q : Int) := by omega
          have e1 : IntKind.i64.wrap ((n : Int) - (p : Int)) = ((n - p : Nat) : Int) := by rw [IntWalk.i64_in _ (by omega)]; omega
          have e2 : IntKind.i64.wrap (257 + (i : Int)) = ((257 + i : Nat) : Int) := by rw [IntWalk.i64_in _ (by omega)]; omega
          go_wp2
          go_region_law (fail)
          all_goals go_wp2
          all_goals (
            have hB9 := ((hS.set 0 (.int .i64 (257 + (i : Int)))).set 1 (.int .i64 (bb : Nat))).set 2 (.int .i64 ((n - p : Nat) : Int))
            refine bodyPost_ret (results_row_tmp rfl _ _ w.heap.size _ _ _ _ (.bool true) (by simp [Act.put]) (by simp [Act.put]) hB9 Try.underlying115 rfl (by rw [infoS6]; rfl)) (by simp [Act.put]) ⟨i, ?_, ?_, ?_⟩
            · rw [HL.out, HST.out, if_pos (HIL.out.2 ⟨hp, hq⟩)]
            · rw [HLV.out]; rfl
            · exact (((hU2.setCell (.inr (Nat.le_refl _)) _).setCell (.inr (Nat.le_refl _)) _).setCell (.inr (Nat.le_refl _)) _).drew)
        · have t2 : decide ((n : Int) < (q : Int)) = false := decide_eq_false (by omega)
          have t2' : decide (n < q) = false := decide_eq_false hq
          go_wp2
          go_roundg (29 - (i + 1))
          · exact ⟨i + 1, by omega, rfl, by first | rfl | go_num, Lib.hid (by rw [HL.out, HST.out, if_neg (fun h => hq (HIL.out.1 h).2)]), rfl⟩
          · omega
      · have t1 : decide ((p : Int) ≤ (n : Int)) = false := decide_eq_false (by omega)
        have t1' : decide (p ≤ n) = false := decide_eq_false hp
        go_wp2
        go_roundg (29 - (i + 1))
        · exact ⟨i + 1, by omega, rfl, by first | rfl | go_num, Lib.hid (by rw [HL.out, HST.out, if_neg (fun h => hp (HIL.out.1 h).1)]), rfl⟩
        · omega
    · exfalso
      have h1 := HL.out
      rw [show 29 - i = 0 by omega] at h1
      have h2 := HF.out
      rw [h1] at h2
      cases h2
theorem bits_hit : ∀ n : Fin 259, 3 ≤ n.val → longB ((257 + (findL n.val 29 0).getD 0 : Nat) : Int) = ((lBits.getD ((findL n.val 29 0).getD 0) 0 : Nat) : Int) := by decide +kernel
theorem bits_miss : ∀ c : Fin 300, longB (c.val : Nat) = -1 ∨ (257 ≤ c.val ∧ 3 ≤ lAt.getD (c.val - 257) 0 ∧ lAt.getD (c.val - 257) 0 ≤ 258 ∧ findL (lAt.getD (c.val - 257) 0) 29 0 = some (c.val - 257)) := by decide +kernel
theorem of_hit : ∀ n : Fin 259, 3 ≤ n.val → longN ((257 + (findL n.val 29 0).getD 0 : Nat) : Int) ((n.val - lAt.getD ((findL n.val 29 0).getD 0) 0 : Nat) : Int) = some n.val := by decide +kernel
theorem of_miss0 : ∀ c : Fin 300, ∀ m : Fin 32, longN (c.val : Nat) (m.val : Nat) = none ∨ ((longN (c.val : Nat) (m.val : Nat)).isSome = true ∧ (longN (c.val : Nat) (m.val : Nat)).getD 0 < 259 ∧ 3 ≤ (longN (c.val : Nat) (m.val : Nat)).getD 0 ∧ 257 ≤ c.val ∧
    findL ((longN (c.val : Nat) (m.val : Nat)).getD 0) 29 0 = some (c.val - 257) ∧ (longN (c.val : Nat) (m.val : Nat)).getD 0 - lAt.getD (c.val - 257) 0 = m.val) := by decide +kernel
theorem of_miss (c : Fin 300) (m : Fin 32) : longN (c.val : Nat) (m.val : Nat) = none ∨ ∃ v : Nat, v < 259 ∧ longN (c.val : Nat) (m.val : Nat) = some v ∧ 3 ≤ v ∧ 257 ≤ c.val ∧ findL v 29 0 = some (c.val - 257) ∧ v - lAt.getD (c.val - 257) 0 = m.val := by
  rcases of_miss0 c m with h | ⟨h0, h1, h2, h3, h4, h5⟩
  · exact .inl h
  · obtain ⟨v, hv⟩ := Option.isSome_iff_exists.1 h0
    rw [hv] at h1 h2 h4 h5
    exact .inr ⟨v, h1, hv, h2, h3, h4, h5⟩

set_option maxRecDepth 100000 in
set_option maxHeartbeats 3200000 in
theorem rlongBits_any (c : Nat) (w : World) (hc : c < 300) : Calls Try.prog 72 #[.int .i64 (c : Nat)] w fun e w' => e = .returned (.int .i64 (longB (c : Nat))) ∧ Upd [] w w' := by
  have HM := Lib.hid (bits_miss ⟨c, hc⟩)
  have HB := Lib.hid (show longB (c : Nat) = longB (c : Nat) from rfl)
  obtain ⟨r, hr⟩ : ∃ r, r = longB (c : Nat) := ⟨_, rfl⟩
  have HR := Lib.hid hr
  rw [← hr]
  clear hr HB
  go_enter Try.func72, Try.ntmps72
  go_wp2
  go_loopg [3] 256 (fun g s3 wr => ∃ n, 3 ≤ n ∧ n ≤ 259 ∧ g = 259 - n ∧ s3 = .int .i64 (n : Nat) ∧ Hid (∀ j, 3 ≤ j → j < n → ∀ i, findL j 29 0 = some i → 257 + i ≠ c) ∧ Upd [] w wr)
  case atStart => exact ⟨3, by omega, by omega, rfl, rfl, Lib.hid (fun j h1 h2 => by omega), .refl _ _⟩
  case round =>
    obtain ⟨n, h3, h259, rfl, rfl, HN, hU⟩ := hrel
    by_cases hn : n ≤ 258
    · have hnz : (n : Int) ≤ 258 := by omega
      have HL := Lib.hid (rlong_any n wr h3 hn)
      go_wp2_with fail
      refine HL.out.mono ?_
      rintro e w2 ⟨i, hi, rfl, hU2⟩
      have hbh := bits_hit ⟨n, by omega⟩ h3
      dsimp only at hbh
      rw [hi] at hbh
      simp only [Option.getD_some] at hbh
      have HBH := Lib.hid hbh
      have HI := Lib.hid hi
      clear hbh hi
      unfold longV
      generalize lBits.getD i 0 = bb at *
      generalize n - lAt.getD i 0 = mm at *
      by_cases hcc : 257 + i = c
      · have t1 : ((257 : Int) + (i : Int) == (c : Int)) = true := by simp; omega
        go_wp2
        go_returns
        refine ⟨?_, hU.then (hU2.alloc _)⟩
        rw [HR.out, ← hcc, HBH.out]; rfl
      · have t1 : ((257 : Int) + (i : Int) == (c : Int)) = false := by simp; omega
        go_wp2
        go_roundg (259 - (n + 1))
        · refine ⟨n + 1, by omega, by omega, rfl, by first | rfl | go_num, Lib.hid ?_, hU.then (hU2.alloc _)⟩
          intro j h1 h2 i' hj
          by_cases hjn : j < n
          · exact HN.out j h1 hjn i' hj
          · have : j = n := by omega
            subst this
            rw [HI.out] at hj
            cases hj
            exact hcc
        · omega
    · have hnz : ¬ (n : Int) ≤ 258 := by omega
      go_wp2
      go_returns
      refine ⟨?_, hU⟩
      rw [HR.out]
      rcases HM.out with h | ⟨h1, h2, h3', h4⟩
      · rw [h]; rfl
      · exact absurd (by omega) (HN.out _ h2 (by omega) _ h4)

set_option maxRecDepth 100000 in
set_option maxHeartbeats 3200000 in
theorem rlongOf_any (c m : Nat) (w : World) (hc : c < 300) (hm : m < 32) : Calls Try.prog 73 #[.int .i64 (c : Nat), .int .i64 (m : Nat)] w fun e w' => e = .returned (optVal (longN (c : Nat) (m : Nat))) ∧ Upd [] w w' := by
  have HM := Lib.hid (of_miss ⟨c, hc⟩ ⟨m, hm⟩)
  obtain ⟨r, hr⟩ : ∃ r, r = longN (c : Nat) (m : Nat) := ⟨_, rfl⟩
  have HR := Lib.hid hr
  rw [← hr]
  clear hr
  go_enter Try.func73, Try.ntmps73
  go_wp2
  go_loopg [6] 256 (fun g s6 wr => ∃ n, 3 ≤ n ∧ n ≤ 259 ∧ g = 259 - n ∧ s6 = .int .i64 (n : Nat) ∧ Hid (∀ j, 3 ≤ j → j < n → ∀ i, findL j 29 0 = some i → ¬ (257 + i = c ∧ j - lAt.getD i 0 = m)) ∧ Upd [] w wr)
  case atStart => exact ⟨3, by omega, by omega, rfl, rfl, Lib.hid (fun j h1 h2 => by omega), .refl _ _⟩
  case round =>
    obtain ⟨n, h3, h259, rfl, rfl, HN, hU⟩ := hrel
    by_cases hn : n ≤ 258
    · have hnz : (n : Int) ≤ 258 := by omega
      have HL := Lib.hid (rlong_any n wr h3 hn)
      go_wp2_with fail
      refine HL.out.mono ?_
      rintro e w2 ⟨i, hi, rfl, hU2⟩
      have hbh := of_hit ⟨n, by omega⟩ h3
      dsimp only at hbh
      rw [hi] at hbh
      simp only [Option.getD_some] at hbh
      have HBH := Lib.hid hbh
      have HI := Lib.hid hi
      clear hbh hi
      unfold longV
      generalize lBits.getD i 0 = bb at *
      obtain ⟨mm, hmm⟩ : ∃ mm, mm = n - lAt.getD i 0 := ⟨_, rfl⟩
      rw [← hmm] at HBH ⊢
      have HMM := Lib.hid hmm
      clear hmm
      have next : ¬ (257 + i = c ∧ mm = m) → Hid (∀ j, 3 ≤ j → j < n + 1 → ∀ i, findL j 29 0 = some i → ¬ (257 + i = c ∧ j - lAt.getD i 0 = m)) := fun hcc => Lib.hid (by
        intro j h1 h2 i' hj
        by_cases hjn : j < n
        · exact HN.out j h1 hjn i' hj
        · have : j = n := by omega
          subst this
          rw [HI.out] at hj
          cases hj
          rw [← HMM.out]
          exact hcc)
      have NEXT := Lib.hid next
      clear next
      by_cases hcc : 257 + i = c
      · have t1 : ((257 : Int) + (i : Int) == (c : Int)) = true := by simp; omega
        by_cases hm2 : mm = m
        · have t2 : ((mm : Int) == (m : Int)) = true := by simp; omega
          have t2' : (mm == m) = true := by simp [hm2]
          go_wp2
          go_returns
          refine ⟨?_, hU.then (hU2.alloc _)⟩
          rw [HR.out, ← hcc, ← hm2, HBH.out]
          rfl
        · have t2 : ((mm : Int) == (m : Int)) = false := by simp; omega
          have t2' : (mm == m) = false := by simp [hm2]
          go_wp2
          go_roundg (259 - (n + 1))
          · exact ⟨n + 1, by omega, by omega, rfl, by first | rfl | go_num, NEXT.out (fun h => hm2 h.2), hU.then (hU2.alloc _)⟩
          · omega
      · have t1 : ((257 : Int) + (i : Int) == (c : Int)) = false := by simp; omega
        go_wp2
        go_roundg (259 - (n + 1))
        · exact ⟨n + 1, by omega, by omega, rfl, by first | rfl | go_num, NEXT.out (fun h => hcc h.1), hU.then (hU2.alloc _)⟩
        · omega
    · have hnz : ¬ (n : Int) ≤ 258 := by omega
      go_wp2
      go_returns
      refine ⟨?_, hU⟩
      rw [HR.out]
      rcases HM.out with h | ⟨v, hv, h1, h2, h3', h4, h5⟩
      · rw [h]; rfl
      · exact absurd ⟨by omega, h5⟩ (HN.out _ h2 (by omega) _ h4)
end Go.Proofs.Ytcddlnmfdjfjfaa
namespace Go.Proofs.Ytcddlnmfdjfjfaa
open Go.RowKit
set_option linter.unusedVariables false

def bAt : List Nat := [1, 2, 3, 4, 5, 7, 9, 13, 17, 25, 33, 49, 65, 97, 129, 193, 257, 385, 513, 769, 1025, 1537, 2049, 3073, 4097, 6145, 8193, 12289, 16385, 24577, 32769]
theorem back_bits : ∀ c : Fin 30, backB (c.val : Nat) = max 0 (((c.val / 2 : Nat) : Int) - 1) := by decide +kernel
theorem back_out (c : Nat) (h : 30 ≤ c) : backB (c : Nat) = -1 := by unfold backB sbitsI; rw [if_pos (.inr (by omega))]
theorem back_fact : ∀ c : Fin 30, sbitsI 2 4 30 (c.val : Nat) ≠ -1 ∧ (2 : Int) ^ (sbitsI 2 4 30 (c.val : Nat)).toNat = ((bAt.getD (c.val + 1) 0 - bAt.getD c.val 0 : Nat) : Int) ∧ sbeg 1 2 4 30 c.val = bAt.getD c.val 0 ∧ bAt.getD c.val 0 ≤ bAt.getD (c.val + 1) 0 ∧ bAt.getD (c.val + 1) 0 ≤ 32769 := by decide +kernel

set_option maxRecDepth 100000 in
set_option maxHeartbeats 1600000 in
theorem rbackBits_any (c : Nat) (w : World) (hc : c < 300) : Calls Try.prog 74 #[.int .i64 (c : Nat)] w fun e w' => e = .returned (.int .i64 (backB (c : Nat))) ∧ Upd [] w w' := by
  by_cases h : c ≤ 29
  · have hf := back_bits ⟨c, by omega⟩
    have HF := Lib.hid hf
    clear hf
    have t1 : decide ((29 : Int) < (c : Int)) = false := decide_eq_false (by omega)
    have t2 : decide (29 < c) = false := decide_eq_false (by omega)
    have q1 : (c : Int).tdiv 2 = ((c / 2 : Nat) : Int) := by rw [Int.tdiv_eq_ediv_of_nonneg (by omega)]; omega
    have q1' : (c : Int) / 2 = ((c / 2 : Nat) : Int) := by omega
    obtain ⟨d, hd⟩ : ∃ d, d = c / 2 := ⟨_, rfl⟩
    rw [← hd] at q1 q1'
    have HD := Lib.hid hd
    have hd2 : d ≤ 14 := by omega
    clear hd
    have q2 : IntKind.i64.wrap ((d : Int) - 1) = (d : Int) - 1 := IntWalk.i64_in _ (by omega)
    go_enter Try.func74, Try.ntmps74
    go_wp2
    go_returns
    refine ⟨?_, .refl _ _⟩
    rw [HF.out, ← HD.out]
    rfl
  · have hf := Lib.hid (back_out c (by omega))
    have t1 : decide ((29 : Int) < (c : Int)) = true := decide_eq_true (by omega)
    have t2 : decide (29 < c) = true := decide_eq_true (by omega)
    go_enter Try.func74, Try.ntmps74
    go_wp2
    go_returns
    exact ⟨by rw [hf.out]; rfl, .refl _ _⟩

set_option maxRecDepth 100000 in
set_option maxHeartbeats 1600000 in
theorem rbackOf_any (c m : Nat) (w : World) (hc : c < 300) (hm : m < 1000000) : Calls Try.prog 75 #[.int .i64 (c : Nat), .int .i64 (m : Nat)] w fun e w' => e = .returned (optVal (numS 1 2 4 30 (c : Nat) (m : Nat))) ∧ Upd [] w w' := by
  by_cases h : c ≤ 29
  · obtain ⟨f1, f2, f3, f4, f5⟩ := back_fact ⟨c, by omega⟩
    dsimp only at f1 f2 f3 f4 f5
    have hget : ∀ j, j < 31 → bAt[j]? = some (bAt.getD j 0) := fun j h => by rw [List.getD, List.getElem?_eq_getElem (show j < bAt.length from h)]; rfl
    have g1 := hget c (by omega)
    have g2 := hget (c + 1) (by omega)
    have hn : numS 1 2 4 30 (c : Nat) (m : Nat) = if m < bAt.getD (c + 1) 0 - bAt.getD c 0 then some (bAt.getD c 0 + m) else none := by
      unfold numS
      rw [f2, Int.toNat_natCast, Int.toNat_natCast, f3]
      by_cases hlt : m < bAt.getD (c + 1) 0 - bAt.getD c 0
      · rw [if_neg (by omega), if_pos hlt]
      · rw [if_pos (by omega), if_neg hlt]
    have HN := Lib.hid hn
    have G1 := Lib.hid g1
    have G2 := Lib.hid g2
    clear f1 f2 f3 g1 g2 hn hget
    generalize bAt.getD (c + 1) 0 = q at *
    generalize bAt.getD c 0 = p at *
    have t1 : decide ((29 : Int) < (c : Int)) = false := decide_eq_false (by omega)
    have t2 : decide (29 < c) = false := decide_eq_false (by omega)
    have hc31 : (c : Int) < 31 := by omega
    have hc32 : (c : Int) + 1 < 31 := by omega
    have hc0 : (0 : Int) ≤ (c : Int) + 1 := by omega
    have e1 : IntKind.i64.wrap ((q : Int) - (p : Int)) = (q : Int) - (p : Int) := IntWalk.i64_in _ (by omega)
    have e2 : IntKind.i64.wrap ((c : Int) + 1) = (c : Int) + 1 := IntWalk.i64_in _ (by omega)
    have e3 : ((c : Int) + 1).toNat = c + 1 := by omega
    have t4 : decide ((c : Int) < 0) = false := decide_eq_false (by omega)
    have t5 : decide ((m : Int) < 0) = false := decide_eq_false (by omega)
    have t6 : (0 : Int) ≤ (c : Int) := by omega
    go_enter Try.func75, Try.ntmps75
    go_upto_region 2 with fail
    have hB := Blk.new w (i64s bAt) 3
    have hU : Upd [] w (w.alloc (.cells (i64s bAt).toArray 3)) := (Upd.refl [] w).alloc _
    change Code.wp _ _ _ _ (w.alloc (.cells (i64s bAt).toArray 3))
    generalize w.alloc (.cells (i64s bAt).toArray 3) = w1 at *
    have d1 := hB.cell c (i64s_get _ _ _ G1.out)
    have d2 := hB.cell (c + 1) (i64s_get _ _ _ G2.out)
    clear hB
    have HU := Lib.hid hU
    clear hU
    generalize w.heap.size = wb at *
    by_cases hlt : m < q - p
    · have t3 : decide ((q : Int) - (p : Int) ≤ (m : Int)) = false := decide_eq_false (by omega)
      go_wp2
      go_quiet (fail)
      go_wp2
      go_returns
      exact ⟨by rw [HN.out, if_pos hlt]; rfl, HU.out.drewN _⟩
    · have t3 : decide ((q : Int) - (p : Int) ≤ (m : Int)) = true := decide_eq_true (by omega)
      go_wp2
      go_quiet (fail)
      go_wp2
      go_returns
      exact ⟨by rw [HN.out, if_neg hlt]; rfl, HU.out.drewN _⟩
  · have hn : numS 1 2 4 30 (c : Nat) (m : Nat) = none := by
      unfold numS
      rw [if_pos (.inl (by have := back_out c (by omega); unfold backB at this; exact this))]
    have HN := Lib.hid hn
    clear hn
    have t1 : decide ((29 : Int) < (c : Int)) = true := decide_eq_true (by omega)
    have t2 : decide (29 < c) = true := decide_eq_true (by omega)
    have t4 : decide ((c : Int) < 0) = false := decide_eq_false (by omega)
    go_enter Try.func75, Try.ntmps75
    go_upto_region 2 with fail
    have hU : Upd [] w (w.alloc (.cells (i64s bAt).toArray 3)) := (Upd.refl [] w).alloc _
    change Code.wp _ _ _ _ (w.alloc (.cells (i64s bAt).toArray 3))
    generalize w.alloc (.cells (i64s bAt).toArray 3) = w1 at *
    generalize w.heap.size = wb at *
    have HU := Lib.hid hU
    clear hU
    go_wp2
    go_quiet (fail)
    go_wp2
    go_returns
    exact ⟨by rw [HN.out]; rfl, HU.out.drewN _⟩
end Go.Proofs.Ytcddlnmfdjfjfaa

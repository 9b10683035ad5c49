/- Package symbol: sign, Long, Back: walks. -/
import Derived.Test.YtdehkaknbmbieaaGreatQAR
import Derived.Lib.MinMax
import Derived.Test.YtdehkaknbmbieaaGreatQAL
namespace Go.Proofs.YtdehkaknbmbieaaGreat
set_option linter.unusedVariables false
set_option linter.unusedSimpArgs false
set_option linter.unusedSectionVars false
open Go.RowKit
set_option linter.unusedVariables false
set_option linter.unusedSimpArgs false

theorem results_rowT {P : Program} {fn : Func} {p u : Tmp} {ty : TypeId} (h : fn.results = #[.cell p ty, .tmp u]) (tmps : Array Value) (w : World) (g : Nat) (t : TypeId) (cs : Array Value) (fr : Nat × Nat) (d : TypeDesc) (v : Value)
    (hp : tmps.getD p undef = .pointer (some ⟨g, 0, none⟩)) (hv : tmps.getD u undef = v) (hg : w.heap[g]? = some (.cells cs t fr))
    (hu : P.underlying ty = some d) (hd : (match d with | .struct _ | .array _ _ => true | _ => false) = true) (hi : (P.info? ty).map (·.size) = some cs.size) :
    (results fn tmps).run P w = .ok (.tuple #[.agg cs, v]) w := by
  rw [results_cell_tmp h, hp, hv]
  simp [asAddr, run_loadVar_row w g t ty cs fr d hg hu hd hi, Result.andThen]
theorem infoSign : (Tryz.prog.info? 91).map (·.size) = some 3 := by kernel_rfl
/-- Does a code's span hold n? -/
def inS (B G F M n k : Nat) : Prop := sbeg B G F M k ≤ n ∧ n < sbeg B G F M k + 2 ^ (sbitsI G F M (k : Nat)).toNat
instance (B G F M n k : Nat) : Decidable (inS B G F M n k) := by unfold inS; infer_instance
/-- The first code from i on, of m more. -/
def findS (B G F M n : Nat) : Nat → Nat → Option Nat
  | 0, _ => none
  | m + 1, i => if inS B G F M n i then some i else findS B G F M n m (i + 1)
theorem findS_succ (B G F M n m i : Nat) : findS B G F M n (m + 1) i = if inS B G F M n i then some i else findS B G F M n m (i + 1) := rfl
theorem findS_none (B G F M n i : Nat) : findS B G F M n 0 i = none := rfl
def signV (B G F M n k : Nat) : Value := .agg #[.int .i64 (k : Nat), .int .i64 ((sbitsI G F M (k : Nat)).toNat : Nat), .int .i64 ((n - sbeg B G F M k : Nat) : Int)]
set_option maxRecDepth 100000 in
set_option maxHeartbeats 3200000 in
theorem sign_any (B G F M n r : Nat) (w : World) (hG : 1 ≤ G) (hG2 : G ≤ 100) (hF : F ≤ 100) (hM : M ≤ 100) (hB : B ≤ 100) (hb : ∀ j : Nat, j < M → sbitsI G F M (j : Nat) ≤ 13) (hn : n ≤ 1000000)
    (hr : findS B G F M n M 0 = some r) : Calls Tryz.prog 86 #[scaleV B G F M, .int .i64 (n : Nat)] w fun e w' => e = .returned (.tuple #[signV B G F M n r, .bool true]) ∧ Upd [] w w' := by
  have HBT := Lib.hid (fun j w' => scale_bits B G F M j w' hG hG2 hF hM)
  have HBG := Lib.hid (fun k w' (hk : k ≤ M) => scale_begin B G F M k w' hG hG2 hF hM hB hb hk)
  have HBD := Lib.hid hb
  have HLE := Lib.hid (sbeg_le B G F M hb)
  have HR := Lib.hid hr
  unfold scaleV at HBT HBG ⊢
  have hU := ((Upd.refl [] w).alloc (.cells #[.int .i64 (B : Nat), .int .i64 (G : Nat), .int .i64 (F : Nat), .int .i64 (M : Nat)] 128)).alloc (.cells #[.int .i64 0, .int .i64 0, .int .i64 0] 91)
  have hP := (Blk.new w [.int .i64 (B : Nat), .int .i64 (G : Nat), .int .i64 (F : Nat), .int .i64 (M : Nat)] 128).alloc (.cells #[.int .i64 0, .int .i64 0, .int .i64 0] 91)
  have hQ := Blk.new (w.alloc (.cells #[.int .i64 (B : Nat), .int .i64 (G : Nat), .int .i64 (F : Nat), .int .i64 (M : Nat)] 128)) [.int .i64 0, .int .i64 0, .int .i64 0] 91
  rw [World.size_alloc] at hQ
  clear hb hr
  go_enter Tryz.func86, Tryz.ntmps86
  go_wp2
  have HU := Lib.hid hU
  have HP := Lib.hid hP
  have HQ := Lib.hid hQ
  clear hU hP hQ
  change Code.wp _ _ _ _ ((w.alloc (.cells #[.int .i64 (B : Nat), .int .i64 (G : Nat), .int .i64 (F : Nat), .int .i64 (M : Nat)] 128)).alloc (.cells #[.int .i64 0, .int .i64 0, .int .i64 0] 91))
  generalize (w.alloc (.cells #[.int .i64 (B : Nat), .int .i64 (G : Nat), .int .i64 (F : Nat), .int .i64 (M : Nat)] 128)).alloc (.cells #[.int .i64 0, .int .i64 0, .int .i64 0] 91) = w2 at *
  generalize hp0 : w.heap.size = p at *
  have HP0 := Lib.hid hp0
  clear hp0
  go_loopg [10] 100 (fun g s10 wr => ∃ i, i ≤ M ∧ g = 100 - i ∧ s10 = .int .i64 (i : Nat) ∧ Hid (findS B G F M n (M - i) i = some r) ∧ Hid (Upd [] w wr) ∧ Hid (Blk wr p [.int .i64 (B : Nat), .int .i64 (G : Nat), .int .i64 (F : Nat), .int .i64 (M : Nat)] 128) ∧ Hid (Blk wr (p + 1) [.int .i64 0, .int .i64 0, .int .i64 0] 91))
  case atStart => exact ⟨0, by omega, by omega, rfl, HR, HU, HP, HQ⟩
  case round =>
    obtain ⟨i, hi, rfl, rfl, HFi, HUi, HPi, HQi⟩ := hrel
    by_cases hc : i < M
    · have hcz : (i : Int) < (M : Int) := by omega
      have hw1 : IntKind.i64.wrap ((i : Int) + 1) = ((i + 1 : Nat) : Int) := by rw [IntWalk.i64_in _ (by omega)]; rfl
      have HFS : Hid (findS B G F M n (M - i) i = if inS B G F M n i then some i else findS B G F M n (M - (i + 1)) (i + 1)) := Lib.hid (by rw [show M - i = (M - (i + 1)) + 1 by omega, findS_succ])
      have HIN : Hid (inS B G F M n i ↔ sbeg B G F M i ≤ n ∧ n < sbeg B G F M i + 2 ^ (sbitsI G F M (i : Nat)).toNat) := Lib.hid Iff.rfl
      have HSV : Hid (signV B G F M n i = .agg #[.int .i64 (i : Nat), .int .i64 ((sbitsI G F M (i : Nat)).toNat : Nat), .int .i64 ((n - sbeg B G F M i : Nat) : Int)]) := Lib.hid rfl
      have hle : sbeg B G F M i ≤ 819300 := by have := HLE.out i (by omega); omega
      have hnn := sbitsI_nn G F M i (by omega)
      have hb13 := HBD.out i (by omega)
      have hbt := fun w' => HBT.out (i : Nat) w'
      have hbg := fun w' => HBG.out i w' (by omega)
      generalize sbeg B G F M i = q at *
      obtain ⟨t, ht⟩ : ∃ t : Nat, sbitsI G F M (i : Nat) = (t : Int) := ⟨(sbitsI G F M (i : Nat)).toNat, by omega⟩
      rw [ht] at hbt HIN HSV hb13 hnn
      rw [Int.toNat_natCast] at HIN HSV
      have ht13 : t ≤ 13 := by omega
      obtain ⟨P, hP⟩ : ∃ P : Nat, 2 ^ t = P := ⟨_, rfl⟩
      have hPb : P ≤ 8192 := by
        have := Nat.pow_le_pow_right (n := 2) (by omega) ht13
        omega
      have hpw : wrap64 ((2 : Int) ^ t) = (P : Int) := by
        have : ((2 : Int) ^ t) = (P : Int) := by rw [← hP]; simp
        rw [this]
        unfold wrap64
        omega
      rw [hP] at HIN
      have HPW := Lib.hid hpw
      clear hpw
      have HBTi := Lib.hid hbt
      have HBGi := Lib.hid hbg
      have hwq : IntKind.i64.wrap ((q : Int) + (P : Int)) = ((q + P : Nat) : Int) := by rw [IntWalk.i64_in _ (by omega)]; rfl
      have hPi := HPi.out
      have m3 := hPi.cell 3 rfl
      clear hbt hbg ht hP hb13 hnn
      go_wp2_with (refine wpList_loadBlk rfl 128 _ rfl p rfl 128 _ hPi _ Tryz.underlying128 rfl (by kernel_rfl) ?_)
      refine (HBGi.out wr).mono ?_
      rintro e w3 ⟨rfl, hU3⟩
      have hP3 := HPi.out.upd hU3 (by simp)
      have HQ3 := Lib.hid (HQi.out.upd hU3 (by simp))
      have HU3 := Lib.hid (HUi.out.then hU3)
      have HP3 := Lib.hid hP3
      clear hU3 hPi m3
      by_cases hq : q ≤ n
      · have hqz : (q : Int) ≤ (n : Int) := by omega
        have hwb : IntKind.i64.wrap ((n : Int) - (q : Int)) = ((n - q : Nat) : Int) := by rw [IntWalk.i64_in _ (by omega)]; omega
        have m0 := hP3.cell 0 rfl
        have m1 := hP3.cell 1 rfl
        have m2 := hP3.cell 2 rfl
        have m3 := hP3.cell 3 rfl
        go_wp2_with fail
        refine (HBTi.out w3).mono ?_
        rintro e w4 ⟨rfl, hU4⟩
        have hP4 := HP3.out.upd hU4 (by simp)
        have HQ4 := Lib.hid (HQ3.out.upd hU4 (by simp))
        have HU4 := Lib.hid (HU3.out.then hU4)
        have HP4 := Lib.hid hP4
        clear hU4 hP3 m0 m1 m2 m3
        by_cases hp : n < q + P
        · have hpz : (n : Int) < ((q + P : Nat) : Int) := by omega
          have HRI : Hid (r = i) := Lib.hid (by
            have h1 := HFi.out
            rw [HFS.out, if_pos (HIN.out.2 ⟨hq, hp⟩)] at h1
            exact (Option.some.inj h1).symm)
          have hpw := HPW.out
          go_wp2_with (refine wpList_loadBlk rfl 128 _ rfl p rfl 128 _ hP4 _ Tryz.underlying128 rfl (by kernel_rfl) ?_)
          refine (HBTi.out w4).mono ?_
          rintro e w5 ⟨rfl, hU5⟩
          have hQ5 := HQ4.out.upd hU5 (by simp)
          have HU5 := Lib.hid (HU4.out.then hU5)
          have f0 := hQ5.frz 0
          have f1 := hQ5.frz 1
          have f2 := hQ5.frz 2
          have c0 := hQ5.cell 0 rfl
          have c1 := hQ5.cell 1 rfl
          have c2 := hQ5.cell 2 rfl
          have HQ5 := Lib.hid hQ5
          clear hU5 hP4 hQ5
          go_wp2
          have hB9 := ((HQ5.out.set 0 (.int .i64 (i : Nat))).set 1 (.int .i64 (t : Nat))).set 2 (.int .i64 ((n - q : Nat) : Int))
          refine bodyPost_ret (results_rowT rfl _ _ (p + 1) _ _ _ _ (.bool true) (by simp [Act.put]) (by simp [Act.put]) hB9 Tryz.underlying91 rfl (by rw [infoSign]; rfl)) (by simp [Act.put]) ⟨?_, ?_⟩
          · rw [HRI.out, HSV.out]; rfl
          · exact ((HU5.out.setCell (.inr (by rw [HP0.out]; simp)) _).setCell (.inr (by rw [HP0.out]; simp)) _).setCell (.inr (by rw [HP0.out]; simp)) _
        · have hpz : ¬ (n : Int) < ((q + P : Nat) : Int) := by omega
          have HF2 : Hid (findS B G F M n (M - (i + 1)) (i + 1) = some r) := Lib.hid (by
            have h1 := HFi.out
            rw [HFS.out, if_neg (fun h => hp (HIN.out.1 h).2)] at h1
            exact h1)
          have hpw := HPW.out
          go_wp2
          clear hpw
          go_roundg (100 - (i + 1))
          · exact ⟨i + 1, by omega, by first | rfl | omega, by first | rfl | go_num, HF2, HU4, HP4, HQ4⟩
          · omega
      · have hqz : ¬ (q : Int) ≤ (n : Int) := by omega
        have HF2 : Hid (findS B G F M n (M - (i + 1)) (i + 1) = some r) := Lib.hid (by
          have h1 := HFi.out
          rw [HFS.out, if_neg (fun h => hq (HIN.out.1 h).1)] at h1
          exact h1)
        go_wp2
        go_roundg (100 - (i + 1))
        · exact ⟨i + 1, by omega, by first | rfl | omega, by first | rfl | go_num, HF2, HU3, HP3, HQ3⟩
        · omega
    · exfalso
      have h1 := HFi.out
      rw [show M - i = 0 by omega, findS_none] at h1
      cases h1
end Go.Proofs.YtdehkaknbmbieaaGreat
namespace Go.Proofs.YtdehkaknbmbieaaGreat
set_option linter.unusedVariables false
set_option linter.unusedSimpArgs false
set_option linter.unusedSectionVars false
open Go.RowKit
set_option linter.unusedVariables false
set_option linter.unusedSimpArgs false

theorem results_row_tmp {P : Program} {fn : Func} {p u : Tmp} {ty : TypeId} (h : fn.results = #[.cell p ty, .tmp u]) (tmps : Array Value) (w : World) (g : Nat) (t : TypeId) (cs : Array Value) (fr : Nat × Nat) (d : TypeDesc) (v : Value)
    (hp : tmps.getD p undef = .pointer (some ⟨g, 0, none⟩)) (hv : tmps.getD u undef = v) (hg : w.heap[g]? = some (.cells cs t fr))
    (hu : P.underlying ty = some d) (hd : (match d with | .struct _ | .array _ _ => true | _ => false) = true) (hi : (P.info? ty).map (·.size) = some cs.size) :
    (results fn tmps).run P w = .ok (.tuple #[.agg cs, v]) w := by
  rw [results_cell_tmp h, hp, hv]
  simp [asAddr, run_loadVar_row w g t ty cs fr d hg hu hd hi, Result.andThen]
theorem infoS6 : (Tryz.prog.info? 138).map (·.size) = some 3 := by kernel_rfl
def lAt : List Nat := [3, 4, 5, 6, 7, 8, 9, 10, 11, 13, 15, 17, 19, 23, 27, 31, 35, 43, 51, 59, 67, 83, 99, 115, 131, 163, 195, 227, 258, 259]
def lBits : List Nat := [0, 0, 0, 0, 0, 0, 0, 0, 1, 1, 1, 1, 2, 2, 2, 2, 3, 3, 3, 3, 4, 4, 4, 4, 5, 5, 5, 5, 0]
/-- Is n of kind i? -/
def isL (n i : Nat) : Prop := lAt.getD i 0 ≤ n ∧ n < lAt.getD (i + 1) 0
instance (n i : Nat) : Decidable (isL n i) := by unfold isL; infer_instance
/-- The first kind from i on, of m more. -/
def findL (n : Nat) : Nat → Nat → Option Nat
  | 0, _ => none
  | m + 1, i => if isL n i then some i else findL n m (i + 1)
theorem findL_all : ∀ n : Fin 259, 3 ≤ n.val → (findL n.val 29 0).isSome = true := by decide +kernel
def longV (i n : Nat) : Value := .agg #[.int .i64 ((257 + i : Nat) : Int), .int .i64 (lBits.getD i 0 : Nat), .int .i64 ((n - lAt.getD i 0 : Nat) : Int)]

set_option maxRecDepth 100000 in
set_option maxHeartbeats 3200000 in
theorem rlong_any (n : Nat) (w : World) (h3 : 3 ≤ n) (h258 : n ≤ 258) :
    Calls Tryz.prog 98 #[.int .i64 (n : Nat)] w fun e w' => ∃ i, findL n 29 0 = some i ∧ e = .returned (.tuple #[longV i n, .bool true]) ∧ Upd [] w w' := by
  have hall := findL_all ⟨n, by omega⟩ h3
  have HF := Lib.hid hall
  clear hall
  go_enter Tryz.func98, Tryz.ntmps98
  go_wp2
  obtain ⟨w2, hw2⟩ : ∃ w2, w2 = ((w.alloc (Obj.cells #[.int .i64 0, .int .i64 0, .int .i64 0] 138)).alloc (Obj.cells (i64s lAt).toArray 3)).alloc (Obj.cells (i64s lBits).toArray 3) := ⟨_, rfl⟩
  change Code.wp _ _ _ _ (((w.alloc (Obj.cells #[.int .i64 0, .int .i64 0, .int .i64 0] 138)).alloc (Obj.cells (i64s lAt).toArray 3)).alloc (Obj.cells (i64s lBits).toArray 3))
  have hU2 : Upd [] w w2 := by rw [hw2]; exact (((Upd.refl [] w).alloc _).alloc _).alloc _
  have hS : Blk w2 w.heap.size [.int .i64 0, .int .i64 0, .int .i64 0] 138 := by rw [hw2]; exact ((Blk.new w [.int .i64 0, .int .i64 0, .int .i64 0] 138).alloc _).alloc _
  have hA : Blk w2 (w.heap.size + 1) (i64s lAt) 3 := by
    have h := (Blk.new (w.alloc (Obj.cells #[.int .i64 0, .int .i64 0, .int .i64 0] 138)) (i64s lAt) 3).alloc (Obj.cells (i64s lBits).toArray 3)
    rw [World.size_alloc] at h
    rw [hw2]; exact h
  have hB : Blk w2 (w.heap.size + 1 + 1) (i64s lBits) 3 := by
    have h := Blk.new ((w.alloc (Obj.cells #[.int .i64 0, .int .i64 0, .int .i64 0] 138)).alloc (Obj.cells (i64s lAt).toArray 3)) (i64s lBits) 3
    rw [World.size_alloc, World.size_alloc] at h
    rw [hw2]; exact h
  rw [← hw2]
  clear hw2
  go_loopg [6, 11] 29 (fun g s6 s11 wr => ∃ i, i ≤ 29 ∧ g = 29 - i ∧ s11 = .int .i64 (i : Nat) ∧ Hid (findL n 29 0 = findL n (29 - i) i) ∧ w2 = wr)
  case atStart => exact ⟨0, by omega, rfl, rfl, Lib.hid rfl, rfl⟩
  case round =>
    obtain ⟨i, hi, rfl, rfl, HL, rfl⟩ := hrel
    by_cases hc : i < 29
    · have hcz : (i : Int) < 29 := by omega
      have hst : findL n (29 - i) i = if isL n i then some i else findL n (29 - (i + 1)) (i + 1) := by
        rw [show 29 - i = (29 - (i + 1)) + 1 by omega]; rfl
      have HST := Lib.hid hst
      clear hst
      have hget : ∀ (l : List Nat) (j : Nat), j < l.length → l[j]? = some (l.getD j 0) := fun l j h => by rw [List.getD, List.getElem?_eq_getElem h]; rfl
      have d1 := hA.cell i (i64s_get _ _ _ (hget lAt i (by show i < 30; omega)))
      have d2 := hA.cell (i + 1) (i64s_get _ _ _ (hget lAt (i + 1) (by show i + 1 < 30; omega)))
      have d3 := hB.cell i (i64s_get _ _ _ (hget lBits i (by show i < 29; omega)))
      have s0 := hS.cell 0 rfl
      have f0 := hS.frz 0
      have f1 := hS.frz 1
      have f2 := hS.frz 2
      have s1 := hS.cell 1 rfl
      have s2 := hS.cell 2 rfl
      clear hget
      have HIL := Lib.hid (show isL n i ↔ lAt.getD i 0 ≤ n ∧ n < lAt.getD (i + 1) 0 from Iff.rfl)
      have HLV := Lib.hid (show longV i n = .agg #[.int .i64 ((257 + i : Nat) : Int), .int .i64 (lBits.getD i 0 : Nat), .int .i64 ((n - lAt.getD i 0 : Nat) : Int)] from rfl)
      generalize lAt.getD i 0 = p at *
      generalize lAt.getD (i + 1) 0 = q at *
      generalize lBits.getD i 0 = bb at *
      have hi30 : (i : Int) < 30 := by omega
      have hi31 : (i : Int) + 1 < 30 := by omega
      have hi01 : (0 : Int) ≤ (i : Int) + 1 := by omega
      by_cases hp : p ≤ n
      · have t1 : decide ((p : Int) ≤ (n : Int)) = true := decide_eq_true (by omega)
        have t1' : decide (p ≤ n) = true := decide_eq_true hp
        have hpz : (p : Int) ≤ (n : Int) := by omega
        by_cases hq : n < q
        · have t2 : decide ((n : Int) < (q : Int)) = true := decide_eq_true (by omega)
          have t2' : decide (n < q) = true := decide_eq_true hq
          have hqz : (n : Int) < (q : Int) := by omega
          have e1 : IntKind.i64.wrap ((n : Int) - (p : Int)) = ((n - p : Nat) : Int) := by rw [IntWalk.i64_in _ (by omega)]; omega
          have e2 : IntKind.i64.wrap (257 + (i : Int)) = ((257 + i : Nat) : Int) := by rw [IntWalk.i64_in _ (by omega)]; omega
          go_wp2
          go_region_law (fail)
          all_goals go_wp2
          all_goals (
            have hB9 := ((hS.set 0 (.int .i64 (257 + (i : Int)))).set 1 (.int .i64 (bb : Nat))).set 2 (.int .i64 ((n - p : Nat) : Int))
            refine bodyPost_ret (results_row_tmp rfl _ _ w.heap.size _ _ _ _ (.bool true) (by simp [Act.put]) (by simp [Act.put]) hB9 Tryz.underlying138 rfl (by rw [infoS6]; rfl)) (by simp [Act.put]) ⟨i, ?_, ?_, ?_⟩
            · rw [HL.out, HST.out, if_pos (HIL.out.2 ⟨hp, hq⟩)]
            · rw [HLV.out]; rfl
            · exact (((hU2.setCell (.inr (Nat.le_refl _)) _).setCell (.inr (Nat.le_refl _)) _).setCell (.inr (Nat.le_refl _)) _).drew)
        · have t2 : decide ((n : Int) < (q : Int)) = false := decide_eq_false (by omega)
          have t2' : decide (n < q) = false := decide_eq_false hq
          go_wp2
          go_roundg (29 - (i + 1))
          · exact ⟨i + 1, by omega, rfl, by first | rfl | go_num, Lib.hid (by rw [HL.out, HST.out, if_neg (fun h => hq (HIL.out.1 h).2)]), rfl⟩
          · omega
      · have t1 : decide ((p : Int) ≤ (n : Int)) = false := decide_eq_false (by omega)
        have t1' : decide (p ≤ n) = false := decide_eq_false hp
        go_wp2
        go_roundg (29 - (i + 1))
        · exact ⟨i + 1, by omega, rfl, by first | rfl | go_num, Lib.hid (by rw [HL.out, HST.out, if_neg (fun h => hp (HIL.out.1 h).1)]), rfl⟩
        · omega
    · exfalso
      have h1 := HL.out
      rw [show 29 - i = 0 by omega] at h1
      have h2 := HF.out
      rw [h1] at h2
      cases h2

/-- The distances' codes. -/
def dAt : List Nat := [1, 2, 3, 4, 5, 7, 9, 13, 17, 25, 33, 49, 65, 97, 129, 193, 257, 385, 513, 769, 1025, 1537, 2049, 3073, 4097, 6145, 8193, 12289, 16385, 24577, 32769]
def dBt (i : Nat) : Nat := i / 2 - 1
def isD (n i : Nat) : Prop := dAt.getD i 0 ≤ n ∧ n < dAt.getD (i + 1) 0
instance (n i : Nat) : Decidable (isD n i) := by unfold isD; infer_instance
def findD (n : Nat) : Nat → Nat → Option Nat
  | 0, _ => none
  | m + 1, i => if isD n i then some i else findD n m (i + 1)
theorem findD_succ (n m i : Nat) : findD n (m + 1) i = if isD n i then some i else findD n m (i + 1) := rfl
theorem findD_ex (n : Nat) : ∀ m i, dAt.getD i 0 ≤ n → n < dAt.getD (i + m) 0 → ∃ r, findD n m i = some r ∧ i ≤ r ∧ r < i + m
  | 0, i, h1, h2 => by rw [Nat.add_zero] at h2; omega
  | m + 1, i, h1, h2 => by
    rw [findD_succ]
    by_cases h : isD n i
    · exact ⟨i, by rw [if_pos h], by omega, by omega⟩
    · rw [if_neg h]
      have h3 : dAt.getD (i + 1) 0 ≤ n := by
        unfold isD at h
        omega
      obtain ⟨r, r1, r2, r3⟩ := findD_ex n m (i + 1) h3 (by rw [show i + 1 + m = i + (m + 1) by omega]; exact h2)
      exact ⟨r, r1, by omega, by omega⟩
theorem findD_some (n : Nat) (h1 : 1 ≤ n) (h2 : n ≤ 32768) : ∃ r, findD n 30 0 = some r ∧ r < 30 := by
  obtain ⟨r, r1, _, r3⟩ := findD_ex n 30 0 h1 (by show n < 32769; omega)
  exact ⟨r, r1, by omega⟩
def backV (i n : Nat) : Value := .agg #[.int .i64 (i : Nat), .int .i64 (dBt i : Nat), .int .i64 ((n - dAt.getD i 0 : Nat) : Int)]
end Go.Proofs.YtdehkaknbmbieaaGreat
namespace Go.Proofs.YtdehkaknbmbieaaGreat
set_option linter.unusedVariables false
set_option linter.unusedSimpArgs false
set_option linter.unusedSectionVars false
open Go.RowKit
set_option linter.unusedVariables false
set_option linter.unusedSimpArgs false

theorem long_tab : ∀ k : Fin 28, (sbitsI 4 8 28 (k.val : Nat)).toNat = lBits.getD k.val 0 ∧ sbeg 3 4 8 28 k.val = lAt.getD k.val 0 := by decide +kernel
theorem long_find : ∀ n : Fin 259, 3 ≤ n.val → n.val ≠ 258 → findS 3 4 8 28 n.val 28 0 = findL n.val 29 0 ∧ ((findL n.val 29 0).getD 99) < 28 := by decide +kernel
theorem long_258 : findL 258 29 0 = some 28 := by decide +kernel
theorem back_tab : ∀ k : Fin 30, (sbitsI 2 4 30 (k.val : Nat)).toNat = dBt k.val ∧ sbeg 1 2 4 30 k.val = dAt.getD k.val 0 ∧ sbeg 1 2 4 30 k.val + 2 ^ (sbitsI 2 4 30 (k.val : Nat)).toNat = dAt.getD (k.val + 1) 0 := by decide +kernel
theorem back_find (n : Nat) : ∀ m i, i + m ≤ 30 → findS 1 2 4 30 n m i = findD n m i
  | 0, i, h => rfl
  | m + 1, i, h => by
    rw [findS_succ, findD_succ, back_find n m (i + 1) (by omega)]
    obtain ⟨_, h1, h2⟩ := back_tab ⟨i, by omega⟩
    have e : inS 1 2 4 30 n i ↔ isD n i := by
      unfold inS isD
      dsimp only at h1 h2
      rw [h1] at h2 ⊢
      rw [h2]
    by_cases h3 : isD n i
    · rw [if_pos h3, if_pos (e.2 h3)]
    · rw [if_neg h3, if_neg (fun q => h3 (e.1 q))]
set_option maxRecDepth 100000 in
set_option maxHeartbeats 3200000 in
theorem sback_any (n : Nat) (w : World) (h1 : 1 ≤ n) (h2 : n ≤ 32768) :
    Calls Tryz.prog 48 #[.int .i64 (n : Nat)] w fun e w' => ∃ i, findD n 30 0 = some i ∧ e = .returned (.tuple #[backV i n, .bool true]) ∧ Upd [] w w' := by
  obtain ⟨r, hr, hr30⟩ := findD_some n h1 h2
  have hs : signV 1 2 4 30 n r = backV r n := by
    obtain ⟨e1, e2, _⟩ := back_tab ⟨r, hr30⟩
    dsimp only at e1 e2
    unfold signV backV
    rw [e1, e2]
  have HSG := Lib.hid (fun w' => sign_any 1 2 4 30 n r w' (by decide) (by decide) (by decide) (by decide) (by decide) backS13 (by omega) (by rw [back_find n 30 0 (by omega)]; exact hr))
  rw [hs] at HSG
  unfold backV at HSG
  have HBV : Hid (backV r n = .agg #[.int .i64 (r : Nat), .int .i64 (dBt r : Nat), .int .i64 ((n - dAt.getD r 0 : Nat) : Int)]) := Lib.hid rfl
  have HR := Lib.hid hr
  generalize dAt.getD r 0 = p at *
  generalize dBt r = bb at *
  have HQ := Lib.hid (Blk.new w [.int .i64 0, .int .i64 0, .int .i64 0] 91)
  have HU := Lib.hid ((Upd.refl [] w).alloc (.cells #[.int .i64 0, .int .i64 0, .int .i64 0] 91))
  clear hs hr
  go_enter Tryz.func48, Tryz.ntmps48
  go_wp2_with fail
  refine (distances_any _).mono ?_
  rintro e w1 ⟨rfl, hU1⟩
  have HQ1 := Lib.hid (HQ.out.upd hU1 (by simp))
  have HU1 := Lib.hid (HU.out.then hU1)
  clear hU1
  go_wp2_with fail
  refine (HSG.out w1).mono ?_
  rintro e w2 ⟨rfl, hU2⟩
  have hQ2 := HQ1.out.upd hU2 (by simp)
  have HU2 := Lib.hid (HU1.out.then hU2)
  have f0 := hQ2.frz 0
  have f1 := hQ2.frz 1
  have f2 := hQ2.frz 2
  have c0 := hQ2.cell 0 rfl
  have c1 := hQ2.cell 1 rfl
  have c2 := hQ2.cell 2 rfl
  have HQ2 := Lib.hid hQ2
  clear hU2 hQ2
  go_wp2
  have hB9 := ((HQ2.out.set 0 (.int .i64 (r : Nat))).set 1 (.int .i64 (bb : Nat))).set 2 (.int .i64 ((n - p : Nat) : Int))
  refine bodyPost_ret (results_rowT rfl _ _ w.heap.size _ _ _ _ (.bool true) (by simp [Act.put]) (by simp [Act.put]) hB9 Tryz.underlying91 rfl (by rw [infoSign]; rfl)) (by simp [Act.put]) ⟨r, HR.out, ?_, ?_⟩
  · rw [HBV.out]; rfl
  · exact ((HU2.out.setCell (.inr (Nat.le_refl _)) _).setCell (.inr (Nat.le_refl _)) _).setCell (.inr (Nat.le_refl _)) _
set_option maxRecDepth 100000 in
set_option maxHeartbeats 3200000 in
theorem slong_any (n : Nat) (w : World) (h3 : 3 ≤ n) (h258 : n ≤ 258) :
    Calls Tryz.prog 47 #[.int .i64 (n : Nat)] w fun e w' => ∃ i, findL n 29 0 = some i ∧ e = .returned (.tuple #[longV i n, .bool true]) ∧ Upd [] w w' := by
  have HQ := Lib.hid (Blk.new w [.int .i64 0, .int .i64 0, .int .i64 0] 91)
  have HU := Lib.hid ((Upd.refl [] w).alloc (.cells #[.int .i64 0, .int .i64 0, .int .i64 0] 91))
  by_cases he : n = 258
  · subst he
    have HLV : Hid (longV 28 258 = .agg #[.int .i64 285, .int .i64 0, .int .i64 0]) := Lib.hid rfl
    go_enter Tryz.func47, Tryz.ntmps47
    go_wp2
    have hB9 := Blk.new w [.int .i64 285, .int .i64 0, .int .i64 0] 91
    refine bodyPost_ret (results_rowT rfl _ _ w.heap.size _ _ _ _ (.bool true) (by simp [Act.put]) (by simp [Act.put]) hB9 Tryz.underlying91 rfl (by rw [infoSign]; rfl)) (by simp [Act.put]) ⟨28, long_258, ?_, ?_⟩
    · rw [HLV.out]
    · exact (Upd.refl [] w).alloc _
  · have hez : ¬ (n : Int) = 258 := by omega
    obtain ⟨hf, hlt⟩ := long_find ⟨n, by omega⟩ h3 he
    dsimp only at hf hlt
    obtain ⟨r, hr⟩ : ∃ r, findL n 29 0 = some r := by
      cases h : findL n 29 0 with
      | none => rw [h] at hlt; simp at hlt
      | some r => exact ⟨r, rfl⟩
    rw [hr] at hf hlt
    have hr28 : r < 28 := hlt
    obtain ⟨e1, e2⟩ := long_tab ⟨r, hr28⟩
    dsimp only at e1 e2
    have HSG := Lib.hid (fun w' => sign_any 3 4 8 28 n r w' (by decide) (by decide) (by decide) (by decide) (by decide) longS13 (by omega) hf)
    unfold signV at HSG
    rw [e1, e2] at HSG
    have HLV : Hid (longV r n = .agg #[.int .i64 ((257 + r : Nat) : Int), .int .i64 (lBits.getD r 0 : Nat), .int .i64 ((n - lAt.getD r 0 : Nat) : Int)]) := Lib.hid rfl
    have HR := Lib.hid hr
    generalize lAt.getD r 0 = p at *
    generalize lBits.getD r 0 = bb at *
    have hwr : IntKind.i64.wrap ((r : Int) + 257) = (r : Int) + 257 := IntWalk.i64_in _ (by omega)
    clear e1 e2 hf hr hlt he
    go_enter Tryz.func47, Tryz.ntmps47
    go_wp2_with fail
    refine (longs_any _).mono ?_
    rintro e w1 ⟨rfl, hU1⟩
    have HQ1 := Lib.hid (HQ.out.upd hU1 (by simp))
    have HU1 := Lib.hid (HU.out.then hU1)
    clear hU1
    go_wp2_with fail
    refine (HSG.out w1).mono ?_
    rintro e w2 ⟨rfl, hU2⟩
    have hQ2 := HQ1.out.upd hU2 (by simp)
    have HU2 := Lib.hid (HU1.out.then hU2)
    have hs2 : w.heap.size + 1 ≤ w2.heap.size := by have := HU.out.size; have := (HQ1.out.upd hU2 (by simp)).lt; omega
    have hQ3 := hQ2.alloc (.cells #[.int .i64 (r : Nat), .int .i64 (bb : Nat), .int .i64 ((n - p : Nat) : Int)] 91)
    have hS3 := Blk.new w2 [.int .i64 (r : Nat), .int .i64 (bb : Nat), .int .i64 ((n - p : Nat) : Int)] 91
    have hU3 := HU2.out.alloc (.cells #[.int .i64 (r : Nat), .int .i64 (bb : Nat), .int .i64 ((n - p : Nat) : Int)] 91)
    have HQ3 := Lib.hid hQ3
    have HS3 := Lib.hid hS3
    have HU3 := Lib.hid hU3
    clear hU2 hQ2 hQ3 hS3 hU3
    go_upto_region 4 with fail
    change Code.wp _ _ _ _ (w2.alloc (.cells #[.int .i64 (r : Nat), .int .i64 (bb : Nat), .int .i64 ((n - p : Nat) : Int)] 91))
    generalize w2.alloc (.cells #[.int .i64 (r : Nat), .int .i64 (bb : Nat), .int .i64 ((n - p : Nat) : Int)] 91) = w3 at *
    generalize w2.heap.size = s at *
    have hws : w.heap.size ≠ s := by omega
    have hS4 := HS3.out.set 0 (.int .i64 ((r : Int) + 257))
    have hQ4 := HQ3.out.setFar (a := ⟨s, 0, none⟩) (.int .i64 ((r : Int) + 257)) hws
    have HU4 := Lib.hid (HU3.out.setCell (p := ⟨s, 0, none⟩) (.inr (by show w.heap.size ≤ s; omega)) (.int .i64 ((r : Int) + 257)))
    have k0 := HS3.out.cell 0 rfl
    have k1 := hS4.cell 1 rfl
    have k2 := hS4.cell 2 rfl
    have k00 := hS4.cell 0 rfl
    have kf := HS3.out.frz 0
    have f0 := hQ4.frz 0
    have f1 := hQ4.frz 1
    have f2 := hQ4.frz 2
    have c0 := hQ4.cell 0 rfl
    have c1 := hQ4.cell 1 rfl
    have c2 := hQ4.cell 2 rfl
    have HQ4 := Lib.hid hQ4
    clear hS4 hQ4
    go_wp2
    have hB9 := ((HQ4.out.set 0 (.int .i64 ((r : Int) + 257))).set 1 (.int .i64 (bb : Nat))).set 2 (.int .i64 ((n - p : Nat) : Int))
    refine bodyPost_ret (results_rowT rfl _ _ w.heap.size _ _ _ _ (.bool true) (by simp [Act.put]) (by simp [Act.put]) hB9 Tryz.underlying91 rfl (by rw [infoSign]; rfl)) (by simp [Act.put]) ⟨r, HR.out, ?_, ?_⟩
    · rw [HLV.out, show ((257 + r : Nat) : Int) = (r : Int) + 257 by omega]; rfl
    · exact ((HU4.out.setCell (.inr (Nat.le_refl _)) _).setCell (.inr (Nat.le_refl _)) _).setCell (.inr (Nat.le_refl _)) _
end Go.Proofs.YtdehkaknbmbieaaGreat

/- Package symbol: the walks of longs, distances, LongBits, BackBits, LongOf, BackOf. -/
import Derived.Test.YtdehkaknbmbieaaGreatQAR
import Derived.Lib.MinMax
import Derived.Test.YtdehkaknbmbieaaGreatQAL
namespace Go.Proofs.YtdehkaknbmbieaaGreat
set_option linter.unusedVariables false
set_option linter.unusedSimpArgs false
set_option linter.unusedSectionVars false
open Go.RowKit
set_option linter.unusedVariables false

theorem infoScale : (Tryz.prog.info? 128).map (·.size) = some 4 := by kernel_rfl
theorem longs_any (w : World) : Calls Tryz.prog 85 #[] w fun e w' => e = .returned (scaleV 3 4 8 28) ∧ Upd [] w w' := by
  have hB := Blk.new w [.int .i64 0, .int .i64 0, .int .i64 0, .int .i64 0] 128
  go_enter Tryz.func85, Tryz.ntmps85
  go_wp2_with (refine wpList_storeBlk rfl 128 _ _ rfl w.heap.size rfl [.int .i64 3, .int .i64 4, .int .i64 8, .int .i64 28] rfl 128 _ hB (by kernel_rfl) rfl (by simp [Value.oneCell']) ?_; intro w2 hB3 hU2)
  exact bodyPost_ret (results_cell_row rfl _ _ _ _ _ _ _ rfl hB3 Tryz.underlying128 rfl (by rw [infoScale]; rfl)) rfl ⟨rfl, ((Upd.refl [] w).alloc _).trans hU2 (fun k hk => by simp at hk; right; omega)⟩
theorem distances_any (w : World) : Calls Tryz.prog 87 #[] w fun e w' => e = .returned (scaleV 1 2 4 30) ∧ Upd [] w w' := by
  have hB := Blk.new w [.int .i64 0, .int .i64 0, .int .i64 0, .int .i64 0] 128
  go_enter Tryz.func87, Tryz.ntmps87
  go_wp2_with (refine wpList_storeBlk rfl 128 _ _ rfl w.heap.size rfl [.int .i64 1, .int .i64 2, .int .i64 4, .int .i64 30] rfl 128 _ hB (by kernel_rfl) rfl (by simp [Value.oneCell']) ?_; intro w2 hB3 hU2)
  exact bodyPost_ret (results_cell_row rfl _ _ _ _ _ _ _ rfl hB3 Tryz.underlying128 rfl (by rw [infoScale]; rfl)) rfl ⟨rfl, ((Upd.refl [] w).alloc _).trans hU2 (fun k hk => by simp at hk; right; omega)⟩

/-- How many bits a code of a length has; of a distance. -/
def longB (n : Int) : Int := if n = 285 then 0 else if n < 257 then -1 else sbitsI 4 8 28 (n - 257)
def backB (n : Int) : Int := sbitsI 2 4 30 n
theorem longS13 : ∀ j : Nat, j < 28 → sbitsI 4 8 28 (j : Nat) ≤ 13 := by
  have : ∀ j : Fin 28, sbitsI 4 8 28 (j.val : Nat) ≤ 13 := by decide
  exact fun j h => this ⟨j, h⟩
theorem backS13 : ∀ j : Nat, j < 30 → sbitsI 2 4 30 (j : Nat) ≤ 13 := by
  have : ∀ j : Fin 30, sbitsI 2 4 30 (j.val : Nat) ≤ 13 := by decide
  exact fun j h => this ⟨j, h⟩

theorem backBits_any (n : Int) (w : World) : Calls Tryz.prog 72 #[.int .i64 n] w fun e w' => e = .returned (.int .i64 (backB n)) ∧ Upd [] w w' := by
  go_enter Tryz.func72, Tryz.ntmps72
  go_wp2_with fail
  refine (distances_any w).mono ?_
  rintro e w1 ⟨rfl, hU1⟩
  have HB := Lib.hid (scale_bits 1 2 4 30 n w1 (by decide) (by decide) (by decide) (by decide))
  go_wp2_with fail
  refine HB.out.mono ?_
  rintro e w2 ⟨rfl, hU2⟩
  go_wp2
  go_returns
  exact ⟨rfl, hU1.then hU2⟩
theorem backOf_any (n more : Int) (w : World) : Calls Tryz.prog 136 #[.int .i64 n, .int .i64 more] w fun e w' => e = .returned (optVal (numS 1 2 4 30 n more)) ∧ Upd [] w w' := by
  have hn := fun w1 => scale_number 1 2 4 30 n more w1 (by decide) (by decide) (by decide) (by decide) (by decide) backS13
  unfold optVal at hn ⊢
  generalize numS 1 2 4 30 n more = o at *
  have HN := Lib.hid hn
  clear hn
  go_enter Tryz.func136, Tryz.ntmps136
  go_wp2_with fail
  refine (distances_any w).mono ?_
  rintro e w1 ⟨rfl, hU1⟩
  go_wp2_with fail
  refine (HN.out w1).mono ?_
  rintro e w2 ⟨rfl, hU2⟩
  go_wp2
  go_returns
  exact ⟨rfl, hU1.then hU2⟩
theorem longBits_any (n : Nat) (w : World) (h9 : n ≤ 100000) : Calls Tryz.prog 71 #[.int .i64 (n : Nat)] w fun e w' => e = .returned (.int .i64 (longB n)) ∧ Upd [] w w' := by
  by_cases h1 : n = 285
  · subst h1
    go_enter Tryz.func71, Tryz.ntmps71
    go_wp2
    go_returns
    exact ⟨rfl, .refl _ _⟩
  · have h1f : ((n : Int) == 285) = false := by simp; omega
    by_cases h2 : n < 257
    · have h2f : decide ((n : Int) < 257) = true := decide_eq_true (by omega)
      have hl := Lib.hid (show longB (n : Int) = -1 by unfold longB; rw [if_neg (by omega), if_pos (by omega)])
      go_enter Tryz.func71, Tryz.ntmps71
      go_wp2
      go_returns
      exact ⟨by rw [hl.out]; rfl, .refl _ _⟩
    · have h2f : decide ((n : Int) < 257) = false := decide_eq_false (by omega)
      have hl := Lib.hid (show longB (n : Int) = sbitsI 4 8 28 ((n : Int) - 257) by unfold longB; rw [if_neg (by omega), if_neg (by omega)])
      go_enter Tryz.func71, Tryz.ntmps71
      go_wp2_with fail
      refine (longs_any w).mono ?_
      rintro e w1 ⟨rfl, hU1⟩
      have HB := Lib.hid (scale_bits 3 4 8 28 ((n : Int) - 257) w1 (by decide) (by decide) (by decide) (by decide))
      go_wp2_with fail
      refine HB.out.mono ?_
      rintro e w2 ⟨rfl, hU2⟩
      go_wp2
      go_returns
      exact ⟨by rw [hl.out]; rfl, hU1.then hU2⟩

/-- The length of a code and of what is in its bits. -/
def longN (n more : Int) : Option Nat := if n = 285 then (if more = 0 then some 258 else none) else if n < 257 then none else
  match numS 3 4 8 28 (n - 257) more with
  | some v => if 258 ≤ v then none else some v
  | none => none
set_option maxRecDepth 100000 in
theorem longOf_any (n : Nat) (more : Int) (w : World) (h9 : n ≤ 100000) : Calls Tryz.prog 135 #[.int .i64 (n : Nat), .int .i64 more] w fun e w' => e = .returned (optVal (longN n more)) ∧ Upd [] w w' := by
  by_cases h1 : n = 285
  · subst h1
    by_cases hm : more = 0
    · subst hm
      go_enter Tryz.func135, Tryz.ntmps135
      go_wp2
      go_returns
      exact ⟨rfl, .refl _ _⟩
    · have hmf : (more == 0) = false := by simpa using hm
      have hl := Lib.hid (show longN 285 more = none by unfold longN; rw [if_pos rfl, if_neg hm])
      go_enter Tryz.func135, Tryz.ntmps135
      go_wp2
      go_returns
      exact ⟨by rw [show ((285 : Nat) : Int) = 285 by rfl, hl.out]; rfl, .refl _ _⟩
  · have h1f : ((n : Int) == 285) = false := by simp; omega
    by_cases h2 : n < 257
    · have h2f : decide ((n : Int) < 257) = true := decide_eq_true (by omega)
      have hl := Lib.hid (show longN (n : Int) more = none by unfold longN; rw [if_neg (by omega), if_pos (by omega)])
      go_enter Tryz.func135, Tryz.ntmps135
      go_wp2
      go_returns
      exact ⟨by rw [hl.out]; rfl, .refl _ _⟩
    · have h2f : decide ((n : Int) < 257) = false := decide_eq_false (by omega)
      have hl : longN (n : Int) more = match numS 3 4 8 28 ((n : Int) - 257) more with
        | some v => if 258 ≤ v then none else some v
        | none => none := by unfold longN; rw [if_neg (by omega), if_neg (by omega)]
      have hn := fun w1 => scale_number 3 4 8 28 ((n : Int) - 257) more w1 (by decide) (by decide) (by decide) (by decide) (by decide) longS13
      cases ho : numS 3 4 8 28 ((n : Int) - 257) more with
      | none =>
        rw [ho] at hl hn
        have HL := Lib.hid hl
        have HN := Lib.hid (show ∀ w1, Calls Tryz.prog 150 #[scaleV 3 4 8 28, .int .i64 ((n : Int) - 257), .int .i64 more] w1 fun e w' => e = .returned (.tuple #[.int .i64 0, .bool false]) ∧ Upd [] w1 w' from hn)
        clear hl hn ho
        go_enter Tryz.func135, Tryz.ntmps135
        go_wp2_with fail
        refine (longs_any w).mono ?_
        rintro e w1 ⟨rfl, hU1⟩
        go_wp2_with fail
        refine (HN.out w1).mono ?_
        rintro e w2 ⟨rfl, hU2⟩
        go_wp2
        go_returns
        exact ⟨by rw [HL.out]; rfl, hU1.then hU2⟩
      | some v =>
        rw [ho] at hl hn
        have HN := Lib.hid (show ∀ w1, Calls Tryz.prog 150 #[scaleV 3 4 8 28, .int .i64 ((n : Int) - 257), .int .i64 more] w1 fun e w' => e = .returned (.tuple #[.int .i64 (v : Nat), .bool true]) ∧ Upd [] w1 w' from hn)
        clear hn ho
        by_cases hv : 258 ≤ v
        · have hvf : decide ((258 : Int) ≤ (v : Int)) = true := decide_eq_true (by omega)
          have HL := Lib.hid (hl.trans (if_pos hv))
          clear hl
          go_enter Tryz.func135, Tryz.ntmps135
          go_wp2_with fail
          refine (longs_any w).mono ?_
          rintro e w1 ⟨rfl, hU1⟩
          go_wp2_with fail
          refine (HN.out w1).mono ?_
          rintro e w2 ⟨rfl, hU2⟩
          go_wp2
          go_returns
          exact ⟨by rw [HL.out]; rfl, hU1.then hU2⟩
        · have hvf : decide ((258 : Int) ≤ (v : Int)) = false := decide_eq_false (by omega)
          have HL := Lib.hid (hl.trans (if_neg hv))
          clear hl
          go_enter Tryz.func135, Tryz.ntmps135
          go_wp2_with fail
          refine (longs_any w).mono ?_
          rintro e w1 ⟨rfl, hU1⟩
          go_wp2_with fail
          refine (HN.out w1).mono ?_
          rintro e w2 ⟨rfl, hU2⟩
          go_wp2
          go_returns
          exact ⟨by rw [HL.out]; rfl, hU1.then hU2⟩
end Go.Proofs.YtdehkaknbmbieaaGreat
namespace Go.Proofs.YtdehkaknbmbieaaGreat
set_option linter.unusedVariables false
set_option linter.unusedSimpArgs false
set_option linter.unusedSectionVars false
open Go.RowKit
set_option linter.unusedVariables false
set_option linter.unusedSimpArgs false

theorem results_rowT {P : Program} {fn : Func} {p u : Tmp} {ty : TypeId} (h : fn.results = #[.cell p ty, .tmp u]) (tmps : Array Value) (w : World) (g : Nat) (t : TypeId) (cs : Array Value) (fr : Nat × Nat) (d : TypeDesc) (v : Value)
    (hp : tmps.getD p undef = .pointer (some ⟨g, 0, none⟩)) (hv : tmps.getD u undef = v) (hg : w.heap[g]? = some (.cells cs t fr))
    (hu : P.underlying ty = some d) (hd : (match d with | .struct _ | .array _ _ => true | _ => false) = true) (hi : (P.info? ty).map (·.size) = some cs.size) :
    (results fn tmps).run P w = .ok (.tuple #[.agg cs, v]) w := by
  rw [results_cell_tmp h, hp, hv]
  simp [asAddr, run_loadVar_row w g t ty cs fr d hg hu hd hi, Result.andThen]
theorem infoSign : (Tryz.prog.info? 91).map (·.size) = some 3 := by kernel_rfl
/-- Does a code's span hold n? -/
def inS (B G F M n k : Nat) : Prop := sbeg B G F M k ≤ n ∧ n < sbeg B G F M k + 2 ^ (sbitsI G F M (k : Nat)).toNat
instance (B G F M n k : Nat) : Decidable (inS B G F M n k) := by unfold inS; infer_instance
/-- The first code from i on, of m more. -/
def findS (B G F M n : Nat) : Nat → Nat → Option Nat
  | 0, _ => none
  | m + 1, i => if inS B G F M n i then some i else findS B G F M n m (i + 1)
theorem findS_succ (B G F M n m i : Nat) : findS B G F M n (m + 1) i = if inS B G F M n i then some i else findS B G F M n m (i + 1) := rfl
theorem findS_none (B G F M n i : Nat) : findS B G F M n 0 i = none := rfl
def signV (B G F M n k : Nat) : Value := .agg #[.int .i64 (k : Nat), .int .i64 ((sbitsI G F M (k : Nat)).toNat : Nat), .int .i64 ((n - sbeg B G F M k : Nat) : Int)]
set_option maxRecDepth 100000 in
set_option maxHeartbeats 3200000 in
theorem sign_any (B G F M n r : Nat) (w : World) (hG : 1 ≤ G) (hG2 : G ≤ 100) (hF : F ≤ 100) (hM : M ≤ 100) (hB : B ≤ 100) (hb : ∀ j : Nat, j < M → sbitsI G F M (j : Nat) ≤ 13) (hn : n ≤ 1000000)
    (hr : findS B G F M n M 0 = some r) : Calls Tryz.prog 86 #[scaleV B G F M, .int .i64 (n : Nat)] w fun e w' => e = .returned (.tuple #[signV B G F M n r, .bool true]) ∧ Upd [] w w' := by
  have HBT := Lib.hid (fun j w' => scale_bits B G F M j w' hG hG2 hF hM)
  have HBG := Lib.hid (fun k w' (hk : k ≤ M) => scale_begin B G F M k w' hG hG2 hF hM hB hb hk)
  have HBD := Lib.hid hb
  have HLE := Lib.hid (sbeg_le B G F M hb)
  have HR := Lib.hid hr
  unfold scaleV at HBT HBG ⊢
  have hU := ((Upd.refl [] w).alloc (.cells #[.int .i64 (B : Nat), .int .i64 (G : Nat), .int .i64 (F : Nat), .int .i64 (M : Nat)] 128)).alloc (.cells #[.int .i64 0, .int .i64 0, .int .i64 0] 91)
  have hP := (Blk.new w [.int .i64 (B : Nat), .int .i64 (G : Nat), .int .i64 (F : Nat), .int .i64 (M : Nat)] 128).alloc (.cells #[.int .i64 0, .int .i64 0, .int .i64 0] 91)
  have hQ := Blk.new (w.alloc (.cells #[.int .i64 (B : Nat), .int .i64 (G : Nat), .int .i64 (F : Nat), .int .i64 (M : Nat)] 128)) [.int .i64 0, .int .i64 0, .int .i64 0] 91
  rw [World.size_alloc] at hQ
  clear hb hr
  go_enter Tryz.func86, Tryz.ntmps86
  go_wp2
  have HU := Lib.hid hU
  have HP := Lib.hid hP
  have HQ := Lib.hid hQ
  clear hU hP hQ
  change Code.wp _ _ _ _ ((w.alloc (.cells #[.int .i64 (B : Nat), .int .i64 (G : Nat), .int .i64 (F : Nat), .int .i64 (M : Nat)] 128)).alloc (.cells #[.int .i64 0, .int .i64 0, .int .i64 0] 91))
  generalize (w.alloc (.cells #[.int .i64 (B : Nat), .int .i64 (G : Nat), .int .i64 (F : Nat), .int .i64 (M : Nat)] 128)).alloc (.cells #[.int .i64 0, .int .i64 0, .int .i64 0] 91) = w2 at *
  generalize hp0 : w.heap.size = p at *
  have HP0 := Lib.hid hp0
  clear hp0
  go_loopg [10] 100 (fun g s10 wr => ∃ i, i ≤ M ∧ g = 100 - i ∧ s10 = .int .i64 (i : Nat) ∧ Hid (findS B G F M n (M - i) i = some r) ∧ Hid (Upd [] w wr) ∧ Hid (Blk wr p [.int .i64 (B : Nat), .int .i64 (G : Nat), .int .i64 (F : Nat), .int .i64 (M : Nat)] 128) ∧ Hid (Blk wr (p + 1) [.int .i64 0, .int .i64 0, .int .i64 0] 91))
  case atStart => exact ⟨0, by omega, by omega, rfl, HR, HU, HP, HQ⟩
  case round =>
    obtain ⟨i, hi, rfl, rfl, HFi, HUi, HPi, HQi⟩ := hrel
    by_cases hc : i < M
    · have hcz : (i : Int) < (M : Int) := by omega
      have hw1 : IntKind.i64.wrap ((i : Int) + 1) = ((i + 1 : Nat) : Int) := by rw [IntWalk.i64_in _ (by omega)]; rfl
      have HFS : Hid (findS B G F M n (M - i) i = if inS B G F M n i then some i else findS B G F M n (M - (i + 1)) (i + 1)) := Lib.hid (by rw [show M - i = (M - (i + 1)) + 1 by omega, findS_succ])
      have HIN : Hid (inS B G F M n i ↔ sbeg B G F M i ≤ n ∧ n < sbeg B G F M i + 2 ^ (sbitsI G F M (i : Nat)).toNat) := Lib.hid Iff.rfl
      have HSV : Hid (signV B G F M n i = .agg #[.int .i64 (i : Nat), .int .i64 ((sbitsI G F M (i : Nat)).toNat : Nat), .int .i64 ((n - sbeg B G F M i : Nat) : Int)]) := Lib.hid rfl
      have hle : sbeg B G F M i ≤ 819300 := by have := HLE.out i (by omega); omega
      have hnn := sbitsI_nn G F M i (by omega)
      have hb13 := HBD.out i (by omega)
      have hbt := fun w' => HBT.out (i : Nat) w'
      have hbg := fun w' => HBG.out i w' (by omega)
      generalize sbeg B G F M i = q at *
      obtain ⟨t, ht⟩ : ∃ t : Nat, sbitsI G F M (i : Nat) = (t : Int) := ⟨(sbitsI G F M (i : Nat)).toNat, by omega⟩
      rw [ht] at hbt HIN HSV hb13 hnn
      rw [Int.toNat_natCast] at HIN HSV
      have ht13 : t ≤ 13 := by omega
      obtain ⟨P, hP⟩ : ∃ P : Nat, 2 ^ t = P := ⟨_, rfl⟩
      have hPb : P ≤ 8192 := by
        have := Nat.pow_le_pow_right (n := 2) (by omega) ht13
        omega
      have hpw : wrap64 ((2 : Int) ^ t) = (P : Int) := by
        have : ((2 : Int) ^ t) = (P : Int) := by rw [← hP]; simp
        rw [this]
        unfold wrap64
        omega
      rw [hP] at HIN
      have HPW := Lib.hid hpw
      clear hpw
      have HBTi := Lib.hid hbt
      have HBGi := Lib.hid hbg
      have hwq : IntKind.i64.wrap ((q : Int) + (P : Int)) = ((q + P : Nat) : Int) := by rw [IntWalk.i64_in _ (by omega)]; rfl
      have hPi := HPi.out
      have m3 := hPi.cell 3 rfl
      clear hbt hbg ht hP hb13 hnn
      go_wp2_with (refine wpList_loadBlk rfl 128 _ rfl p rfl 128 _ hPi _ Tryz.underlying128 rfl (by kernel_rfl) ?_)
      refine (HBGi.out wr).mono ?_
      rintro e w3 ⟨rfl, hU3⟩
      have hP3 := HPi.out.upd hU3 (by simp)
      have HQ3 := Lib.hid (HQi.out.upd hU3 (by simp))
      have HU3 := Lib.hid (HUi.out.then hU3)
      have HP3 := Lib.hid hP3
      clear hU3 hPi m3
      by_cases hq : q ≤ n
      · have hqz : (q : Int) ≤ (n : Int) := by omega
        have hwb : IntKind.i64.wrap ((n : Int) - (q : Int)) = ((n - q : Nat) : Int) := by rw [IntWalk.i64_in _ (by omega)]; omega
        have m0 := hP3.cell 0 rfl
        have m1 := hP3.cell 1 rfl
        have m2 := hP3.cell 2 rfl
        have m3 := hP3.cell 3 rfl
        go_wp2_with fail
        refine (HBTi.out w3).mono ?_
        rintro e w4 ⟨rfl, hU4⟩
        have hP4 := HP3.out.upd hU4 (by simp)
        have HQ4 := Lib.hid (HQ3.out.upd hU4 (by simp))
        have HU4 := Lib.hid (HU3.out.then hU4)
        have HP4 := Lib.hid hP4
        clear hU4 hP3 m0 m1 m2 m3
        by_cases hp : n < q + P
        · have hpz : (n : Int) < ((q + P : Nat) : Int) := by omega
          have HRI : Hid (r = i) := Lib.hid (by
            have h1 := HFi.out
            rw [HFS.out, if_pos (HIN.out.2 ⟨hq, hp⟩)] at h1
            exact (Option.some.inj h1).symm)
          have hpw := HPW.out
          go_wp2_with (refine wpList_loadBlk rfl 128 _ rfl p rfl 128 _ hP4 _ Tryz.underlying128 rfl (by kernel_rfl) ?_)
          refine (HBTi.out w4).mono ?_
          rintro e w5 ⟨rfl, hU5⟩
          have hQ5 := HQ4.out.upd hU5 (by simp)
          have HU5 := Lib.hid (HU4.out.then hU5)
          have f0 := hQ5.frz 0
          have f1 := hQ5.frz 1
          have f2 := hQ5.frz 2
          have c0 := hQ5.cell 0 rfl
          have c1 := hQ5.cell 1 rfl
          have c2 := hQ5.cell 2 rfl
          have HQ5 := Lib.hid hQ5
          clear hU5 hP4 hQ5
          go_wp2
          have hB9 := ((HQ5.out.set 0 (.int .i64 (i : Nat))).set 1 (.int .i64 (t : Nat))).set 2 (.int .i64 ((n - q : Nat) : Int))
          refine bodyPost_ret (results_rowT rfl _ _ (p + 1) _ _ _ _ (.bool true) (by simp [Act.put]) (by simp [Act.put]) hB9 Tryz.underlying91 rfl (by rw [infoSign]; rfl)) (by simp [Act.put]) ⟨?_, ?_⟩
          · rw [HRI.out, HSV.out]; rfl
          · exact ((HU5.out.setCell (.inr (by rw [HP0.out]; simp)) _).setCell (.inr (by rw [HP0.out]; simp)) _).setCell (.inr (by rw [HP0.out]; simp)) _
        · have hpz : ¬ (n : Int) < ((q + P : Nat) : Int) := by omega
          have HF2 : Hid (findS B G F M n (M - (i + 1)) (i + 1) = some r) := Lib.hid (by
            have h1 := HFi.out
            rw [HFS.out, if_neg (fun h => hp (HIN.out.1 h).2)] at h1
            exact h1)
          have hpw := HPW.out
          go_wp2
          clear hpw
          go_roundg (100 - (i + 1))
          · exact ⟨i + 1, by omega, by first | rfl | omega, by first | rfl | go_num, HF2, HU4, HP4, HQ4⟩
          · omega
      · have hqz : ¬ (q : Int) ≤ (n : Int) := by omega
        have HF2 : Hid (findS B G F M n (M - (i + 1)) (i + 1) = some r) := Lib.hid (by
          have h1 := HFi.out
          rw [HFS.out, if_neg (fun h => hq (HIN.out.1 h).1)] at h1
          exact h1)
        go_wp2
        go_roundg (100 - (i + 1))
        · exact ⟨i + 1, by omega, by first | rfl | omega, by first | rfl | go_num, HF2, HU3, HP3, HQ3⟩
        · omega
    · exfalso
      have h1 := HFi.out
      rw [show M - i = 0 by omega, findS_none] at h1
      cases h1
end Go.Proofs.YtdehkaknbmbieaaGreat
namespace Go.Proofs.YtdehkaknbmbieaaGreat
set_option linter.unusedVariables false
set_option linter.unusedSimpArgs false
set_option linter.unusedSectionVars false
open Go.RowKit
set_option linter.unusedVariables false
set_option linter.unusedSimpArgs false

def lAt : List Nat := [3, 4, 5, 6, 7, 8, 9, 10, 11, 13, 15, 17, 19, 23, 27, 31, 35, 43, 51, 59, 67, 83, 99, 115, 131, 163, 195, 227, 258, 259]
def lBits : List Nat := [0, 0, 0, 0, 0, 0, 0, 0, 1, 1, 1, 1, 2, 2, 2, 2, 3, 3, 3, 3, 4, 4, 4, 4, 5, 5, 5, 5, 0]
/-- Is n of kind i? -/
def isL (n i : Nat) : Prop := lAt.getD i 0 ≤ n ∧ n < lAt.getD (i + 1) 0
instance (n i : Nat) : Decidable (isL n i) := by unfold isL; infer_instance
/-- The first kind from i on, of m more. -/
def findL (n : Nat) : Nat → Nat → Option Nat
  | 0, _ => none
  | m + 1, i => if isL n i then some i else findL n m (i + 1)
def longV (i n : Nat) : Value := .agg #[.int .i64 ((257 + i : Nat) : Int), .int .i64 (lBits.getD i 0 : Nat), .int .i64 ((n - lAt.getD i 0 : Nat) : Int)]

/-- The distances' codes. -/
def dAt : List Nat := [1, 2, 3, 4, 5, 7, 9, 13, 17, 25, 33, 49, 65, 97, 129, 193, 257, 385, 513, 769, 1025, 1537, 2049, 3073, 4097, 6145, 8193, 12289, 16385, 24577, 32769]
def dBt (i : Nat) : Nat := i / 2 - 1
def isD (n i : Nat) : Prop := dAt.getD i 0 ≤ n ∧ n < dAt.getD (i + 1) 0
instance (n i : Nat) : Decidable (isD n i) := by unfold isD; infer_instance
def findD (n : Nat) : Nat → Nat → Option Nat
  | 0, _ => none
  | m + 1, i => if isD n i then some i else findD n m (i + 1)
theorem findD_succ (n m i : Nat) : findD n (m + 1) i = if isD n i then some i else findD n m (i + 1) := rfl
theorem findD_ex (n : Nat) : ∀ m i, dAt.getD i 0 ≤ n → n < dAt.getD (i + m) 0 → ∃ r, findD n m i = some r ∧ i ≤ r ∧ r < i + m
  | 0, i, h1, h2 => by rw [Nat.add_zero] at h2; omega
  | m + 1, i, h1, h2 => by
    rw [findD_succ]
    by_cases h : isD n i
    · exact ⟨i, by rw [if_pos h], by omega, by omega⟩
    · rw [if_neg h]
      have h3 : dAt.getD (i + 1) 0 ≤ n := by
        unfold isD at h
        omega
      obtain ⟨r, r1, r2, r3⟩ := findD_ex n m (i + 1) h3 (by rw [show i + 1 + m = i + (m + 1) by omega]; exact h2)
      exact ⟨r, r1, by omega, by omega⟩
theorem findD_some (n : Nat) (h1 : 1 ≤ n) (h2 : n ≤ 32768) : ∃ r, findD n 30 0 = some r ∧ r < 30 := by
  obtain ⟨r, r1, _, r3⟩ := findD_ex n 30 0 h1 (by show n < 32769; omega)
  exact ⟨r, r1, by omega⟩
def backV (i n : Nat) : Value := .agg #[.int .i64 (i : Nat), .int .i64 (dBt i : Nat), .int .i64 ((n - dAt.getD i 0 : Nat) : Int)]
end Go.Proofs.YtdehkaknbmbieaaGreat

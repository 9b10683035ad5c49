/- Package symbol: sign, Long, Back: walks. -/
import Derived.Test.YtdehkaknbmbieaaGT
namespace Go.Proofs.Ytdehkaknbmbieaa
set_option linter.unusedVariables false
set_option linter.unusedSimpArgs false
set_option linter.unusedSectionVars false
open Go.RowKit
set_option linter.unusedVariables false
set_option linter.unusedSimpArgs false

theorem results_rowT {P : Program} {fn : Func} {p u : Tmp} {ty : TypeId} (h : fn.results = #[.cell p ty, .tmp u]) (tmps : Array Value) (w : World) (g : Nat) (t : TypeId) (cs : Array Value) (fr : Nat × Nat) (d : TypeDesc) (v : Value)
    (hp : tmps.getD p undef = .pointer (some ⟨g, 0, none⟩)) (hv : tmps.getD u undef = v) (hg : w.heap[g]? = some (.cells cs t fr))
    (hu : P.underlying ty = some d) (hd : (match d with | .struct _ | .array _ _ => true | _ => false) = true) (hi : (P.info? ty).map (·.size) = some cs.size) :
    (results fn tmps).run P w = .ok (.tuple #[.agg cs, v]) w := by
  rw [results_cell_tmp h, hp, hv]
  simp [asAddr, run_loadVar_row w g t ty cs fr d hg hu hd hi, Result.andThen]
theorem infoSign : (Try.prog.info? 95).map (·.size) = some 3 := by kernel_rfl
/-- Does a code's span hold n? -/
def inS (B G F M n k : Nat) : Prop := sbeg B G F M k ≤ n ∧ n < sbeg B G F M k + 2 ^ (sbitsI G F M (k : Nat)).toNat
instance (B G F M n k : Nat) : Decidable (inS B G F M n k) := by unfold inS; infer_instance
/-- The first code from i on, of m more. -/
def findS (B G F M n : Nat) : Nat → Nat → Option Nat
  | 0, _ => none
  | m + 1, i => if inS B G F M n i then some i else findS B G F M n m (i + 1)
theorem findS_succ (B G F M n m i : Nat) : findS B G F M n (m + 1) i = if inS B G F M n i then some i else findS B G F M n m (i + 1) := rfl
theorem findS_none (B G F M n i : Nat) : findS B G F M n 0 i = none := rfl
def signV (B G F M n k : Nat) : Value := .agg #[.int .i64 (k : Nat), .int .i64 ((sbitsI G F M (k : Nat)).toNat : Nat), .int .i64 ((n - sbeg B G F M k : Nat) : Int)]
set_option maxRecDepth 100000 in
set_option maxHeartbeats 3200000 in
theorem sign_any (B G F M n r : Nat) (w : World) (hG : 1 ≤ G) (hG2 : G ≤ 100) (hF : F ≤ 100) (hM : M ≤ 100) (hB : B ≤ 100) (hb : ∀ j : Nat, j < M → sbitsI G F M (j : Nat) ≤ 13) (hn : n ≤ 1000000)
    (hr : findS B G F M n M 0 = some r) : Calls Try.prog 82 #[scaleV B G F M, .int .i64 (n : Nat)] w fun e w' => e = .returned (.tuple #[signV B G F M n r, .bool true]) ∧ Upd [] w w' := by
  have HBT := Lib.hid (fun j w' => scale_bits B G F M j w' hG hG2 hF hM)
  have HBG := Lib.hid (fun k w' (hk : k ≤ M) => scale_begin B G F M k w' hG hG2 hF hM hB hb hk)
  have HBD := Lib.hid hb
  have HLE := Lib.hid (sbeg_le B G F M hb)
  have HR := Lib.hid hr
  unfold scaleV at HBT HBG ⊢
  have hU := ((Upd.refl [] w).alloc (.cells #[.int .i64 (B : Nat), .int .i64 (G : Nat), .int .i64 (F : Nat), .int .i64 (M : Nat)] 131)).alloc (.cells #[.int .i64 0, .int .i64 0, .int .i64 0] 95)
  have hP := (Blk.new w [.int .i64 (B : Nat), .int .i64 (G : Nat), .int .i64 (F : Nat), .int .i64 (M : Nat)] 131).alloc (.cells #[.int .i64 0, .int .i64 0, .int .i64 0] 95)
  have hQ := Blk.new (w.alloc (.cells #[.int .i64 (B : Nat), .int .i64 (G : Nat), .int .i64 (F : Nat), .int .i64 (M : Nat)] 131)) [.int .i64 0, .int .i64 0, .int .i64 0] 95
  rw [World.size_alloc] at hQ
  clear hb hr
  go_enter Try.func82, Try.ntmps82
  go_wp2
  have HU := Lib.hid hU
  have HP := Lib.hid hP
  have HQ := Lib.hid hQ
  clear hU hP hQ
  change Code.wp _ _ _ _ ((w.alloc (.cells #[.int .i64 (B : Nat), .int .i64 (G : Nat), .int .i64 (F : Nat), .int .i64 (M : Nat)] 131)).alloc (.cells #[.int .i64 0, .int .i64 0, .int .i64 0] 95))
  generalize (w.alloc (.cells #[.int .i64 (B : Nat), .int .i64 (G : Nat), .int .i64 (F : Nat), .int .i64 (M : Nat)] 131)).alloc (.cells #[.int .i64 0, .int .i64 0, .int .i64 0] 95) = w2 at *
  generalize hp0 : w.heap.size = p at *
  have HP0 := Lib.hid hp0
  clear hp0
  go_loopg [10] 100 (fun g s10 wr => ∃ i, i ≤ M ∧ g = 100 - i ∧ s10 = .int .i64 (i : Nat) ∧ Hid (findS B G F M n (M - i) i = some r) ∧ Hid (Upd [] w wr) ∧ Hid (Blk wr p [.int .i64 (B : Nat), .int .i64 (G : Nat), .int .i64 (F : Nat), .int .i64 (M : Nat)] 131) ∧ Hid (Blk wr (p + 1) [.int .i64 0, .int .i64 0, .int .i64 0] 95))
  case atStart => exact ⟨0, by omega, by omega, rfl, HR, HU, HP, HQ⟩
  case round =>
    obtain ⟨i, hi, rfl, rfl, HFi, HUi, HPi, HQi⟩ := hrel
    by_cases hc : i < M
    · have hcz : (i : Int) < (M : Int) := by omega
      have hw1 : IntKind.i64.wrap ((i : Int) + 1) = ((i + 1 : Nat) : Int) := by rw [IntWalk.i64_in _ (by omega)]; rfl
      have HFS : Hid (findS B G F M n (M - i) i = if inS B G F M n i then some i else findS B G F M n (M - (i + 1)) (i + 1)) := Lib.hid (by rw [show M - i = (M - (i + 1)) + 1 by omega, findS_succ])
      have HIN : Hid (inS B G F M n i ↔ sbeg B G F M i ≤ n ∧ n < sbeg B G F M i + 2 ^ (sbitsI G F M (i : Nat)).toNat) := Lib.hid Iff.rfl
      have HSV : Hid (signV B G F M n i = .agg #[.int .i64 (i : Nat), .int .i64 ((sbitsI G F M (i : Nat)).toNat : Nat), .int .i64 ((n - sbeg B G F M i : Nat) : Int)]) := Lib.hid rfl
      have hle : sbeg B G F M i ≤ 819300 := by have := HLE.out i (by omega); omega
      have hnn := sbitsI_nn G F M i (by omega)
      have hb13 := HBD.out i (by omega)
      have hbt := fun w' => HBT.out (i : Nat) w'
      have hbg := fun w' => HBG.out i w' (by omega)
      generalize sbeg B G F M i = q at *
      obtain ⟨t, ht⟩ : ∃ t : Nat, sbitsI G F M (i : Nat) = (t : Int) := ⟨(sbitsI G F M (i : Nat)).toNat, by omega⟩
      rw [ht] at hbt HIN HSV hb13 hnn
      rw [Int.toNat_natCast] at HIN HSV
      have ht13 : t ≤ 13 := by omega
      obtain ⟨P, hP⟩ : ∃ P : Nat, 2 ^ t = P := ⟨_, rfl⟩
      have hPb : P ≤ 8192 := by
        have := Nat.pow_le_pow_right (n := 2) (by omega) ht13
        omega
      have hpw : wrap64 ((2 : Int) ^ t) = (P : Int) := by
        have : ((2 : Int) ^ t) = (P : Int) := by rw [← hP]; simp
        rw [this]
        unfold wrap64
        omega
      rw [hP] at HIN
      have HPW := Lib.hid hpw
      clear hpw
      have HBTi := Lib.hid hbt
      have HBGi := Lib.hid hbg
      have hwq : IntKind.i64.wrap ((q : Int) + (P : Int)) = ((q + P : Nat) : Int) := by rw [IntWalk.i64_in _ (by omega)]; rfl
      have hPi := HPi.out
      have m3 := hPi.cell 3 rfl
      clear hbt hbg ht hP hb13 hnn
      go_wp2_with (refine wpList_loadBlk rfl 131 _ rfl p rfl 131 _ hPi _ Try.underlying131 rfl (by kernel_rfl) ?_)
      refine (HBGi.out wr).mono ?_
      rintro e w3 ⟨rfl, hU3⟩
      have hP3 := HPi.out.upd hU3 (by simp)
      have HQ3 := Lib.hid (HQi.out.upd hU3 (by simp))
      have HU3 := Lib.hid (HUi.out.then hU3)
      have HP3 := Lib.hid hP3
      clear hU3 hPi m3
      by_cases hq : q ≤ n
      · have hqz : (q : Int) ≤ (n : Int) := by omega
        have hwb : IntKind.i64.wrap ((n : Int) - (q : Int)) = ((n - q : Nat) : Int) := by rw [IntWalk.i64_in _ (by omega)]; omega
        have m0 := hP3.cell 0 rfl
        have m1 := hP3.cell 1 rfl
        have m2 := hP3.cell 2 rfl
        have m3 := hP3.cell 3 rfl
        go_wp2_with fail
        refine (HBTi.out w3).mono ?_
        rintro e w4 ⟨rfl, hU4⟩
        have hP4 := HP3.out.upd hU4 (by simp)
        have HQ4 := Lib.hid (HQ3.out.upd hU4 (by simp))
        have HU4 := Lib.hid (HU3.out.then hU4)
        have HP4 := Lib.hid hP4
        clear hU4 hP3 m0 m1 m2 m3
        by_cases hp : n < q + P
        · have hpz : (n : Int) < ((q + P : Nat) : Int) := by omega
          have HRI : Hid (r = i) := Lib.hid (by
            have h1 := HFi.out
            rw [HFS.out, if_pos (HIN.out.2 ⟨hq, hp⟩)] at h1
            exact (Option.some.inj h1).symm)
          have hpw := HPW.out
          go_wp2_with (refine wpList_loadBlk rfl 131 _ rfl p rfl 131 _ hP4 _ Try.underlying131 rfl (by kernel_rfl) ?_)
          refine (HBTi.out w4).mono ?_
          rintro e w5 ⟨rfl, hU5⟩
          have hQ5 := HQ4.out.upd hU5 (by simp)
          have HU5 := Lib.hid (HU4.out.then hU5)
          have f0 := hQ5.frz 0
          have f1 := hQ5.frz 1
          have f2 := hQ5.frz 2
          have c0 := hQ5.cell 0 rfl
          have c1 := hQ5.cell 1 rfl
          have c2 := hQ5.cell 2 rfl
          have HQ5 := Lib.hid hQ5
          clear hU5 hP4 hQ5
          go_wp2
          have hB9 := ((HQ5.out.set 0 (.int .i64 (i : Nat))).set 1 (.int .i64 (t : Nat))).set 2 (.int .i64 ((n - q : Nat) : Int))
          refine bodyPost_ret (results_rowT rfl _ _ (p + 1) _ _ _ _ (.bool true) (by simp [Act.put]) (by simp [Act.put]) hB9 Try.underlying95 rfl (by rw [infoSign]; rfl)) (by simp [Act.put]) ⟨?_, ?_⟩
          · rw [HRI.out, HSV.out]; rfl
          · exact ((HU5.out.setCell (.inr (by rw [HP0.out]; simp)) _).setCell (.inr (by rw [HP0.out]; simp)) _).setCell (.inr (by rw [HP0.out]; simp)) _
        · have hpz : ¬ (n : Int) < ((q + P : Nat) : Int) := by omega
          have HF2 : Hid (findS B G F M n (M - (i + 1)) (i + 1) = some r) := Lib.hid (by
            have h1 := HFi.out
            rw [HFS.out, if_neg (fun h => hp (HIN.out.1 h).2)] at h1
            exact h1)
          have hpw := HPW.out
          go_wp2
          clear hpw
          go_roundg (100 - (i + 1))
          · exact ⟨i + 1, by omega, by first | rfl | omega, by first | rfl | go_num, HF2, HU4, HP4, HQ4⟩
          · omega
      · have hqz : ¬ (q : Int) ≤ (n : Int) := by omega
        have HF2 : Hid (findS B G F M n (M - (i + 1)) (i + 1) = some r) := Lib.hid (by
          have h1 := HFi.out
          rw [HFS.out, if_neg (fun h => hq (HIN.out.1 h).1)] at h1
          exact h1)
        go_wp2
        go_roundg (100 - (i + 1))
        · exact ⟨i + 1, by omega, by first | rfl | omega, by first | rfl | go_num, HF2, HU3, HP3, HQ3⟩
        · omega
    · exfalso
      have h1 := HFi.out
      rw [show M - i = 0 by omega, findS_none] at h1
      cases h1
end Go.Proofs.Ytdehkaknbmbieaa

/- Law 40: DrillNumbers: its walk. -/
import Derived.Test.YtdehkaknbmbieaaDScr
import Derived.Test.YtdehkaknbmbieaaGD
import Derived.Test.YtdehkaknbmbieaaIntB
namespace Go.Proofs.Ytdehkaknbmbieaa
set_option linter.unusedVariables false
set_option linter.unusedSimpArgs false
set_option linter.unusedSectionVars false
open Go.RowKit
set_option linter.unusedVariables false
set_option linter.unusedSimpArgs false

def pOk (l : List Nat) : Bool := rightP l && decide ((splitP l).length ≤ 3)
theorem pOk_all : ∀ a b c : Fin 5, (pOk (joinC 47 [nmAt a]) && pOk (joinC 47 [nmAt a, nmAt b]) && pOk (joinC 47 [nmAt a, nmAt b, nmAt c])) = true := by decide +kernel
theorem pathB_ok (x : Nat) : rightP (pathB x) = true ∧ (splitP (pathB x)).length ≤ 3 := by
  have h3 := belowI_lt3 x
  have hP : pOk (pathB x) = true := by
    unfold pathB pathR
    generalize nextB x 3 = y
    have h := pOk_all ⟨_, belowI_lt5 y⟩ ⟨_, belowI_lt5 (nextB y 5)⟩ ⟨_, belowI_lt5 (nextB (nextB y 5) 5)⟩
    simp only [Bool.and_eq_true] at h
    have s0 : pathS y 0 = ([], y) := rfl
    have s1 : pathS y 1 = ([nmAt (belowI y 5)], nextB y 5) := by rw [pathS_succ, s0]; rfl
    have s2 : pathS y 2 = ([nmAt (belowI y 5), nmAt (belowI (nextB y 5) 5)], nextB (nextB y 5) 5) := by rw [pathS_succ, s1]; rfl
    have s3 : pathS y 3 = ([nmAt (belowI y 5), nmAt (belowI (nextB y 5) 5), nmAt (belowI (nextB (nextB y 5) 5) 5)], nextB (nextB (nextB y 5) 5) 5) := by rw [pathS_succ, s2]; rfl
    obtain ⟨k, hk⟩ : ∃ k, belowI x 3 = k := ⟨_, rfl⟩
    rw [hk] at h3 ⊢
    rcases (by omega : k = 0 ∨ k = 1 ∨ k = 2) with rfl | rfl | rfl
    · rw [show 1 + 0 = 1 from rfl, s1]; exact h.1.1
    · rw [show 1 + 1 = 2 from rfl, s2]; exact h.1.2
    · rw [show 1 + 2 = 3 from rfl, s3]; exact h.2
  unfold pOk at hP
  simp only [Bool.and_eq_true, decide_eq_true_eq] at hP
  exact hP
theorem joinC_lt2 (c : Nat) (hc : c < 256) : ∀ ps : List (List Nat), (∀ p ∈ ps, ∀ x ∈ p, x < 256) → ∀ x ∈ joinC c ps, x < 256
  | [], _, x, hx => by simp [joinC] at hx
  | [p], h, x, hx => h p (by simp) x (by simpa [joinC] using hx)
  | p :: q :: r, h, x, hx => by
    rw [joinC] at hx
    rcases List.mem_append.1 hx with h1 | h1
    · exact h p (by simp) x h1
    · rcases List.mem_cons.1 h1 with rfl | h2
      · exact hc
      · exact joinC_lt2 c hc (q :: r) (fun y hy => h y (List.mem_cons_of_mem _ hy)) x h2
theorem pathB_lt (x : Nat) : ∀ y ∈ pathB x, y < 256 := joinC_lt2 47 (by omega) _ (pathS_lt _ _)
def LivesD (w : World) (e : Ending) (w' : World) : Prop := e = .returned (.bool true) ∧ Upd [] w w'
set_option maxRecDepth 100000 in
set_option maxHeartbeats 6400000 in
theorem law_drillNumbers (many : List Int) (a : Option Addr) (n cap x0 : Nat) (w : World) (hI : IntsIn w a n many) (hn : n ≤ 9223372036854775807) (hx : x0 < 18446744073709551616) :
    Calls Try.prog 9 #[.int .u64 (x0 : Int), .slice a n cap] w fun e w' => LivesD w e w' := by
  have HLN := Lib.hid hI.len
  have HI := Lib.hid hI
  clear hI
  by_cases hbig : 60 < n
  · have hbz : (60 : Int) < (n : Int) := by omega
    have HUc := Lib.hid (Upd.refl [] w)
    go_enter Try.func9, Try.ntmps9
    go_wp2_with fail
    refine (dlives_any _).mono ?_
    rintro e w9 ⟨rfl, hU9⟩
    have HU9 := Lib.hid (HUc.out.then hU9)
    clear hU9
    go_wp2
    go_ret
    exact ⟨rfl, HU9.out⟩
  have hbz : ¬ (60 : Int) < (n : Int) := by omega
  have HN := Lib.hid (dnew_any x0 w hx)
  go_enter Try.func9, Try.ntmps9
  go_wp2_with fail
  refine HN.out.mono ?_
  rintro e w1 ⟨rfl, hD1, hU1⟩
  have HD1 := Lib.hid hD1
  have HU1 := Lib.hid hU1
  clear hD1 hU1 HN
  generalize hb : w.heap.size = b at *
  have HB := Lib.hid hb
  clear hb
  go_wp2
  go_loopg [6, 28] 100 (fun gg s6 s28 wr => ∃ (i x : Nat), i ≤ n ∧ gg = 100 - i ∧ s28 = .int .i64 (i : Nat) ∧ s6 = .int .u64 (x : Nat) ∧ Hid (DiceB wr b x) ∧ Hid (Upd [] w wr))
  case atStart => exact ⟨0, x0, by omega, by omega, rfl, rfl, HD1, HU1⟩
  case round =>
    obtain ⟨i, x, hin, rfl, rfl, rfl, HD, HU⟩ := hrel
    by_cases hc : i < n
    · have hcz : (i : Int) < (n : Int) := by omega
      have hil : i < many.length := by rw [HLN.out]; exact hc
      obtain ⟨c, off, rfl, hc1, hr1, hr2⟩ := (HI.out.pure HU.out).cell i hil
      generalize many[i] = m at *
      have hw1 : IntKind.i64.wrap ((i : Int) + 1) = ((i + 1 : Nat) : Int) := by rw [IntWalk.i64_in _ (by omega)]; rfl
      have HRB := Lib.hid (rbelow_any x m wr hr2)
      clear hil
      go_wp2_with fail
      refine HRB.out.mono ?_
      rintro e w2 ⟨rfl, hU2⟩
      have HDB := Lib.hid (dbelow_any b x m w2 (HD.out.upd hU2 (by simp)) hr2)
      have HU2 := Lib.hid (HU.out.then hU2)
      clear hU2 HRB
      go_wp2_with fail
      refine HDB.out.mono ?_
      rintro e w3 ⟨rfl, hD3, hU3⟩
      have HD3 := Lib.hid hD3
      have HU3 := Lib.hid (HU2.out.trans hU3 (fun k hk => .inr (by simp at hk; rw [hk, HB.out]; exact Nat.le_refl _)))
      clear hD3 hU3 HDB HU2
      generalize belowI x m = t at *
      generalize nextB x m = y at *
      go_wp2
      go_roundg (100 - (i + 1))
      · exact ⟨i + 1, y, by omega, rfl, by first | rfl | go_num, rfl, HD3, HU3⟩
      · omega
    · have hcz : ¬ (i : Int) < (n : Int) := by omega
      obtain rfl : i = n := by omega
      have HRN := Lib.hid (rnext_any x wr)
      have HDN := Lib.hid (dnext_any b x wr HD.out)
      go_wp2_with fail
      refine HRN.out.mono ?_
      rintro e w2 ⟨rfl, rfl⟩
      go_wp2_with fail
      refine HDN.out.mono ?_
      rintro e w3 ⟨rfl, hD3, hU3⟩
      have HNW := Lib.hid (dnew_any (nextN x) w3 (nextN_lt x))
      have HD3 := Lib.hid hD3
      have HU3 := Lib.hid (HU.out.trans hU3 (fun k hk => .inr (by simp at hk; rw [hk, HB.out]; exact Nat.le_refl _)))
      have hbl := hD3.lt
      clear hD3 hU3 HRN HDN HD
      generalize toldN x = tt at *
      generalize nextN x = y at *
      go_wp2_with fail
      refine HNW.out.mono ?_
      rintro e w4 ⟨rfl, hE4, hU4⟩
      have hbe : b ≠ w3.heap.size := by omega
      have hw3 : w.heap.size ≤ w3.heap.size := HU3.out.size
      have HP1 := Lib.hid (dpath_any b y w4 (HD3.out.upd hU4 (by simp)))
      have HE4 := Lib.hid hE4
      have HU4 := Lib.hid (HU3.out.then hU4)
      generalize w3.heap.size = c at *
      clear hE4 hU4 HNW HD3
      go_wp2_with fail
      refine HP1.out.mono ?_
      rintro e w5 ⟨rfl, hD5, hU5⟩
      have HP2 := Lib.hid (dpath_any c y w5 (HE4.out.upd hU5 (by simp; omega)))
      have HD5 := Lib.hid hD5
      have HU5 := Lib.hid (HU4.out.trans hU5 (fun k hk => .inr (by simp at hk; rw [hk, HB.out]; exact Nat.le_refl _)))
      clear hD5 hU5 HP1 HE4
      go_wp2_with fail
      refine HP2.out.mono ?_
      rintro e w6 ⟨rfl, hE6, hU6⟩
      have HN1 := Lib.hid (dnode_any b (pathR y).2 w6 (HD5.out.upd hU6 (by simp; omega)))
      have HE6 := Lib.hid hE6
      have HU6 := Lib.hid (HU5.out.trans hU6 (fun k hk => .inr (by simp at hk; omega)))
      obtain ⟨pr, pl⟩ := pathB_ok y
      have plt := pathB_lt y
      have hsz := rightP_len pr
      have HPR : Hid (∀ w, Calls Try.prog 43 #[.string (strOf (pathB y))] w fun e w' => e = .returned (.bool true) ∧ Upd [] w w') := Lib.hid (fun w => by
        have h := rname_any (strOf (pathB y)) w (by rw [size_strOf]; omega)
        rw [bytesOf_strOf _ plt, pr] at h
        exact h)
      have HPS : Hid (∀ w, Calls Try.prog 44 #[.string (strOf (pathB y))] w fun e w' => ∃ g k cap, e = .returned (.slice (some ⟨g, 0, none⟩) k cap) ∧ k ≤ 3 ∧ Upd [] w w') := Lib.hid (fun w => by
        have h := rsplit13_any (strOf (pathB y)) w (by rw [size_strOf]; omega)
        rw [bytesOf_strOf _ plt] at h
        refine h.mono ?_
        rintro e w' ⟨g, cap, rfl, _, _, hU⟩
        exact ⟨g, _, cap, rfl, pl, hU⟩)
      generalize strOf (pathB y) = S at *
      generalize (pathR y).2 = z at *
      clear hE6 hU6 HP2 HD5 pr pl plt hsz
      go_wp2_with fail
      refine HN1.out.mono ?_
      rintro e w7 ⟨k, m, t, D, x', rfl, hr7, hD7, hU7⟩
      have HN2 := Lib.hid (dnode_any c z w7 (HE6.out.upd hU7 (by simp; omega)))
      have HU7 := Lib.hid (HU6.out.trans hU7 (fun k hk => .inr (by simp at hk; rw [hk, HB.out]; exact Nat.le_refl _)))
      have HR7 := Lib.hid hr7
      clear hr7 hD7 hU7 HN1 HE6
      go_wp2_with fail
      refine HN2.out.mono ?_
      rintro e w8 ⟨k2, m2, t2, D2, x2, rfl, hr8, hD8, hU8⟩
      obtain ⟨ek, em, et, eD, _⟩ := hr8.uniq HR7.out
      subst ek em et eD
      have HU8 := Lib.hid (HU7.out.trans hU8 (fun k hk => .inr (by simp at hk; omega)))
      obtain ⟨re, rk, rl, rt, rk2⟩ := HR7.out.right
      have HRR : Hid (∀ w, Calls Try.prog 45 #[.agg #[.int .i64 (k2 : Int), .int .i64 (m2 : Int), .int .u32 (t2 : Nat), .string (strOf D2)]] w fun e w' => e = .returned (.int .i64 0) ∧ Upd [] w w') := Lib.hid (fun w => by
        have h := rnodeRight_any k2 m2 t2 (strOf D2) w rt (by rw [size_strOf]; omega)
        rw [re] at h
        exact h)
      have hk0 : ¬ (k2 : Int) = 0 := by omega
      have hDl : (strOf D2).size ≤ 200 := by rw [size_strOf]; exact rl
      have hDz : ((strOf D2).size : Int) ≤ 200 := by omega
      clear hr8 hD8 hU8 HN2 HR7 re rk rl rt rk2
      unfold nodeV
      generalize strOf D2 = SD at *
      go_wp2_with fail
      have hBA := (Blk.new w8 [.int .i64 (k2 : Int), .int .i64 (m2 : Int), .int .u32 (t2 : Nat), .string SD] 80).alloc (.cells #[.int .i64 (k2 : Int), .int .i64 (m2 : Int), .int .u32 (t2 : Nat), .string SD] 80)
      have hUA := (HU8.out.alloc (.cells #[.int .i64 (k2 : Int), .int .i64 (m2 : Int), .int .u32 (t2 : Nat), .string SD] 80)).alloc (.cells #[.int .i64 (k2 : Int), .int .i64 (m2 : Int), .int .u32 (t2 : Nat), .string SD] 80)
      have HBA := Lib.hid hBA
      have HUA := Lib.hid hUA
      clear hBA hUA HU8 HU7 HU6 HU5 HU4 HU3
      generalize w8.heap.size = nb at *
      refine (HPR.out _).mono ?_
      rintro e w9 ⟨rfl, hU9⟩
      have HB9 := Lib.hid (HBA.out.upd hU9 (by simp))
      have HU9 := Lib.hid (HUA.out.then hU9)
      clear hU9 HBA HUA
      go_wp2_with fail
      refine (HPS.out _).mono ?_
      rintro e w10 ⟨g, kk, cp, rfl, hk3, hU10⟩
      have hkz : (kk : Int) ≤ 3 := by omega
      have hB10 := HB9.out.upd hU10 (by simp)
      have HU10 := Lib.hid (HU9.out.then hU10)
      have e0 := hB10.cell 0 rfl
      have e1 := hB10.cell 1 rfl
      have e2 := hB10.cell 2 rfl
      have e3 := hB10.cell 3 rfl
      have HB10 := Lib.hid hB10
      clear hU10 HB9 HU9 hB10
      go_wp2_with fail
      refine (HRR.out _).mono ?_
      rintro e w11 ⟨rfl, hU11⟩
      have hB11 := HB10.out.upd hU11 (by simp)
      have HU11 := Lib.hid (HU10.out.then hU11)
      have g0 := hB11.cell 0 rfl
      have g3 := hB11.cell 3 rfl
      have hkb : ((k2 : Int) != 0) = true := by rw [bne_iff_ne]; omega
      clear hU11 hB11 HB10 HU10 e0 e1 e2 e3
      go_wp2_with fail
      refine (dnext_nil w11).mono ?_
      rintro e w12 ⟨rfl, rfl⟩
      go_wp2_with fail
      refine (dbelow_nil w11).mono ?_
      rintro e w12 ⟨rfl, rfl⟩
      go_wp2_with fail
      refine (dpath_nil w11).mono ?_
      rintro e w12 ⟨rfl, rfl⟩
      go_wp2_with fail
      refine (dnode_nil w11).mono ?_
      rintro e w12 ⟨rfl, hU12⟩
      have HUc := Lib.hid (HU11.out.then hU12)
      clear hU12 HU11
      unfold nodeV
      go_wp2_with fail
      refine (dlives_any _).mono ?_
      rintro e w9 ⟨rfl, hU9⟩
      have HU9 := Lib.hid (HUc.out.then hU9)
      clear hU9
      go_wp2
      go_ret
      exact ⟨rfl, HU9.out⟩
end Go.Proofs.Ytdehkaknbmbieaa

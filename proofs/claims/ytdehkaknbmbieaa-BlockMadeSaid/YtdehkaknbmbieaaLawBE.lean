/- Law 10: BlockMade: its walk. -/
import Derived.Test.YtdehkaknbmbieaaLawBM
import Derived.Test.YtdehkaknbmbieaaDecW
import Derived.Test.YtdehkaknbmbieaaMadP
import Derived.Test.YtdehkaknbmbieaaBest
namespace Go.Proofs.Ytdehkaknbmbieaa
set_option linter.unusedVariables false
set_option linter.unusedSimpArgs false
set_option linter.unusedSectionVars false
open Go.RowKit
attribute [local go_sem] Oper.semAt_some
set_option linter.unusedVariables false
set_option linter.unusedSimpArgs false

theorem infoS9E : (Try.prog.info? 56).map (fun i => (i.zero, i.size, i.bytes)) = some (some (.agg #[.int .i64 0, .int .i64 0, .int .i64 0]), 3, 24) := by kernel_rfl
theorem ints_length (l : List Nat) : (ints l).length = l.length := by simp [ints]
theorem IntsIn.takeN {w : World} {a : Option Addr} {n m : Nat} {l : List Int} (h : IntsIn w a n l) (hm : m ≤ n) : IntsIn w a m (l.take m) :=
  ⟨by rw [List.length_take, h.len]; omega, fun i hi => by
    rw [List.length_take, h.len] at hi
    obtain ⟨b, off, e, c, r⟩ := h.cell i (by rw [h.len]; omega)
    exact ⟨b, off, e, by rw [List.getElem_take]; exact c, by rw [List.getElem_take]; exact r⟩⟩
theorem costN_take (many : List Int) (l : List Nat) (m : Nat) : sumN m (fun i => l.getD i 0 * nearN ((many.take m).getD i 0)) = costN many l m := by
  unfold costN
  refine sumN_congr (fun i hi => ?_)
  have e : (many.take m).getD i 0 = many.getD i 0 := by rw [List.getD_eq_getElem?_getD, List.getElem?_take, if_pos hi, List.getD_eq_getElem?_getD]
  rw [e]
theorem stepsC_take (l : List StpD) (i : Nat) (h : i < l.length) : stepsC (l.take (i + 1)) = stepsC (l.take i) ++ l[i].cs := by
  rw [List.take_succ_eq_append_getElem h]
  unfold stepsC
  rw [List.flatMap_append, List.flatMap_cons, List.flatMap_nil, List.append_nil]
set_option maxRecDepth 100000 in
set_option maxHeartbeats 12800000 in
theorem law_blockMade (l : List Tok) (a : Option Addr) (n cap : Nat) (w : World) (hI : TokIn w a n l) (hn : n ≤ 9223372036854775807) (hnc : n ≤ cap) :
    Calls Try.prog 7 #[.slice a n cap] w fun e w' => LivesP w e w' := by
  obtain ⟨i0, hi, hz0, hz1, hz2⟩ := info_parts infoInt
  obtain ⟨j0, ji, jz0, jz1, jz2⟩ := info_parts infoS9E
  have HLI := Lib.hid (light_any l a n cap w hI hn hnc)
  unfold LightP at HLI
  have HLN := Lib.hid hI.len
  have HI := Lib.hid hI
  clear hI
  cases hl : lightB l with
  | false =>
    rw [hl] at HLI
    clear hl
    go_enter Try.func7, Try.ntmps7
    go_wp2_with fail
    refine HLI.out.mono ?_
    rintro e w1 ⟨rfl, hU1⟩
    have HU1 := Lib.hid hU1
    clear hU1 HLI
    go_wp2_with fail
    refine (lives10_any _).mono ?_
    rintro e w2 ⟨rfl, hU2⟩
    have HU2 := Lib.hid (HU1.out.then hU2)
    clear hU2
    go_wp2
    go_ret
    exact ⟨rfl, HU2.out⟩
  | true =>
    obtain ⟨hl100, hms, s, hs⟩ := lightB_yes hl
    have hbyte : ∀ t ∈ l, t.byte < 256 := fun t ht => by
      obtain ⟨i, hi, rfl⟩ := List.getElem_of_mem ht
      obtain ⟨_, _, _, _, r, _⟩ := HI.out.cell i hi
      exact r
    have hok := expTo_ok l [] s hbyte hs
    have hn100 : n ≤ 100 := by have := HLN.out; omega
    have HOK := Lib.hid hok
    have HML := Lib.hid (by have := many_ok l l.length (Nat.le_refl _); rw [List.take_length] at this; exact And.intro this.la this.lb)
    have HMB := Lib.hid (by have := many_ok l l.length (Nat.le_refl _); rw [List.take_length] at this; exact this.ba)
    rw [hl] at HLI
    clear hbyte hs hl hl100 hms hok
    go_enter Try.func7, Try.ntmps7
    go_wp2_with fail
    refine HLI.out.mono ?_
    rintro e w1 ⟨rfl, hU1⟩
    have HU1 := Lib.hid hU1
    have HMM := Lib.hid (made_any l a n cap w1 (HI.out.pure hU1) (by omega) HOK.out)
    clear hU1 HLI
    go_wp2_with fail
    refine HMM.out.mono ?_
    rintro e w3 ⟨g1, c1, g2, c2, g4, v3, lits, backs, lens, steps, rfl, hM, hR1, hR2, hR3, hB4, hU3⟩
    obtain ⟨va, vc, rfl⟩ := hR3.form
    obtain ⟨m1b, m1b', m2b, m2b', x15, y15, hsy0, hl7, hl19, hsl⟩ := hM.bd HML.out
    obtain ⟨okA, okB, okC, hsy, hdec, hcost⟩ := hM.law HML.out HOK.out
    have hg4 := hB4.lt
    have HDEC := Lib.hid hdec
    have HCOST := Lib.hid hcost
    have HX15 := Lib.hid x15
    have HY15 := Lib.hid y15
    have hIl : IntsIn w3 (some ⟨g1, 0, none⟩) lits.length (ints lits) := IntsIn.row hR1 (fun x hx => by have := x15 x hx; omega)
    have hIb : IntsIn w3 (some ⟨g2, 0, none⟩) backs.length (ints backs) := IntsIn.row hR2 (fun x hx => by have := y15 x hx; omega)
    have hIn : IntsIn w3 (some ⟨g4, 0, none⟩) 19 (ints lens) := IntsIn.blk hB4 hl19 (fun x hx => by have := hl7 x hx; omega)
    have HIl := Lib.hid hIl
    have HIb := Lib.hid hIb
    have HIn := Lib.hid hIn
    have HL19 := Lib.hid hl19
    have HSY := Lib.hid hsy
    have HSt := Lib.hid (StpIn.row hR3 rfl)
    have HR1 := Lib.hid hR1
    have HR2 := Lib.hid hR2
    have HU3 := Lib.hid (HU1.out.then hU3)
    have HOB := Lib.hid okB
    have HKL : Hid (∀ w9, Upd [] w3 w9 → Calls Try.prog 27 #[.slice (some ⟨g1, 0, none⟩) lits.length c1] w9 fun e w' => e = .returned (.bool true) ∧ w9 = w') := Lib.hid (fun w9 h => by
      have := rlengths_any (some ⟨g1, 0, none⟩) c1 (ints lits) w9 (by rw [ints_length]; omega) (by rw [ints_length]; exact hIl.pure h)
      rw [ints_length, okA] at this
      exact this)
    have HKB : Hid (∀ w9, Upd [] w3 w9 → Calls Try.prog 27 #[.slice (some ⟨g2, 0, none⟩) backs.length c2] w9 fun e w' => e = .returned (.bool (lensOk (ints backs))) ∧ w9 = w') := Lib.hid (fun w9 h => by
      have := rlengths_any (some ⟨g2, 0, none⟩) c2 (ints backs) w9 (by rw [ints_length]; omega) (by rw [ints_length]; exact hIb.pure h)
      rw [ints_length] at this
      exact this)
    have HK4 : Hid (∀ w9, Upd [] w3 w9 → Calls Try.prog 15 #[.slice (some ⟨g4, 0, none⟩) 19 19] w9 fun e w' => e = .returned (.int .i64 1) ∧ w9 = w') := Lib.hid (fun w9 h => by
      have := rkind_any (some ⟨g4, 0, none⟩) 19 19 (ints lens) w9 (by omega) (hIn.pure h)
      rw [okC] at this
      exact this)
    have HK2 := Lib.hid (fun w9 (h : Upd [] w3 w9) => rkind_any (some ⟨g2, 0, none⟩) backs.length c2 (ints backs) w9 (by omega) (hIb.pure h))
    clear hM x15 y15 hIl hIb hIn hR1 hR2 hR3 hB4 hU3 hsy0 hl7 hl19 hsy hdec hcost okA okB okC HMM
    obtain ⟨m1, hm1⟩ : ∃ m, lits.length = m := ⟨_, rfl⟩
    obtain ⟨m2, hm2⟩ : ∃ m, backs.length = m := ⟨_, rfl⟩
    rw [hm1] at HKL m1b m1b' HCOST HR1 HIl ⊢
    rw [hm2] at HKB HK2 m2b m2b' HR2 HIb ⊢
    have HM1 := Lib.hid hm1
    have HM2 := Lib.hid hm2
    clear hm1 hm2
    have hP4 := Blk.new w3 [.slice (some ⟨g1, 0, none⟩) m1 c1, .slice (some ⟨g2, 0, none⟩) m2 c2, .slice va steps.length vc, .slice (some ⟨g4, 0, none⟩) 19 19] 50
    have hUp := (Upd.refl [] w3).alloc (.cells #[.slice (some ⟨g1, 0, none⟩) m1 c1, .slice (some ⟨g2, 0, none⟩) m2 c2, .slice va steps.length vc, .slice (some ⟨g4, 0, none⟩) 19 19] 50)
    go_upto_region 4 with fail
    change Code.wp _ _ _ _ (w3.alloc (.cells #[.slice (some ⟨g1, 0, none⟩) m1 c1, .slice (some ⟨g2, 0, none⟩) m2 c2, .slice va steps.length vc, .slice (some ⟨g4, 0, none⟩) 19 19] 50))
    generalize w3.alloc (.cells #[.slice (some ⟨g1, 0, none⟩) m1 c1, .slice (some ⟨g2, 0, none⟩) m2 c2, .slice va steps.length vc, .slice (some ⟨g4, 0, none⟩) 19 19] 50) = w4 at *
    generalize w3.heap.size = pb at *
    have k0 := hP4.cell 0 rfl
    have k1 := hP4.cell 1 rfl
    have k2 := hP4.cell 2 rfl
    have k3 := hP4.cell 3 rfl
    have HP4 := Lib.hid hP4
    have HUp := Lib.hid hUp
    clear hP4 hUp
    have b1 : ¬ (m1 : Int) < 257 := by omega
    have b2 : ¬ (286 : Int) < (m1 : Int) := by omega
    have b3 : ¬ (m2 : Int) < 1 := by omega
    have b3' : ¬ m2 = 0 := by omega
    have b4 : ¬ (30 : Int) < (m2 : Int) := by omega
    go_wp2_with fail
    refine (HKL.out _ HUp.out).mono ?_
    rintro e w5 ⟨rfl, rfl⟩
    go_wp2_with fail
    refine (HK4.out _ HUp.out).mono ?_
    rintro e w5 ⟨rfl, rfl⟩
    go_upto_region 6 with fail
    obtain ⟨sl, hsle⟩ : ∃ sl, steps.length = sl := ⟨_, rfl⟩
    rw [hsle] at hsl HP4 HSt k2
    have HSL := Lib.hid hsle
    clear hsle
    go_cut [69] (fun s69 wx => s69 = .bool false ∧ wx = w4)
    case first =>
      have HK2' := Lib.hid (HK2.out w4 HUp.out)
      have HKB' := Lib.hid (HKB.out w4 HUp.out)
      have HOB' := HOB.out
      generalize kindOf (ints backs) = kk at *
      generalize lensOk (ints backs) = lb at *
      by_cases hk0 : kk = 0
      · subst hk0
        clear HOB' HKB'
        go_wp2_with fail
        refine HK2'.out.mono ?_
        rintro e w5 ⟨rfl, rfl⟩
        go_wp2
        go_meet
        exact ⟨rfl, rfl⟩
      · have hlb : lb = true := by rcases HOB' with h | h; exact absurd h hk0; exact h
        subst hlb
        clear HOB'
        have hkz : ¬ (kk : Int) = 0 := by omega
        have hkb : ((kk : Int) != 0) = true := by simpa using hkz
        go_wp2_with fail
        refine HK2'.out.mono ?_
        rintro e w5 ⟨rfl, rfl⟩
        go_wp2_with fail
        refine HKB'.out.mono ?_
        rintro e w5 ⟨rfl, rfl⟩
        go_wp2
        go_meet
        exact ⟨rfl, rfl⟩
    case rest =>
    obtain ⟨rfl, hwc⟩ := hcut
    subst hwc
    clear HK2 HKB HKL HK4 HOB b1 b2 b3 b3' b4
    go_wp2
    clear k0 k1 k2 k3
    have hpw : pb < wc.heap.size := HP4.out.lt
    go_loopg [4, 73] 1000 (fun gg s4 s73 wr => ∃ i : Nat, i ≤ sl ∧ gg = 1000 - i ∧ s73 = .int .i64 (i : Nat) ∧ Hid (Row wr 56 3 s4 i (stepsC (steps.take i))) ∧ Hid (∀ k, s4.ownBlock = some k → wc.heap.size ≤ k) ∧ Hid (Upd [] wc wr))
    case atStart => exact ⟨0, by omega, by omega, rfl, Lib.hid (Row.nil _ _ _), Lib.hid (by simp [Value.ownBlock]), Lib.hid (Upd.refl _ _)⟩
    case round =>
    obtain ⟨i, hin, rfl, rfl, HR, HO, HU⟩ := hrel
    obtain ⟨vb, vd, hv4⟩ := HR.out.form
    subst hv4
    have HUt := Lib.hid (HUp.out.then HU.out)
    by_cases hc : i < sl
    · have hcz : (i : Int) < (sl : Int) := by omega
      have hil : i < steps.length := by rw [HSL.out]; exact hc
      have hw1 : IntKind.i64.wrap ((i : Int) + 1) = ((i + 1 : Nat) : Int) := by rw [IntWalk.i64_in _ (by omega)]; rfl
      obtain ⟨b, off, rfl, hc1, hc2, hc3⟩ := (HSt.out.pure HUt.out).cell i hil
      obtain ⟨hy19, hy1, hy7⟩ := HSY.out _ (List.getElem_mem hil)
      have HST := Lib.hid (stepsC_take steps i hil)
      generalize steps[i] = s at *
      obtain ⟨sy, sb, sm⟩ := s
      dsimp only at hc1 hc2 hc3 hy19 hy1 hy7
      have hjl : sy < lens.length := by rw [HL19.out]; exact hy19
      obtain ⟨b4, off4, e4, hcx⟩ := (HIn.out.pure HUt.out).natAt sy hjl
      cases e4
      have hpk := HP4.out.upd HU.out (by simp)
      have p3 := hpk.cell 3 rfl
      generalize lens.getD sy 0 = x at *
      have hT6 := Blk.new wr [.int .i64 (sy : Nat), .int .i64 (sb : Nat), .int .i64 (sm : Nat)] 55
      have hU6 := (Upd.refl [] wr).alloc (.cells #[.int .i64 (sy : Nat), .int .i64 (sb : Nat), .int .i64 (sm : Nat)] 55)
      have hR6 := HR.out.alloc (.cells #[.int .i64 (sy : Nat), .int .i64 (sb : Nat), .int .i64 (sm : Nat)] 55)
      have hq := HR.out.lt
      have hx6 := hU6.keep hcx
      have hp6 := hU6.keep p3
      have hws : wc.heap.size ≤ wr.heap.size := HU.out.size
      clear hil hjl HR hpk hcx p3
      go_upto_region 12 with fail
      change Code.wp _ _ _ _ (wr.alloc (.cells #[.int .i64 (sy : Nat), .int .i64 (sb : Nat), .int .i64 (sm : Nat)] 55))
      have HU6 := Lib.hid (HU.out.then hU6)
      generalize wr.alloc (.cells #[.int .i64 (sy : Nat), .int .i64 (sb : Nat), .int .i64 (sm : Nat)] 55) = w6 at *
      generalize wr.heap.size = q at *
      have t0 := hT6.cell 0 rfl
      have t1 := hT6.cell 1 rfl
      have t2 := hT6.cell 2 rfl
      have hRz := hR6.alloc (.cells #[.int .i64 (sy : Nat), .int .i64 (sb : Nat), .int .i64 (sm : Nat)] 56)
      have HNW : Hid (∀ j u, ([.int .i64 (sy : Nat), .int .i64 (sb : Nat), .int .i64 (sm : Nat)] : List Value)[j]? = some u → (w6.alloc (.cells #[.int .i64 (sy : Nat), .int .i64 (sb : Nat), .int .i64 (sm : Nat)] 56)).cell? ((⟨w6.heap.size, 0, none⟩ : Addr).add j) = some u) := Lib.hid (newsP3 w6 ⟨sy, sb, sm⟩ _)
      have HS1 : Hid (∀ v ∈ ([.int .i64 (sy : Nat), .int .i64 (sb : Nat), .int .i64 (sm : Nat)] : List Value), v.oneCell' = true) := Lib.hid (stp_one ⟨sy, sb, sm⟩)
      have HQ := Lib.hid hq
      clear hU6 hR6 hc1 hc2 hc3 hq
      have hx6' := Lib.hid hx6
      have hp6' := Lib.hid hp6
      have ht6' := Lib.hid hT6
      have ht6k := Lib.hid t0
      clear hx6 hp6 hT6
      go_wp2_with (at_builtin; refine wpList_app _ rfl _ _ 53 rfl 56 j0 _ 3 24 Try.underlying53 ji jz0 jz1 jz2 rfl (by omega) (.slice vb i vd) i _ rfl hRz ⟨w6.heap.size, 0, none⟩ 1 1 [.int .i64 (sy : Nat), .int .i64 (sb : Nat), .int .i64 (sm : Nat)] rfl rfl HNW.out HS1.out (by unfold maxLen; omega) (by omega) ?_)
      intro v7 w7 hR7 hU7 hT7
      obtain ⟨vb7, vd7, rfl⟩ := hR7.form
      have hUa := ((Upd.refl [] w6).alloc (.cells #[.int .i64 (sy : Nat), .int .i64 (sb : Nat), .int .i64 (sm : Nat)] 56)).mono (fp' := (Value.slice vb i vd).ownBlock.toList) (fun k hk => by simp at hk) |>.then hU7
      have t0' : w7.cell? ⟨q, 0, none⟩ = some (.int .i64 (sy : Nat)) := hUa.keepN ht6k.out (fun hk => by have := HQ.out _ (by simpa using hk); (try dsimp only at this); omega)
      have x7 : w7.cell? ⟨g4, 0 + sy, none⟩ = some (.int .i64 (x : Nat)) := hUa.keepN (p := ⟨g4, _, none⟩) hx6'.out (fun hk => by have := HO.out _ (by simpa using hk); (try dsimp only at this); omega)
      rw [Nat.zero_add] at x7
      have p7 := hUa.keepN hp6'.out (fun hk => by have := HO.out _ (by simpa using hk); (try dsimp only at this); omega)
      have HR7 : Hid (Row w7 56 3 (.slice vb7 (i + 1) vd7) (i + 1) (stepsC (steps.take (i + 1)))) := Lib.hid (by rw [HST.out]; exact hR7)
      have HO7 : Hid (∀ k, (Value.slice vb7 (i + 1) vd7).ownBlock = some k → wc.heap.size ≤ k) := Lib.hid (fun k hk => by
        rcases hT7 with h | ⟨g', h1, h2⟩
        · exact HO.out k (by rw [← h]; exact hk)
        · rw [hk] at h1; cases h1; have := (HU6.out.alloc (.cells #[.int .i64 (sy : Nat), .int .i64 (sb : Nat), .int .i64 (sm : Nat)] 56)).size; exact Nat.le_trans this h2)
      have HU7 := Lib.hid (HU6.out.trans hUa (fun k hk => .inr (HO.out k (by simpa using hk))))
      have h1 : ¬ (sy : Int) < 0 := by omega
      have h2 : ¬ (18 : Int) < (sy : Int) := by omega
      have h3 : ¬ (x : Int) < 1 := by omega
      have h3' : ¬ x = 0 := by omega
      have h4 : ¬ (7 : Int) < (x : Int) := by omega
      have h5 : (sy : Int) < 19 := by omega
      clear hR7 hU7 hT7 hUa hRz HNW HS1 t0 t1 t2 hx6' hp6' ht6' ht6k HQ HO HST hy19 hy1 hy7
      go_wp2
      go_roundg (1000 - (i + 1))
      · exact ⟨i + 1, by omega, by omega, by first | rfl | go_num, HR7, HO7, HU7⟩
      · omega
    · have hcz : ¬ (i : Int) < (sl : Int) := by omega
      obtain rfl : i = sl := by omega
      have htk : steps.take i = steps := List.take_of_length_le (by rw [HSL.out]; exact Nat.le_refl _)
      rw [htk] at HR
      clear htk
      have HBK := Lib.hid (rback9_any steps vb i vd wr (StpIn.row HR.out HSL.out) (by omega) HDEC.out.1)
      clear HR
      go_wp2_with fail
      refine HBK.out.mono ?_
      rintro e W ⟨v7, rfl, hO7, hU7⟩
      rw [HDEC.out.2] at hO7
      obtain ⟨a7, c7, rfl, hI7⟩ := hO7.ints (fun x hx => by rcases List.mem_append.1 hx with h | h; exact Nat.le_trans (HX15.out x h) (by omega); exact Nat.le_trans (HY15.out x h) (by omega))
      have HUW3 := Lib.hid (HUt.out.then hU7)
      have HUW := Lib.hid (HU3.out.then (HUt.out.then hU7))
      have hPW := HP4.out.upd (HU.out.then hU7) (by simp)
      have HLR1 := Lib.hid (HR1.out.upd HUW3.out (by simp))
      have HLR2 := Lib.hid (HR2.out.upd HUW3.out (by simp))
      have HPW := Lib.hid hPW
      have hLL : (lits ++ backs).length = m1 + m2 := by rw [List.length_append, HM1.out, HM2.out]
      rw [hLL] at hI7 ⊢
      have HLL1 : Hid ((i64s lits).length = m1 * 1) := Lib.hid (by rw [length_i64s, HM1.out, Nat.mul_one])
      have HLL2 : Hid ((i64s backs).length = m2 * 1) := Lib.hid (by rw [length_i64s, HM2.out, Nat.mul_one])
      have HI7 := Lib.hid hI7
      have HLL := Lib.hid hLL
      have HBD : Hid (∀ x ∈ lits ++ backs, x ≤ 9223372036854775807) := Lib.hid (fun x hx => by rcases List.mem_append.1 hx with h | h; exact Nat.le_trans (HX15.out x h) (by omega); exact Nat.le_trans (HY15.out x h) (by omega))
      clear hO7 hU7 hI7 hPW hLL HBK HU HUt HO hpw
      obtain ⟨N, hN⟩ : ∃ N, m1 + m2 = N := ⟨_, rfl⟩
      rw [hN] at HI7 HLL ⊢
      have k0 := HPW.out.cell 0 rfl
      have k1 := HPW.out.cell 1 rfl
      have HBPL : Hid (pb < W.heap.size) := Lib.hid HPW.out.lt
      have hbpl := HPW.out.lt
      have HNE := Lib.hid hN
      clear hN
      go_wp2
      refine wp_region_held_drew (S := fun w' => HC [] W [(⟨pb, 0, none⟩, .slice (some ⟨g1, 0, none⟩) m1 c1), (⟨pb, 1, none⟩, .slice (some ⟨g2, 0, none⟩) m2 c2)] w') (by kernel_rfl) (HC.of (fp := []) (W := W) (fs := [(⟨pb, 0, none⟩, .slice (some ⟨g1, 0, none⟩) m1 c1), (⟨pb, 1, none⟩, .slice (some ⟨g2, 0, none⟩) m2 c2)]) ⟨k0, k1, trivial⟩).drew (fun hHeld => ?_)
      change wpAnyH _ _ _ _ _ 8 #[false, false, false, false, false, false, false, false] _ _
      refine heldTake (i := 1) (d := some 114) (v := ?v1_1) rfl rfl (by kernel_rfl) (by kernel_rfl) (by kernel_rfl) (fun _ _ _ h => h) (by rfl) ?hy1_1 (by assumption) ?r1_1
      case hy1_1 => (intro w hSw; (try dsimp only at hSw); go_simp; try with_reducible rfl)
      try simp only [Act.put, List.setIfInBounds_toArray, List.set_cons_zero, List.set_cons_succ]
      change wpAnyH _ _ _ _ _ 7 #[false, true, false, false, false, false, false, false] _ _
      refine heldTake (i := 2) (d := some 115) (v := ?v2_2) rfl rfl (by kernel_rfl) (by kernel_rfl) (by kernel_rfl) (fun _ _ _ h => h) (by rfl) ?hy2_2 (by assumption) ?r2_2
      case hy2_2 => (intro w hSw; have q0 := hSw.cells.1; dsimp only at q0; clear hSw; go_simp; try with_reducible rfl)
      try simp only [Act.put, List.setIfInBounds_toArray, List.set_cons_zero, List.set_cons_succ]
      change wpAnyH _ _ _ _ _ 6 #[false, true, true, false, false, false, false, false] _ _
      refine heldTake (i := 4) (d := some 117) (v := ?v4_3) rfl rfl (by kernel_rfl) (by kernel_rfl) (by kernel_rfl) (fun _ _ _ h => h) (by rfl) ?hy4_3 (by assumption) ?r4_3
      case hy4_3 => (intro w hSw; (try dsimp only at hSw); go_simp; try with_reducible rfl)
      try simp only [Act.put, List.setIfInBounds_toArray, List.set_cons_zero, List.set_cons_succ]
      change wpAnyH _ _ _ _ _ 5 #[false, true, true, false, true, false, false, false] _ _
      refine heldTake (i := 5) (d := some 118) (v := ?v5_4) rfl rfl (by kernel_rfl) (by kernel_rfl) (by kernel_rfl) (fun _ _ _ h => h) (by rfl) ?hy5_4 (by assumption) ?r5_4
      case hy5_4 => (intro w hSw; have q0 := hSw.cells.2.1; dsimp only at q0; clear hSw; go_simp; try with_reducible rfl)
      try simp only [Act.put, List.setIfInBounds_toArray, List.set_cons_zero, List.set_cons_succ]
      change wpAnyH _ _ _ _ _ 4 #[false, true, true, false, true, true, false, false] _ _
      refine wpAnyH_ready (rs := [0]) (by kernel_rfl) (by simp) ?_
      refine AllReadyH.cons rfl (fun K hK => ?_) AllReadyH.nil
      go_simp
      skip
      go_wp2
      refine hK.out _ _ (HC.alloc hHeld _) (fun hHeld => ?_)
      clear hK K
      try simp only [Act.put, List.setIfInBounds_toArray, List.set_cons_zero, List.set_cons_succ]
      change wpAnyH _ _ _ _ _ 3 #[true, true, true, false, true, true, false, false] _ _
      refine wpAnyH_ready (rs := [3]) (by kernel_rfl) (by simp) ?_
      refine AllReadyH.cons rfl (fun K hK => ?_) AllReadyH.nil
      have HN1 : Hid (∀ j u, (i64s lits)[j]? = some u → (W.drew.alloc (.cells #[] 3)).cell? ((⟨g1, 0, none⟩ : Addr).add j) = some u) := Lib.hid (fun j u hj => by rw [add_flat, Nat.zero_add]; exact (((Upd.refl [] W).drew).alloc (.cells #[] 3)).keep (HLR1.out.cell j hj))
      refine step_app _ rfl _ _ 22 rfl 3 i0 _ 1 8 Try.underlying22 hi hz0 hz1 hz2 rfl (by omega) (.slice (some ⟨W.heap.size, 0, none⟩) 0 0) (0) ([]) rfl (Row.new W.drew [] 3 0 1 (by unfold maxLen; omega) rfl) (⟨g1, 0, none⟩) (m1) (c1) (i64s lits) rfl (HLL1.out) (HN1.out) (i64s_one _) (by unfold maxLen; omega) (by omega) ?_
      intro v4 z4 hR4 hU4 hT4
      go_wp2
      refine hK.out _ _ (hHeld.thenF hU4 (fun k hk => .inr (by simp [Value.ownBlock] at hk; omega)) (by simp [Value.ownBlock]; omega)) (fun hHeld => ?_)
      clear hK K
      change wpAnyH _ _ _ _ _ _ _ (Act.put _ (some 116) _) _
      try simp only [Act.put, List.setIfInBounds_toArray, List.set_cons_zero, List.set_cons_succ]
      have HO4 : Hid (∀ k, v4.ownBlock = some k → W.heap.size ≤ k) := Lib.hid (fun k hk => by
        rcases hT4 with h | ⟨g, h1, h2⟩
        · rw [hk] at h; simp [Value.ownBlock] at h; omega
        · rw [hk] at h1; cases h1; have h9 := (((Upd.refl [] W).drew).alloc (.cells #[] 3)).size; exact Nat.le_trans h9 h2)
      have HR4 := Lib.hid hR4
      have hU40 : Upd [] W z4 := ((((Upd.refl [] W).drew).alloc _).trans hU4 (fun k hk => .inr (by simp [Value.ownBlock] at hk; omega)))
      have HU40 := Lib.hid hU40
      clear hR4 hU4 hT4 HN1 hU40
      change wpAnyH _ _ _ _ _ 2 #[true, true, true, true, true, true, false, false] _ _
      refine wpAnyH_ready (rs := [6]) (by kernel_rfl) (by simp) ?_
      refine AllReadyH.cons rfl (fun K hK => ?_) AllReadyH.nil
      have HN2 : Hid (∀ j u, (i64s backs)[j]? = some u → z4.cell? ((⟨g2, 0, none⟩ : Addr).add j) = some u) := Lib.hid (fun j u hj => by rw [add_flat, Nat.zero_add]; exact HU40.out.keep (HLR2.out.cell j hj))
      refine step_app _ rfl _ _ 22 rfl 3 i0 _ 1 8 Try.underlying22 hi hz0 hz1 hz2 rfl (by omega) (v4) (0 + m1) ([] ++ i64s lits) rfl (HR4.out) (⟨g2, 0, none⟩) (m2) (c2) (i64s backs) rfl (HLL2.out) (HN2.out) (i64s_one _) (by unfold maxLen; omega) (by omega) ?_
      intro v5 z5 hR5 hU5 hT5
      go_wp2
      refine hK.out _ _ (hHeld.thenF hU5 (fun k hk => .inr (HO4.out k (by simpa using hk))) (fun x hx => by have hbp := HBPL.out; simp at hx; rcases hx with rfl | rfl <;> (intro hk; have := HO4.out _ (by simpa using hk); omega))) (fun hHeld => ?_)
      clear hK K
      change wpAnyH _ _ _ _ _ _ _ (Act.put _ (some 119) _) _
      try simp only [Act.put, List.setIfInBounds_toArray, List.set_cons_zero, List.set_cons_succ]
      have hR5' : Row z5 3 1 v5 (m1 + m2) (i64s (lits ++ backs)) := by
        have e : i64s (lits ++ backs) = [] ++ i64s lits ++ i64s backs := by simp [i64s]
        rw [e]
        rw [Nat.zero_add] at hR5
        exact hR5
      obtain ⟨g5, c5, rfl, _, _⟩ := hR5'.form' (by omega)
      have HR5 := Lib.hid hR5'
      have HU50 := Lib.hid (HU40.out.trans hU5 (fun k hk => .inr (HO4.out k (by simpa using hk))))
      clear hR5 hR5' hU5 hT5 HR4 HO4 HN2
      change wpAnyH _ _ _ _ _ 1 #[true, true, true, true, true, true, true, false] _ _
      refine heldTake (i := 7) (d := some 9) (v := ?v7_8) rfl rfl (by kernel_rfl) (by kernel_rfl) (by kernel_rfl) (fun _ _ _ h => h) (by rfl) ?hy7_8 (by assumption) ?r7_8
      case hy7_8 => (intro w hSw; (try dsimp only at hSw); go_simp; try with_reducible rfl)
      try simp only [Act.put, List.setIfInBounds_toArray, List.set_cons_zero, List.set_cons_succ]
      change wpAnyH _ _ _ _ _ 0 #[true, true, true, true, true, true, true, true] _ _
      refine wpAnyH_done (by kernel_rfl) ?_ 0
      clear hHeld
      have HUz5 := Lib.hid HU50.out
      have hI5 : IntsIn z5 (some ⟨g5, 0, none⟩) N (ints (lits ++ backs)) := by
        have h := IntsIn.row HR5.out HBD.out
        rw [HNE.out] at h
        exact h
      have HI5 := Lib.hid hI5
      have HI75 := Lib.hid (HI7.out.pure HU50.out)
      rw [HNE.out]
      have hne : ((N : Int) != (N : Int)) = false := by simp
      clear hI5 k0 k1 HI7 HR5
      go_wp2
      have hN400 : N ≤ 316 := by have := HNE.out; omega
      go_loopg [131] 1000 (fun gg s131 wr => ∃ k : Nat, k ≤ N ∧ gg = 1000 - k ∧ s131 = .int .i64 (k : Nat) ∧ Hid (Upd [] z5 wr))
      case atStart => exact ⟨0, by omega, by omega, rfl, Lib.hid (Upd.refl _ _)⟩
      case round =>
      obtain ⟨k, hk, rfl, rfl, HU⟩ := hrel
      by_cases hkc : k < N
      · have hkz : (k : Int) < (N : Int) := by omega
        have hw1 : IntKind.i64.wrap ((k : Int) + 1) = ((k + 1 : Nat) : Int) := by rw [IntWalk.i64_in _ (by omega)]; rfl
        obtain ⟨b, off, rfl, c1'⟩ := (HI75.out.pure HU.out).natAt k (by rw [HLL.out]; exact hkc)
        obtain ⟨b', off', e', c2'⟩ := (HI5.out.pure HU.out).natAt k (by rw [HLL.out]; exact hkc)
        cases e'
        rw [Nat.zero_add] at c2'
        generalize (lits ++ backs).getD k 0 = y at *
        have hne2 : ((y : Int) != (y : Int)) = false := by simp
        go_wp2
        go_quiet (fail)
        go_wp2
        go_roundg (1000 - (k + 1))
        · exact ⟨k + 1, by omega, by omega, by first | rfl | go_num, Lib.hid (HU.out.drewN _)⟩
        · omega
      · have hkz : ¬ (k : Int) < (N : Int) := by omega
        obtain rfl : k = N := by omega
        have HUr := Lib.hid (HUW.out.then (HUz5.out.then HU.out))
        have HMY := Lib.hid (many_any l a n cap wr (HI.out.pure HUr.out) (by omega) HOK.out)
        unfold ManyP at HMY
        obtain ⟨p, hp⟩ : ∃ p, manyF l = p := ⟨_, rfl⟩
        rw [hp] at HMY HCOST HML HMB
        obtain ⟨pa, pb2⟩ := p
        dsimp only at HMY HCOST HML HMB
        go_wp2_with fail
        refine HMY.out.mono ?_
        rintro e w8 ⟨oa, ob, rfl, hA, hB, _, _, _, hU8⟩
        have hla : pa.length = 286 := HML.out.1
        have hIa : IntsIn w8 (some ⟨oa, 0, none⟩) 286 (ints pa) := IntsIn.blk hA hla (fun x hx => by have := HMB.out x hx; have := HLN.out; omega)
        have HIa := Lib.hid hIa
        have HLA : Hid ((ints pa).length = 286) := Lib.hid (by rw [ints_length, hla])
        have HRU := Lib.hid (rused_any (ints pa) (some ⟨oa, 0, none⟩) 286 286 w8 hIa (by omega))
        have HU8 := Lib.hid hU8
        clear hA hB hIa hU8 HMY
        go_wp2_with fail
        refine HRU.out.mono ?_
        rintro e WW ⟨v9, u, rfl, hu, hO9, hU9⟩
        obtain ⟨a9, c9, rfl⟩ := hO9.form
        rw [length_i64s]
        rw [HLA.out] at hu
        have HCO0 := Lib.hid (HCOST.out u hu)
        have HUS := Lib.hid hu
        have HUWW := Lib.hid ((HUr.out.then HU8.out).then hU9)
        have HU3W := Lib.hid (HUW3.out.then ((HUz5.out.then HU.out).then (HU8.out.then hU9)))
        have hPW := HPW.out.upd ((HUz5.out.then HU.out).then (HU8.out.then hU9)) (by simp)
        have k0 := hPW.cell 0 rfl
        have HIaW := Lib.hid (HIa.out.pure hU9)
        obtain ⟨K, hK⟩ : ∃ K, u.length = K := ⟨_, rfl⟩
        have hu286 : K ≤ 286 := by have := hu.le; omega
        rw [hK] at HCO0 ⊢
        have HKK := Lib.hid hK
        clear hO9 hU9 hu hPW hK HRU HUW HUr HUz5 HU HU8
        go_wp2
        by_cases hK2 : K < 2
        · have hKz : (K : Int) < 2 := by omega
          refine wp_region_held_drew (S := fun w' => HC [] WW [(⟨pb, 0, none⟩, .slice (some ⟨g1, 0, none⟩) m1 c1)] w') (by kernel_rfl) (HC.of (fp := []) (W := WW) (fs := [(⟨pb, 0, none⟩, .slice (some ⟨g1, 0, none⟩) m1 c1)]) ⟨k0, trivial⟩).drew (fun hHeld => ?_)
          change wpAnyH _ _ _ _ _ 30 #[false, false, false, false, false, false, false, false, false, false, false, false, false, false, false, false, false, false, false, false, false, false, false, false, false, false, false, false, false, false] _ _
          refine heldTake (i := 0) (d := some 151) (v := ?v0_9) rfl rfl (by kernel_rfl) (by kernel_rfl) (by kernel_rfl) (fun _ _ _ h => h) (by rfl) ?hy0_9 (by assumption) ?r0_9
          case hy0_9 => (intro w hSw; (try dsimp only at hSw); go_simp; try with_reducible rfl)
          try simp only [Act.put, List.setIfInBounds_toArray, List.set_cons_zero, List.set_cons_succ]
          change wpAnyH _ _ _ _ _ 29 #[true, false, false, false, false, false, false, false, false, false, false, false, false, false, false, false, false, false, false, false, false, false, false, false, false, false, false, false, false, false] _ _
          refine heldTake (i := 1) (d := some 152) (v := ?v1_10) rfl rfl (by kernel_rfl) (by kernel_rfl) (by kernel_rfl) (fun _ _ _ h => h) (by rfl) ?hy1_10 (by assumption) ?r1_10
          case hy1_10 => (intro w hSw; (try dsimp only at hSw); go_simp; try with_reducible rfl)
          try simp only [Act.put, List.setIfInBounds_toArray, List.set_cons_zero, List.set_cons_succ]
          change wpAnyH _ _ _ _ _ 28 #[true, true, false, false, false, false, false, false, false, false, false, false, false, false, false, false, false, false, false, false, false, false, false, false, false, false, false, false, false, false] _ _
          refine heldTake (i := 2) (d := some 153) (v := (.bool true)) rfl rfl (by kernel_rfl) (by kernel_rfl) (by kernel_rfl) (fun _ _ _ h => h) (by rfl) ?hy2_11 (by assumption) ?r2_11
          case hy2_11 => (intro w hSw; clear hSw; go_simp; try with_reducible rfl)
          try simp only [Act.put, List.setIfInBounds_toArray, List.set_cons_zero, List.set_cons_succ]
          change wpAnyH _ _ _ _ _ 27 #[true, true, true, false, false, false, false, false, false, false, false, false, false, false, false, false, false, false, false, false, false, false, false, false, false, false, false, false, false, false] _ _
          refine heldTake (i := 3) (d := some 154) (v := ?v3_12) rfl rfl (by kernel_rfl) (by kernel_rfl) (by kernel_rfl) (fun _ _ _ h => h) (by rfl) ?hy3_12 (by assumption) ?r3_12
          case hy3_12 => (intro w hSw; (try dsimp only at hSw); go_simp; try with_reducible rfl)
          try simp only [Act.put, List.setIfInBounds_toArray, List.set_cons_zero, List.set_cons_succ]
          change wpAnyH _ _ _ _ _ 26 #[true, true, true, true, false, false, false, false, false, false, false, false, false, false, false, false, false, false, false, false, false, false, false, false, false, false, false, false, false, false] _ _
          refine heldTake (i := 4) (d := some 155) (v := ?v4_13) rfl rfl (by kernel_rfl) (by kernel_rfl) (by kernel_rfl) (fun _ _ _ h => h) (by rfl) ?hy4_13 (by assumption) ?r4_13
          case hy4_13 => (intro w hSw; (try dsimp only at hSw); go_simp; try with_reducible rfl)
          try simp only [Act.put, List.setIfInBounds_toArray, List.set_cons_zero, List.set_cons_succ]
          change wpAnyH _ _ _ _ _ 25 #[true, true, true, true, true, false, false, false, false, false, false, false, false, false, false, false, false, false, false, false, false, false, false, false, false, false, false, false, false, false] _ _
          refine heldTake (i := 5) (d := some 156) (v := ?v5_14) rfl rfl (by kernel_rfl) (by kernel_rfl) (by kernel_rfl) (fun _ _ _ h => h) (by rfl) ?hy5_14 (by assumption) ?r5_14
          case hy5_14 => (intro w hSw; (try dsimp only at hSw); go_simp; try with_reducible rfl)
          try simp only [Act.put, List.setIfInBounds_toArray, List.set_cons_zero, List.set_cons_succ]
          change wpAnyH _ _ _ _ _ 24 #[true, true, true, true, true, true, false, false, false, false, false, false, false, false, false, false, false, false, false, false, false, false, false, false, false, false, false, false, false, false] _ _
          refine heldTake (i := 6) (d := some 157) (v := (.bool true)) rfl rfl (by kernel_rfl) (by kernel_rfl) (by kernel_rfl) (fun _ _ _ h => h) (by rfl) ?hy6_15 (by assumption) ?r6_15
          case hy6_15 => (intro w hSw; clear hSw; go_simp; try with_reducible rfl)
          try simp only [Act.put, List.setIfInBounds_toArray, List.set_cons_zero, List.set_cons_succ]
          change wpAnyH _ _ _ _ _ 23 #[true, true, true, true, true, true, true, false, false, false, false, false, false, false, false, false, false, false, false, false, false, false, false, false, false, false, false, false, false, false] _ _
          refine heldTake (i := 7) (d := some 158) (v := ?v7_16) rfl rfl (by kernel_rfl) (by kernel_rfl) (by kernel_rfl) (fun _ _ _ h => h) (by rfl) ?hy7_16 (by assumption) ?r7_16
          case hy7_16 => (intro w hSw; (try dsimp only at hSw); go_simp; try with_reducible rfl)
          try simp only [Act.put, List.setIfInBounds_toArray, List.set_cons_zero, List.set_cons_succ]
          change wpAnyH _ _ _ _ _ 22 #[true, true, true, true, true, true, true, true, false, false, false, false, false, false, false, false, false, false, false, false, false, false, false, false, false, false, false, false, false, false] _ _
          refine heldSkip (i := 8) (d := some 159) rfl rfl (by kernel_rfl) (by kernel_rfl) (by kernel_rfl) (fun _ _ _ h => h) (by rfl) (by assumption) ?r8_17
          try simp only [Act.put, List.setIfInBounds_toArray, List.set_cons_zero, List.set_cons_succ]
          change wpAnyH _ _ _ _ _ 21 #[true, true, true, true, true, true, true, true, true, false, false, false, false, false, false, false, false, false, false, false, false, false, false, false, false, false, false, false, false, false] _ _
          refine heldSkip (i := 9) (d := some 160) rfl rfl (by kernel_rfl) (by kernel_rfl) (by kernel_rfl) (fun _ _ _ h => h) (by rfl) (by assumption) ?r9_18
          try simp only [Act.put, List.setIfInBounds_toArray, List.set_cons_zero, List.set_cons_succ]
          change wpAnyH _ _ _ _ _ 20 #[true, true, true, true, true, true, true, true, true, true, false, false, false, false, false, false, false, false, false, false, false, false, false, false, false, false, false, false, false, false] _ _
          refine heldSkip (i := 10) (d := some 161) rfl rfl (by kernel_rfl) (by kernel_rfl) (by kernel_rfl) (fun _ _ _ h => h) (by rfl) (by assumption) ?r10_19
          try simp only [Act.put, List.setIfInBounds_toArray, List.set_cons_zero, List.set_cons_succ]
          change wpAnyH _ _ _ _ _ 19 #[true, true, true, true, true, true, true, true, true, true, true, false, false, false, false, false, false, false, false, false, false, false, false, false, false, false, false, false, false, false] _ _
          refine heldTake (i := 11) (d := some 162) (v := ?v11_20) rfl rfl (by kernel_rfl) (by kernel_rfl) (by kernel_rfl) (fun _ _ _ h => h) (by rfl) ?hy11_20 (by assumption) ?r11_20
          case hy11_20 => (intro w hSw; (try dsimp only at hSw); go_simp; try with_reducible rfl)
          try simp only [Act.put, List.setIfInBounds_toArray, List.set_cons_zero, List.set_cons_succ]
          change wpAnyH _ _ _ _ _ 18 #[true, true, true, true, true, true, true, true, true, true, true, true, false, false, false, false, false, false, false, false, false, false, false, false, false, false, false, false, false, false] _ _
          refine heldTake (i := 12) (d := some 163) (v := ?v12_21) rfl rfl (by kernel_rfl) (by kernel_rfl) (by kernel_rfl) (fun _ _ _ h => h) (by rfl) ?hy12_21 (by assumption) ?r12_21
          case hy12_21 => (intro w hSw; (try dsimp only at hSw); go_simp; try with_reducible rfl)
          try simp only [Act.put, List.setIfInBounds_toArray, List.set_cons_zero, List.set_cons_succ]
          change wpAnyH _ _ _ _ _ 17 #[true, true, true, true, true, true, true, true, true, true, true, true, true, false, false, false, false, false, false, false, false, false, false, false, false, false, false, false, false, false] _ _
          refine heldSkip (i := 13) (d := some 164) rfl rfl (by kernel_rfl) (by kernel_rfl) (by kernel_rfl) (fun _ _ _ h => h) (by rfl) (by assumption) ?r13_22
          try simp only [Act.put, List.setIfInBounds_toArray, List.set_cons_zero, List.set_cons_succ]
          change wpAnyH _ _ _ _ _ 16 #[true, true, true, true, true, true, true, true, true, true, true, true, true, true, false, false, false, false, false, false, false, false, false, false, false, false, false, false, false, false] _ _
          refine heldSkip (i := 14) (d := some 165) rfl rfl (by kernel_rfl) (by kernel_rfl) (by kernel_rfl) (fun _ _ _ h => h) (by rfl) (by assumption) ?r14_23
          try simp only [Act.put, List.setIfInBounds_toArray, List.set_cons_zero, List.set_cons_succ]
          change wpAnyH _ _ _ _ _ 15 #[true, true, true, true, true, true, true, true, true, true, true, true, true, true, true, false, false, false, false, false, false, false, false, false, false, false, false, false, false, false] _ _
          refine heldSkip (i := 15) (d := some 166) rfl rfl (by kernel_rfl) (by kernel_rfl) (by kernel_rfl) (fun _ _ _ h => h) (by rfl) (by assumption) ?r15_24
          try simp only [Act.put, List.setIfInBounds_toArray, List.set_cons_zero, List.set_cons_succ]
          change wpAnyH _ _ _ _ _ 14 #[true, true, true, true, true, true, true, true, true, true, true, true, true, true, true, true, false, false, false, false, false, false, false, false, false, false, false, false, false, false] _ _
          refine heldSkip (i := 16) (d := some 167) rfl rfl (by kernel_rfl) (by kernel_rfl) (by kernel_rfl) (fun _ _ _ h => h) (by rfl) (by assumption) ?r16_25
          try simp only [Act.put, List.setIfInBounds_toArray, List.set_cons_zero, List.set_cons_succ]
          change wpAnyH _ _ _ _ _ 13 #[true, true, true, true, true, true, true, true, true, true, true, true, true, true, true, true, true, false, false, false, false, false, false, false, false, false, false, false, false, false] _ _
          refine heldSkip (i := 17) (d := some 168) rfl rfl (by kernel_rfl) (by kernel_rfl) (by kernel_rfl) (fun _ _ _ h => h) (by rfl) (by assumption) ?r17_26
          try simp only [Act.put, List.setIfInBounds_toArray, List.set_cons_zero, List.set_cons_succ]
          change wpAnyH _ _ _ _ _ 12 #[true, true, true, true, true, true, true, true, true, true, true, true, true, true, true, true, true, true, false, false, false, false, false, false, false, false, false, false, false, false] _ _
          refine heldSkip (i := 18) (d := some 169) rfl rfl (by kernel_rfl) (by kernel_rfl) (by kernel_rfl) (fun _ _ _ h => h) (by rfl) (by assumption) ?r18_27
          try simp only [Act.put, List.setIfInBounds_toArray, List.set_cons_zero, List.set_cons_succ]
          change wpAnyH _ _ _ _ _ 11 #[true, true, true, true, true, true, true, true, true, true, true, true, true, true, true, true, true, true, true, false, false, false, false, false, false, false, false, false, false, false] _ _
          refine heldSkip (i := 19) (d := some 170) rfl rfl (by kernel_rfl) (by kernel_rfl) (by kernel_rfl) (fun _ _ _ h => h) (by rfl) (by assumption) ?r19_28
          try simp only [Act.put, List.setIfInBounds_toArray, List.set_cons_zero, List.set_cons_succ]
          change wpAnyH _ _ _ _ _ 10 #[true, true, true, true, true, true, true, true, true, true, true, true, true, true, true, true, true, true, true, true, false, false, false, false, false, false, false, false, false, false] _ _
          refine heldSkip (i := 20) (d := some 171) rfl rfl (by kernel_rfl) (by kernel_rfl) (by kernel_rfl) (fun _ _ _ h => h) (by rfl) (by assumption) ?r20_29
          try simp only [Act.put, List.setIfInBounds_toArray, List.set_cons_zero, List.set_cons_succ]
          change wpAnyH _ _ _ _ _ 9 #[true, true, true, true, true, true, true, true, true, true, true, true, true, true, true, true, true, true, true, true, true, false, false, false, false, false, false, false, false, false] _ _
          refine heldSkip (i := 21) (d := some 172) rfl rfl (by kernel_rfl) (by kernel_rfl) (by kernel_rfl) (fun _ _ _ h => h) (by rfl) (by assumption) ?r21_30
          try simp only [Act.put, List.setIfInBounds_toArray, List.set_cons_zero, List.set_cons_succ]
          change wpAnyH _ _ _ _ _ 8 #[true, true, true, true, true, true, true, true, true, true, true, true, true, true, true, true, true, true, true, true, true, true, false, false, false, false, false, false, false, false] _ _
          refine heldSkip (i := 22) (d := some 173) rfl rfl (by kernel_rfl) (by kernel_rfl) (by kernel_rfl) (fun _ _ _ h => h) (by rfl) (by assumption) ?r22_31
          try simp only [Act.put, List.setIfInBounds_toArray, List.set_cons_zero, List.set_cons_succ]
          change wpAnyH _ _ _ _ _ 7 #[true, true, true, true, true, true, true, true, true, true, true, true, true, true, true, true, true, true, true, true, true, true, true, false, false, false, false, false, false, false] _ _
          refine heldSkip (i := 23) (d := some 174) rfl rfl (by kernel_rfl) (by kernel_rfl) (by kernel_rfl) (fun _ _ _ h => h) (by rfl) (by assumption) ?r23_32
          try simp only [Act.put, List.setIfInBounds_toArray, List.set_cons_zero, List.set_cons_succ]
          change wpAnyH _ _ _ _ _ 6 #[true, true, true, true, true, true, true, true, true, true, true, true, true, true, true, true, true, true, true, true, true, true, true, true, false, false, false, false, false, false] _ _
          refine heldTake (i := 24) (d := some 175) (v := ?v24_33) rfl rfl (by kernel_rfl) (by kernel_rfl) (by kernel_rfl) (fun _ _ _ h => h) (by rfl) ?hy24_33 (by assumption) ?r24_33
          case hy24_33 => (intro w hSw; (try dsimp only at hSw); go_simp; try with_reducible rfl)
          try simp only [Act.put, List.setIfInBounds_toArray, List.set_cons_zero, List.set_cons_succ]
          change wpAnyH _ _ _ _ _ 5 #[true, true, true, true, true, true, true, true, true, true, true, true, true, true, true, true, true, true, true, true, true, true, true, true, true, false, false, false, false, false] _ _
          refine heldTake (i := 25) (d := some 176) (v := ?v25_34) rfl rfl (by kernel_rfl) (by kernel_rfl) (by kernel_rfl) (fun _ _ _ h => h) (by rfl) ?hy25_34 (by assumption) ?r25_34
          case hy25_34 => (intro w hSw; (try dsimp only at hSw); go_simp; try with_reducible rfl)
          try simp only [Act.put, List.setIfInBounds_toArray, List.set_cons_zero, List.set_cons_succ]
          change wpAnyH _ _ _ _ _ 4 #[true, true, true, true, true, true, true, true, true, true, true, true, true, true, true, true, true, true, true, true, true, true, true, true, true, true, false, false, false, false] _ _
          refine heldTake (i := 26) (d := some 177) (v := ?v26_35) rfl rfl (by kernel_rfl) (by kernel_rfl) (by kernel_rfl) (fun _ _ _ h => h) (by rfl) ?hy26_35 (by assumption) ?r26_35
          case hy26_35 => (intro w hSw; (try dsimp only at hSw); go_simp; try with_reducible rfl)
          try simp only [Act.put, List.setIfInBounds_toArray, List.set_cons_zero, List.set_cons_succ]
          change wpAnyH _ _ _ _ _ 3 #[true, true, true, true, true, true, true, true, true, true, true, true, true, true, true, true, true, true, true, true, true, true, true, true, true, true, true, false, false, false] _ _
          refine wpAnyH_ready (rs := [27]) (by kernel_rfl) (by simp) ?_
          refine AllReadyH.cons rfl (fun K hK => ?_) AllReadyH.nil
          go_simp
          refine (lives10_any _).mono ?_
          rintro e zl ⟨rfl, hU⟩
          go_wp2
          refine hK.out _ _ (hHeld.then hU) (fun hHeld => ?_)
          clear hK K
          try simp only [Act.put, List.setIfInBounds_toArray, List.set_cons_zero, List.set_cons_succ]
          clear hU
          change wpAnyH _ _ _ _ _ 2 #[true, true, true, true, true, true, true, true, true, true, true, true, true, true, true, true, true, true, true, true, true, true, true, true, true, true, true, true, false, false] _ _
          refine heldTake (i := 28) (d := some 179) (v := ?v28_37) rfl rfl (by kernel_rfl) (by kernel_rfl) (by kernel_rfl) (fun _ _ _ h => h) (by rfl) ?hy28_37 (by assumption) ?r28_37
          case hy28_37 => (intro w hSw; (try dsimp only at hSw); go_simp; try with_reducible rfl)
          try simp only [Act.put, List.setIfInBounds_toArray, List.set_cons_zero, List.set_cons_succ]
          change wpAnyH _ _ _ _ _ 1 #[true, true, true, true, true, true, true, true, true, true, true, true, true, true, true, true, true, true, true, true, true, true, true, true, true, true, true, true, true, false] _ _
          refine heldTake (i := 29) (d := some 2) (v := ?v29_38) rfl rfl (by kernel_rfl) (by kernel_rfl) (by kernel_rfl) (fun _ _ _ h => h) (by rfl) ?hy29_38 (by assumption) ?r29_38
          case hy29_38 => (intro w hSw; (try dsimp only at hSw); go_simp; try with_reducible rfl)
          try simp only [Act.put, List.setIfInBounds_toArray, List.set_cons_zero, List.set_cons_succ]
          change wpAnyH _ _ _ _ _ 0 #[true, true, true, true, true, true, true, true, true, true, true, true, true, true, true, true, true, true, true, true, true, true, true, true, true, true, true, true, true, true] _ _
          refine wpAnyH_done (by kernel_rfl) ?_ 0
          have HUz := Lib.hid hHeld.upd
          clear hHeld
          go_wp2
          go_ret
          exact ⟨rfl, HUWW.out.then HUz.out⟩
        · have hKz : ¬ (K : Int) < 2 := by omega
          by_cases h8 : 8 < K
          · have h8z : (8 : Int) < (K : Int) := by omega
            refine wp_region_held_drew (S := fun w' => HC [] WW [(⟨pb, 0, none⟩, .slice (some ⟨g1, 0, none⟩) m1 c1)] w') (by kernel_rfl) (HC.of (fp := []) (W := WW) (fs := [(⟨pb, 0, none⟩, .slice (some ⟨g1, 0, none⟩) m1 c1)]) ⟨k0, trivial⟩).drew (fun hHeld => ?_)
            change wpAnyH _ _ _ _ _ 30 #[false, false, false, false, false, false, false, false, false, false, false, false, false, false, false, false, false, false, false, false, false, false, false, false, false, false, false, false, false, false] _ _
            refine heldTake (i := 0) (d := some 151) (v := ?v0_39) rfl rfl (by kernel_rfl) (by kernel_rfl) (by kernel_rfl) (fun _ _ _ h => h) (by rfl) ?hy0_39 (by assumption) ?r0_39
            case hy0_39 => (intro w hSw; (try dsimp only at hSw); go_simp; try with_reducible rfl)
            try simp only [Act.put, List.setIfInBounds_toArray, List.set_cons_zero, List.set_cons_succ]
            change wpAnyH _ _ _ _ _ 29 #[true, false, false, false, false, false, false, false, false, false, false, false, false, false, false, false, false, false, false, false, false, false, false, false, false, false, false, false, false, false] _ _
            refine heldTake (i := 1) (d := some 152) (v := ?v1_40) rfl rfl (by kernel_rfl) (by kernel_rfl) (by kernel_rfl) (fun _ _ _ h => h) (by rfl) ?hy1_40 (by assumption) ?r1_40
            case hy1_40 => (intro w hSw; (try dsimp only at hSw); go_simp; try with_reducible rfl)
            try simp only [Act.put, List.setIfInBounds_toArray, List.set_cons_zero, List.set_cons_succ]
            change wpAnyH _ _ _ _ _ 28 #[true, true, false, false, false, false, false, false, false, false, false, false, false, false, false, false, false, false, false, false, false, false, false, false, false, false, false, false, false, false] _ _
            refine heldTake (i := 2) (d := some 153) (v := (.bool true)) rfl rfl (by kernel_rfl) (by kernel_rfl) (by kernel_rfl) (fun _ _ _ h => h) (by rfl) ?hy2_41 (by assumption) ?r2_41
            case hy2_41 => (intro w hSw; clear hSw; go_simp; try with_reducible rfl)
            try simp only [Act.put, List.setIfInBounds_toArray, List.set_cons_zero, List.set_cons_succ]
            change wpAnyH _ _ _ _ _ 27 #[true, true, true, false, false, false, false, false, false, false, false, false, false, false, false, false, false, false, false, false, false, false, false, false, false, false, false, false, false, false] _ _
            refine heldTake (i := 3) (d := some 154) (v := ?v3_42) rfl rfl (by kernel_rfl) (by kernel_rfl) (by kernel_rfl) (fun _ _ _ h => h) (by rfl) ?hy3_42 (by assumption) ?r3_42
            case hy3_42 => (intro w hSw; (try dsimp only at hSw); go_simp; try with_reducible rfl)
            try simp only [Act.put, List.setIfInBounds_toArray, List.set_cons_zero, List.set_cons_succ]
            change wpAnyH _ _ _ _ _ 26 #[true, true, true, true, false, false, false, false, false, false, false, false, false, false, false, false, false, false, false, false, false, false, false, false, false, false, false, false, false, false] _ _
            refine heldTake (i := 4) (d := some 155) (v := ?v4_43) rfl rfl (by kernel_rfl) (by kernel_rfl) (by kernel_rfl) (fun _ _ _ h => h) (by rfl) ?hy4_43 (by assumption) ?r4_43
            case hy4_43 => (intro w hSw; (try dsimp only at hSw); go_simp; try with_reducible rfl)
            try simp only [Act.put, List.setIfInBounds_toArray, List.set_cons_zero, List.set_cons_succ]
            change wpAnyH _ _ _ _ _ 25 #[true, true, true, true, true, false, false, false, false, false, false, false, false, false, false, false, false, false, false, false, false, false, false, false, false, false, false, false, false, false] _ _
            refine heldTake (i := 5) (d := some 156) (v := ?v5_44) rfl rfl (by kernel_rfl) (by kernel_rfl) (by kernel_rfl) (fun _ _ _ h => h) (by rfl) ?hy5_44 (by assumption) ?r5_44
            case hy5_44 => (intro w hSw; (try dsimp only at hSw); go_simp; try with_reducible rfl)
            try simp only [Act.put, List.setIfInBounds_toArray, List.set_cons_zero, List.set_cons_succ]
            change wpAnyH _ _ _ _ _ 24 #[true, true, true, true, true, true, false, false, false, false, false, false, false, false, false, false, false, false, false, false, false, false, false, false, false, false, false, false, false, false] _ _
            refine heldTake (i := 6) (d := some 157) (v := (.bool false)) rfl rfl (by kernel_rfl) (by kernel_rfl) (by kernel_rfl) (fun _ _ _ h => h) (by rfl) ?hy6_45 (by assumption) ?r6_45
            case hy6_45 => (intro w hSw; clear hSw; go_simp; try with_reducible rfl)
            try simp only [Act.put, List.setIfInBounds_toArray, List.set_cons_zero, List.set_cons_succ]
            change wpAnyH _ _ _ _ _ 23 #[true, true, true, true, true, true, true, false, false, false, false, false, false, false, false, false, false, false, false, false, false, false, false, false, false, false, false, false, false, false] _ _
            refine heldTake (i := 7) (d := some 158) (v := ?v7_46) rfl rfl (by kernel_rfl) (by kernel_rfl) (by kernel_rfl) (fun _ _ _ h => h) (by rfl) ?hy7_46 (by assumption) ?r7_46
            case hy7_46 => (intro w hSw; (try dsimp only at hSw); go_simp; try with_reducible rfl)
            try simp only [Act.put, List.setIfInBounds_toArray, List.set_cons_zero, List.set_cons_succ]
            change wpAnyH _ _ _ _ _ 22 #[true, true, true, true, true, true, true, true, false, false, false, false, false, false, false, false, false, false, false, false, false, false, false, false, false, false, false, false, false, false] _ _
            refine heldTake (i := 8) (d := some 159) (v := ?v8_47) rfl rfl (by kernel_rfl) (by kernel_rfl) (by kernel_rfl) (fun _ _ _ h => h) (by rfl) ?hy8_47 (by assumption) ?r8_47
            case hy8_47 => (intro w hSw; (try dsimp only at hSw); go_simp; try with_reducible rfl)
            try simp only [Act.put, List.setIfInBounds_toArray, List.set_cons_zero, List.set_cons_succ]
            change wpAnyH _ _ _ _ _ 21 #[true, true, true, true, true, true, true, true, true, false, false, false, false, false, false, false, false, false, false, false, false, false, false, false, false, false, false, false, false, false] _ _
            refine heldTake (i := 9) (d := some 160) (v := ?v9_48) rfl rfl (by kernel_rfl) (by kernel_rfl) (by kernel_rfl) (fun _ _ _ h => h) (by rfl) ?hy9_48 (by assumption) ?r9_48
            case hy9_48 => (intro w hSw; (try dsimp only at hSw); go_simp; try with_reducible rfl)
            try simp only [Act.put, List.setIfInBounds_toArray, List.set_cons_zero, List.set_cons_succ]
            change wpAnyH _ _ _ _ _ 20 #[true, true, true, true, true, true, true, true, true, true, false, false, false, false, false, false, false, false, false, false, false, false, false, false, false, false, false, false, false, false] _ _
            refine heldTake (i := 10) (d := some 161) (v := (.bool true)) rfl rfl (by kernel_rfl) (by kernel_rfl) (by kernel_rfl) (fun _ _ _ h => h) (by rfl) ?hy10_49 (by assumption) ?r10_49
            case hy10_49 => (intro w hSw; clear hSw; go_simp; try with_reducible rfl)
            try simp only [Act.put, List.setIfInBounds_toArray, List.set_cons_zero, List.set_cons_succ]
            change wpAnyH _ _ _ _ _ 19 #[true, true, true, true, true, true, true, true, true, true, true, false, false, false, false, false, false, false, false, false, false, false, false, false, false, false, false, false, false, false] _ _
            refine heldTake (i := 11) (d := some 162) (v := ?v11_50) rfl rfl (by kernel_rfl) (by kernel_rfl) (by kernel_rfl) (fun _ _ _ h => h) (by rfl) ?hy11_50 (by assumption) ?r11_50
            case hy11_50 => (intro w hSw; (try dsimp only at hSw); go_simp; try with_reducible rfl)
            try simp only [Act.put, List.setIfInBounds_toArray, List.set_cons_zero, List.set_cons_succ]
            change wpAnyH _ _ _ _ _ 18 #[true, true, true, true, true, true, true, true, true, true, true, true, false, false, false, false, false, false, false, false, false, false, false, false, false, false, false, false, false, false] _ _
            refine heldTake (i := 12) (d := some 163) (v := ?v12_51) rfl rfl (by kernel_rfl) (by kernel_rfl) (by kernel_rfl) (fun _ _ _ h => h) (by rfl) ?hy12_51 (by assumption) ?r12_51
            case hy12_51 => (intro w hSw; (try dsimp only at hSw); go_simp; try with_reducible rfl)
            try simp only [Act.put, List.setIfInBounds_toArray, List.set_cons_zero, List.set_cons_succ]
            change wpAnyH _ _ _ _ _ 17 #[true, true, true, true, true, true, true, true, true, true, true, true, true, false, false, false, false, false, false, false, false, false, false, false, false, false, false, false, false, false] _ _
            refine heldSkip (i := 13) (d := some 164) rfl rfl (by kernel_rfl) (by kernel_rfl) (by kernel_rfl) (fun _ _ _ h => h) (by rfl) (by assumption) ?r13_52
            try simp only [Act.put, List.setIfInBounds_toArray, List.set_cons_zero, List.set_cons_succ]
            change wpAnyH _ _ _ _ _ 16 #[true, true, true, true, true, true, true, true, true, true, true, true, true, true, false, false, false, false, false, false, false, false, false, false, false, false, false, false, false, false] _ _
            refine heldSkip (i := 14) (d := some 165) rfl rfl (by kernel_rfl) (by kernel_rfl) (by kernel_rfl) (fun _ _ _ h => h) (by rfl) (by assumption) ?r14_53
            try simp only [Act.put, List.setIfInBounds_toArray, List.set_cons_zero, List.set_cons_succ]
            change wpAnyH _ _ _ _ _ 15 #[true, true, true, true, true, true, true, true, true, true, true, true, true, true, true, false, false, false, false, false, false, false, false, false, false, false, false, false, false, false] _ _
            refine heldSkip (i := 15) (d := some 166) rfl rfl (by kernel_rfl) (by kernel_rfl) (by kernel_rfl) (fun _ _ _ h => h) (by rfl) (by assumption) ?r15_54
            try simp only [Act.put, List.setIfInBounds_toArray, List.set_cons_zero, List.set_cons_succ]
            change wpAnyH _ _ _ _ _ 14 #[true, true, true, true, true, true, true, true, true, true, true, true, true, true, true, true, false, false, false, false, false, false, false, false, false, false, false, false, false, false] _ _
            refine heldSkip (i := 16) (d := some 167) rfl rfl (by kernel_rfl) (by kernel_rfl) (by kernel_rfl) (fun _ _ _ h => h) (by rfl) (by assumption) ?r16_55
            try simp only [Act.put, List.setIfInBounds_toArray, List.set_cons_zero, List.set_cons_succ]
            change wpAnyH _ _ _ _ _ 13 #[true, true, true, true, true, true, true, true, true, true, true, true, true, true, true, true, true, false, false, false, false, false, false, false, false, false, false, false, false, false] _ _
            refine heldSkip (i := 17) (d := some 168) rfl rfl (by kernel_rfl) (by kernel_rfl) (by kernel_rfl) (fun _ _ _ h => h) (by rfl) (by assumption) ?r17_56
            try simp only [Act.put, List.setIfInBounds_toArray, List.set_cons_zero, List.set_cons_succ]
            change wpAnyH _ _ _ _ _ 12 #[true, true, true, true, true, true, true, true, true, true, true, true, true, true, true, true, true, true, false, false, false, false, false, false, false, false, false, false, false, false] _ _
            refine heldSkip (i := 18) (d := some 169) rfl rfl (by kernel_rfl) (by kernel_rfl) (by kernel_rfl) (fun _ _ _ h => h) (by rfl) (by assumption) ?r18_57
            try simp only [Act.put, List.setIfInBounds_toArray, List.set_cons_zero, List.set_cons_succ]
            change wpAnyH _ _ _ _ _ 11 #[true, true, true, true, true, true, true, true, true, true, true, true, true, true, true, true, true, true, true, false, false, false, false, false, false, false, false, false, false, false] _ _
            refine heldSkip (i := 19) (d := some 170) rfl rfl (by kernel_rfl) (by kernel_rfl) (by kernel_rfl) (fun _ _ _ h => h) (by rfl) (by assumption) ?r19_58
            try simp only [Act.put, List.setIfInBounds_toArray, List.set_cons_zero, List.set_cons_succ]
            change wpAnyH _ _ _ _ _ 10 #[true, true, true, true, true, true, true, true, true, true, true, true, true, true, true, true, true, true, true, true, false, false, false, false, false, false, false, false, false, false] _ _
            refine heldSkip (i := 20) (d := some 171) rfl rfl (by kernel_rfl) (by kernel_rfl) (by kernel_rfl) (fun _ _ _ h => h) (by rfl) (by assumption) ?r20_59
            try simp only [Act.put, List.setIfInBounds_toArray, List.set_cons_zero, List.set_cons_succ]
            change wpAnyH _ _ _ _ _ 9 #[true, true, true, true, true, true, true, true, true, true, true, true, true, true, true, true, true, true, true, true, true, false, false, false, false, false, false, false, false, false] _ _
            refine heldSkip (i := 21) (d := some 172) rfl rfl (by kernel_rfl) (by kernel_rfl) (by kernel_rfl) (fun _ _ _ h => h) (by rfl) (by assumption) ?r21_60
            try simp only [Act.put, List.setIfInBounds_toArray, List.set_cons_zero, List.set_cons_succ]
            change wpAnyH _ _ _ _ _ 8 #[true, true, true, true, true, true, true, true, true, true, true, true, true, true, true, true, true, true, true, true, true, true, false, false, false, false, false, false, false, false] _ _
            refine heldSkip (i := 22) (d := some 173) rfl rfl (by kernel_rfl) (by kernel_rfl) (by kernel_rfl) (fun _ _ _ h => h) (by rfl) (by assumption) ?r22_61
            try simp only [Act.put, List.setIfInBounds_toArray, List.set_cons_zero, List.set_cons_succ]
            change wpAnyH _ _ _ _ _ 7 #[true, true, true, true, true, true, true, true, true, true, true, true, true, true, true, true, true, true, true, true, true, true, true, false, false, false, false, false, false, false] _ _
            refine heldSkip (i := 23) (d := some 174) rfl rfl (by kernel_rfl) (by kernel_rfl) (by kernel_rfl) (fun _ _ _ h => h) (by rfl) (by assumption) ?r23_62
            try simp only [Act.put, List.setIfInBounds_toArray, List.set_cons_zero, List.set_cons_succ]
            change wpAnyH _ _ _ _ _ 6 #[true, true, true, true, true, true, true, true, true, true, true, true, true, true, true, true, true, true, true, true, true, true, true, true, false, false, false, false, false, false] _ _
            refine heldTake (i := 24) (d := some 175) (v := ?v24_63) rfl rfl (by kernel_rfl) (by kernel_rfl) (by kernel_rfl) (fun _ _ _ h => h) (by rfl) ?hy24_63 (by assumption) ?r24_63
            case hy24_63 => (intro w hSw; (try dsimp only at hSw); go_simp; try with_reducible rfl)
            try simp only [Act.put, List.setIfInBounds_toArray, List.set_cons_zero, List.set_cons_succ]
            change wpAnyH _ _ _ _ _ 5 #[true, true, true, true, true, true, true, true, true, true, true, true, true, true, true, true, true, true, true, true, true, true, true, true, true, false, false, false, false, false] _ _
            refine heldTake (i := 25) (d := some 176) (v := ?v25_64) rfl rfl (by kernel_rfl) (by kernel_rfl) (by kernel_rfl) (fun _ _ _ h => h) (by rfl) ?hy25_64 (by assumption) ?r25_64
            case hy25_64 => (intro w hSw; (try dsimp only at hSw); go_simp; try with_reducible rfl)
            try simp only [Act.put, List.setIfInBounds_toArray, List.set_cons_zero, List.set_cons_succ]
            change wpAnyH _ _ _ _ _ 4 #[true, true, true, true, true, true, true, true, true, true, true, true, true, true, true, true, true, true, true, true, true, true, true, true, true, true, false, false, false, false] _ _
            refine heldTake (i := 26) (d := some 177) (v := ?v26_65) rfl rfl (by kernel_rfl) (by kernel_rfl) (by kernel_rfl) (fun _ _ _ h => h) (by rfl) ?hy26_65 (by assumption) ?r26_65
            case hy26_65 => (intro w hSw; (try dsimp only at hSw); go_simp; try with_reducible rfl)
            try simp only [Act.put, List.setIfInBounds_toArray, List.set_cons_zero, List.set_cons_succ]
            change wpAnyH _ _ _ _ _ 3 #[true, true, true, true, true, true, true, true, true, true, true, true, true, true, true, true, true, true, true, true, true, true, true, true, true, true, true, false, false, false] _ _
            refine wpAnyH_ready (rs := [27]) (by kernel_rfl) (by simp) ?_
            refine AllReadyH.cons rfl (fun K hK => ?_) AllReadyH.nil
            go_simp
            refine (lives10_any _).mono ?_
            rintro e zl ⟨rfl, hU⟩
            go_wp2
            refine hK.out _ _ (hHeld.then hU) (fun hHeld => ?_)
            clear hK K
            try simp only [Act.put, List.setIfInBounds_toArray, List.set_cons_zero, List.set_cons_succ]
            clear hU
            change wpAnyH _ _ _ _ _ 2 #[true, true, true, true, true, true, true, true, true, true, true, true, true, true, true, true, true, true, true, true, true, true, true, true, true, true, true, true, false, false] _ _
            refine heldTake (i := 28) (d := some 179) (v := ?v28_67) rfl rfl (by kernel_rfl) (by kernel_rfl) (by kernel_rfl) (fun _ _ _ h => h) (by rfl) ?hy28_67 (by assumption) ?r28_67
            case hy28_67 => (intro w hSw; (try dsimp only at hSw); go_simp; try with_reducible rfl)
            try simp only [Act.put, List.setIfInBounds_toArray, List.set_cons_zero, List.set_cons_succ]
            change wpAnyH _ _ _ _ _ 1 #[true, true, true, true, true, true, true, true, true, true, true, true, true, true, true, true, true, true, true, true, true, true, true, true, true, true, true, true, true, false] _ _
            refine heldTake (i := 29) (d := some 2) (v := ?v29_68) rfl rfl (by kernel_rfl) (by kernel_rfl) (by kernel_rfl) (fun _ _ _ h => h) (by rfl) ?hy29_68 (by assumption) ?r29_68
            case hy29_68 => (intro w hSw; (try dsimp only at hSw); go_simp; try with_reducible rfl)
            try simp only [Act.put, List.setIfInBounds_toArray, List.set_cons_zero, List.set_cons_succ]
            change wpAnyH _ _ _ _ _ 0 #[true, true, true, true, true, true, true, true, true, true, true, true, true, true, true, true, true, true, true, true, true, true, true, true, true, true, true, true, true, true] _ _
            refine wpAnyH_done (by kernel_rfl) ?_ 0
            have HUz := Lib.hid hHeld.upd
            clear hHeld
            go_wp2
            go_ret
            exact ⟨rfl, HUWW.out.then HUz.out⟩
          · have h8z : ¬ (8 : Int) < (K : Int) := by omega
            have HCO : Hid (∀ w9, Upd [] WW w9 → Calls Try.prog 16 #[.slice (some ⟨g1, 0, none⟩) m1 c1, .slice (some ⟨oa, 0, none⟩) m1 286] w9 fun e w' => e = .returned (.int .i64 (costN (ints pa) lits m1 : Nat)) ∧ Upd [] w9 w') := Lib.hid (fun w9 h => by
              have := cost_any lits ((ints pa).take m1) (some ⟨g1, 0, none⟩) (some ⟨oa, 0, none⟩) m1 c1 286 w9 (HIl.out.pure (HU3W.out.then h)) ((HIaW.out.pure h).takeN (by omega)) (by omega) (fun i _ => getD_le HX15.out i)
              rw [costN_take] at this
              exact this)
            have HBE : Hid (∀ w9, Upd [] WW w9 → Calls Try.prog 17 #[.slice (some ⟨oa, 0, none⟩) 286 286, .int .i64 7] w9 fun e w' => e = .returned (.int .i64 (costN (ints pa) (ofL (ints pa) u 7 286) 286 : Nat)) ∧ Upd [] w9 w') := Lib.hid (fun w9 h => by
              have := best_any (ints pa) u (some ⟨oa, 0, none⟩) 286 286 7 w9 (HIaW.out.pure h) (by omega) (by omega) (by omega) (by rw [HLA.out]; exact HUS.out) (by rw [HKK.out]; omega)
              rw [best_is HLA.out HUS.out 7 (by rw [HKK.out]; omega) (by rw [HKK.out]; omega), optI_some] at this
              exact this)
            have hle := HCO0.out (by omega) (by omega)
            generalize costN (ints pa) lits m1 = CL at *
            generalize costN (ints pa) (ofL (ints pa) u 7 286) 286 = CB at *
            have hlez : (CL : Int) ≤ (CB : Int) := by omega
            have hm286 : (m1 : Int) ≤ 286 := by omega
            have hm0 : (0 : Int) ≤ (m1 : Int) := by omega
            refine wp_region_held_drew (S := fun w' => HC [] WW [(⟨pb, 0, none⟩, .slice (some ⟨g1, 0, none⟩) m1 c1)] w') (by kernel_rfl) (HC.of (fp := []) (W := WW) (fs := [(⟨pb, 0, none⟩, .slice (some ⟨g1, 0, none⟩) m1 c1)]) ⟨k0, trivial⟩).drew (fun hHeld => ?_)
            change wpAnyH _ _ _ _ _ 30 #[false, false, false, false, false, false, false, false, false, false, false, false, false, false, false, false, false, false, false, false, false, false, false, false, false, false, false, false, false, false] _ _
            refine heldTake (i := 0) (d := some 151) (v := ?v0_69) rfl rfl (by kernel_rfl) (by kernel_rfl) (by kernel_rfl) (fun _ _ _ h => h) (by rfl) ?hy0_69 (by assumption) ?r0_69
            case hy0_69 => (intro w hSw; (try dsimp only at hSw); go_simp; try with_reducible rfl)
            try simp only [Act.put, List.setIfInBounds_toArray, List.set_cons_zero, List.set_cons_succ]
            change wpAnyH _ _ _ _ _ 29 #[true, false, false, false, false, false, false, false, false, false, false, false, false, false, false, false, false, false, false, false, false, false, false, false, false, false, false, false, false, false] _ _
            refine heldTake (i := 1) (d := some 152) (v := ?v1_70) rfl rfl (by kernel_rfl) (by kernel_rfl) (by kernel_rfl) (fun _ _ _ h => h) (by rfl) ?hy1_70 (by assumption) ?r1_70
            case hy1_70 => (intro w hSw; (try dsimp only at hSw); go_simp; try with_reducible rfl)
            try simp only [Act.put, List.setIfInBounds_toArray, List.set_cons_zero, List.set_cons_succ]
            change wpAnyH _ _ _ _ _ 28 #[true, true, false, false, false, false, false, false, false, false, false, false, false, false, false, false, false, false, false, false, false, false, false, false, false, false, false, false, false, false] _ _
            refine heldTake (i := 2) (d := some 153) (v := (.bool true)) rfl rfl (by kernel_rfl) (by kernel_rfl) (by kernel_rfl) (fun _ _ _ h => h) (by rfl) ?hy2_71 (by assumption) ?r2_71
            case hy2_71 => (intro w hSw; clear hSw; go_simp; try with_reducible rfl)
            try simp only [Act.put, List.setIfInBounds_toArray, List.set_cons_zero, List.set_cons_succ]
            change wpAnyH _ _ _ _ _ 27 #[true, true, true, false, false, false, false, false, false, false, false, false, false, false, false, false, false, false, false, false, false, false, false, false, false, false, false, false, false, false] _ _
            refine heldTake (i := 3) (d := some 154) (v := ?v3_72) rfl rfl (by kernel_rfl) (by kernel_rfl) (by kernel_rfl) (fun _ _ _ h => h) (by rfl) ?hy3_72 (by assumption) ?r3_72
            case hy3_72 => (intro w hSw; (try dsimp only at hSw); go_simp; try with_reducible rfl)
            try simp only [Act.put, List.setIfInBounds_toArray, List.set_cons_zero, List.set_cons_succ]
            change wpAnyH _ _ _ _ _ 26 #[true, true, true, true, false, false, false, false, false, false, false, false, false, false, false, false, false, false, false, false, false, false, false, false, false, false, false, false, false, false] _ _
            refine heldTake (i := 4) (d := some 155) (v := ?v4_73) rfl rfl (by kernel_rfl) (by kernel_rfl) (by kernel_rfl) (fun _ _ _ h => h) (by rfl) ?hy4_73 (by assumption) ?r4_73
            case hy4_73 => (intro w hSw; (try dsimp only at hSw); go_simp; try with_reducible rfl)
            try simp only [Act.put, List.setIfInBounds_toArray, List.set_cons_zero, List.set_cons_succ]
            change wpAnyH _ _ _ _ _ 25 #[true, true, true, true, true, false, false, false, false, false, false, false, false, false, false, false, false, false, false, false, false, false, false, false, false, false, false, false, false, false] _ _
            refine heldTake (i := 5) (d := some 156) (v := ?v5_74) rfl rfl (by kernel_rfl) (by kernel_rfl) (by kernel_rfl) (fun _ _ _ h => h) (by rfl) ?hy5_74 (by assumption) ?r5_74
            case hy5_74 => (intro w hSw; (try dsimp only at hSw); go_simp; try with_reducible rfl)
            try simp only [Act.put, List.setIfInBounds_toArray, List.set_cons_zero, List.set_cons_succ]
            change wpAnyH _ _ _ _ _ 24 #[true, true, true, true, true, true, false, false, false, false, false, false, false, false, false, false, false, false, false, false, false, false, false, false, false, false, false, false, false, false] _ _
            refine heldTake (i := 6) (d := some 157) (v := (.bool false)) rfl rfl (by kernel_rfl) (by kernel_rfl) (by kernel_rfl) (fun _ _ _ h => h) (by rfl) ?hy6_75 (by assumption) ?r6_75
            case hy6_75 => (intro w hSw; clear hSw; go_simp; try with_reducible rfl)
            try simp only [Act.put, List.setIfInBounds_toArray, List.set_cons_zero, List.set_cons_succ]
            change wpAnyH _ _ _ _ _ 23 #[true, true, true, true, true, true, true, false, false, false, false, false, false, false, false, false, false, false, false, false, false, false, false, false, false, false, false, false, false, false] _ _
            refine heldTake (i := 7) (d := some 158) (v := ?v7_76) rfl rfl (by kernel_rfl) (by kernel_rfl) (by kernel_rfl) (fun _ _ _ h => h) (by rfl) ?hy7_76 (by assumption) ?r7_76
            case hy7_76 => (intro w hSw; (try dsimp only at hSw); go_simp; try with_reducible rfl)
            try simp only [Act.put, List.setIfInBounds_toArray, List.set_cons_zero, List.set_cons_succ]
            change wpAnyH _ _ _ _ _ 22 #[true, true, true, true, true, true, true, true, false, false, false, false, false, false, false, false, false, false, false, false, false, false, false, false, false, false, false, false, false, false] _ _
            refine heldTake (i := 8) (d := some 159) (v := ?v8_77) rfl rfl (by kernel_rfl) (by kernel_rfl) (by kernel_rfl) (fun _ _ _ h => h) (by rfl) ?hy8_77 (by assumption) ?r8_77
            case hy8_77 => (intro w hSw; (try dsimp only at hSw); go_simp; try with_reducible rfl)
            try simp only [Act.put, List.setIfInBounds_toArray, List.set_cons_zero, List.set_cons_succ]
            change wpAnyH _ _ _ _ _ 21 #[true, true, true, true, true, true, true, true, true, false, false, false, false, false, false, false, false, false, false, false, false, false, false, false, false, false, false, false, false, false] _ _
            refine heldTake (i := 9) (d := some 160) (v := ?v9_78) rfl rfl (by kernel_rfl) (by kernel_rfl) (by kernel_rfl) (fun _ _ _ h => h) (by rfl) ?hy9_78 (by assumption) ?r9_78
            case hy9_78 => (intro w hSw; (try dsimp only at hSw); go_simp; try with_reducible rfl)
            try simp only [Act.put, List.setIfInBounds_toArray, List.set_cons_zero, List.set_cons_succ]
            change wpAnyH _ _ _ _ _ 20 #[true, true, true, true, true, true, true, true, true, true, false, false, false, false, false, false, false, false, false, false, false, false, false, false, false, false, false, false, false, false] _ _
            refine heldTake (i := 10) (d := some 161) (v := (.bool false)) rfl rfl (by kernel_rfl) (by kernel_rfl) (by kernel_rfl) (fun _ _ _ h => h) (by rfl) ?hy10_79 (by assumption) ?r10_79
            case hy10_79 => (intro w hSw; clear hSw; go_simp; try with_reducible rfl)
            try simp only [Act.put, List.setIfInBounds_toArray, List.set_cons_zero, List.set_cons_succ]
            change wpAnyH _ _ _ _ _ 19 #[true, true, true, true, true, true, true, true, true, true, true, false, false, false, false, false, false, false, false, false, false, false, false, false, false, false, false, false, false, false] _ _
            refine heldTake (i := 11) (d := some 162) (v := ?v11_80) rfl rfl (by kernel_rfl) (by kernel_rfl) (by kernel_rfl) (fun _ _ _ h => h) (by rfl) ?hy11_80 (by assumption) ?r11_80
            case hy11_80 => (intro w hSw; (try dsimp only at hSw); go_simp; try with_reducible rfl)
            try simp only [Act.put, List.setIfInBounds_toArray, List.set_cons_zero, List.set_cons_succ]
            change wpAnyH _ _ _ _ _ 18 #[true, true, true, true, true, true, true, true, true, true, true, true, false, false, false, false, false, false, false, false, false, false, false, false, false, false, false, false, false, false] _ _
            refine heldTake (i := 12) (d := some 163) (v := ?v12_81) rfl rfl (by kernel_rfl) (by kernel_rfl) (by kernel_rfl) (fun _ _ _ h => h) (by rfl) ?hy12_81 (by assumption) ?r12_81
            case hy12_81 => (intro w hSw; (try dsimp only at hSw); go_simp; try with_reducible rfl)
            try simp only [Act.put, List.setIfInBounds_toArray, List.set_cons_zero, List.set_cons_succ]
            change wpAnyH _ _ _ _ _ 17 #[true, true, true, true, true, true, true, true, true, true, true, true, true, false, false, false, false, false, false, false, false, false, false, false, false, false, false, false, false, false] _ _
            refine heldTake (i := 13) (d := some 164) (v := ?v13_82) rfl rfl (by kernel_rfl) (by kernel_rfl) (by kernel_rfl) (fun _ _ _ h => h) (by rfl) ?hy13_82 (by assumption) ?r13_82
            case hy13_82 => (intro w hSw; (try dsimp only at hSw); go_simp; try with_reducible rfl)
            try simp only [Act.put, List.setIfInBounds_toArray, List.set_cons_zero, List.set_cons_succ]
            change wpAnyH _ _ _ _ _ 16 #[true, true, true, true, true, true, true, true, true, true, true, true, true, true, false, false, false, false, false, false, false, false, false, false, false, false, false, false, false, false] _ _
            refine heldTake (i := 14) (d := some 165) (v := ?v14_83) rfl rfl (by kernel_rfl) (by kernel_rfl) (by kernel_rfl) (fun _ _ _ h => h) (by rfl) ?hy14_83 (by assumption) ?r14_83
            case hy14_83 => (intro w hSw; have q0 := hSw.cells.1; dsimp only at q0; clear hSw; go_simp; try with_reducible rfl)
            try simp only [Act.put, List.setIfInBounds_toArray, List.set_cons_zero, List.set_cons_succ]
            change wpAnyH _ _ _ _ _ 15 #[true, true, true, true, true, true, true, true, true, true, true, true, true, true, true, false, false, false, false, false, false, false, false, false, false, false, false, false, false, false] _ _
            refine heldTake (i := 15) (d := some 166) (v := ?v15_84) rfl rfl (by kernel_rfl) (by kernel_rfl) (by kernel_rfl) (fun _ _ _ h => h) (by rfl) ?hy15_84 (by assumption) ?r15_84
            case hy15_84 => (intro w hSw; (try dsimp only at hSw); go_simp; try with_reducible rfl)
            try simp only [Act.put, List.setIfInBounds_toArray, List.set_cons_zero, List.set_cons_succ]
            change wpAnyH _ _ _ _ _ 14 #[true, true, true, true, true, true, true, true, true, true, true, true, true, true, true, true, false, false, false, false, false, false, false, false, false, false, false, false, false, false] _ _
            refine heldTake (i := 16) (d := some 167) (v := ?v16_85) rfl rfl (by kernel_rfl) (by kernel_rfl) (by kernel_rfl) (fun _ _ _ h => h) (by rfl) ?hy16_85 (by assumption) ?r16_85
            case hy16_85 => (intro w hSw; (try dsimp only at hSw); go_simp; try with_reducible rfl)
            try simp only [Act.put, List.setIfInBounds_toArray, List.set_cons_zero, List.set_cons_succ]
            change wpAnyH _ _ _ _ _ 13 #[true, true, true, true, true, true, true, true, true, true, true, true, true, true, true, true, true, false, false, false, false, false, false, false, false, false, false, false, false, false] _ _
            refine heldTake (i := 17) (d := some 168) (v := ?v17_86) rfl rfl (by kernel_rfl) (by kernel_rfl) (by kernel_rfl) (fun _ _ _ h => h) (by rfl) ?hy17_86 (by assumption) ?r17_86
            case hy17_86 => (intro w hSw; have q0 := hSw.cells.1; dsimp only at q0; clear hSw; go_simp; try with_reducible rfl)
            try simp only [Act.put, List.setIfInBounds_toArray, List.set_cons_zero, List.set_cons_succ]
            change wpAnyH _ _ _ _ _ 12 #[true, true, true, true, true, true, true, true, true, true, true, true, true, true, true, true, true, true, false, false, false, false, false, false, false, false, false, false, false, false] _ _
            refine heldTake (i := 18) (d := some 169) (v := ?v18_87) rfl rfl (by kernel_rfl) (by kernel_rfl) (by kernel_rfl) (fun _ _ _ h => h) (by rfl) ?hy18_87 (by assumption) ?r18_87
            case hy18_87 => (intro w hSw; (try dsimp only at hSw); go_simp; try with_reducible rfl)
            try simp only [Act.put, List.setIfInBounds_toArray, List.set_cons_zero, List.set_cons_succ]
            change wpAnyH _ _ _ _ _ 11 #[true, true, true, true, true, true, true, true, true, true, true, true, true, true, true, true, true, true, true, false, false, false, false, false, false, false, false, false, false, false] _ _
            refine heldTake (i := 19) (d := some 170) (v := ?v19_88) rfl rfl (by kernel_rfl) (by kernel_rfl) (by kernel_rfl) (fun _ _ _ h => h) (by rfl) ?hy19_88 (by assumption) ?r19_88
            case hy19_88 => (intro w hSw; (try dsimp only at hSw); go_simp; try with_reducible rfl)
            try simp only [Act.put, List.setIfInBounds_toArray, List.set_cons_zero, List.set_cons_succ]
            change wpAnyH _ _ _ _ _ 10 #[true, true, true, true, true, true, true, true, true, true, true, true, true, true, true, true, true, true, true, true, false, false, false, false, false, false, false, false, false, false] _ _
            refine heldTake (i := 21) (d := some 172) (v := ?v21_89) rfl rfl (by kernel_rfl) (by kernel_rfl) (by kernel_rfl) (fun _ _ _ h => h) (by rfl) ?hy21_89 (by assumption) ?r21_89
            case hy21_89 => (intro w hSw; (try dsimp only at hSw); go_simp; try with_reducible rfl)
            try simp only [Act.put, List.setIfInBounds_toArray, List.set_cons_zero, List.set_cons_succ]
            change wpAnyH _ _ _ _ _ 9 #[true, true, true, true, true, true, true, true, true, true, true, true, true, true, true, true, true, true, true, true, false, true, false, false, false, false, false, false, false, false] _ _
            refine wpAnyH_ready (rs := [20]) (by kernel_rfl) (by simp) ?_
            refine AllReadyH.cons rfl (fun K hK => ?_) AllReadyH.nil
            go_simp
            refine (HCO.out _ hHeld.upd).mono ?_
            rintro e zc ⟨rfl, hU⟩
            go_wp2
            refine hK.out _ _ (hHeld.then hU) (fun hHeld => ?_)
            clear hK K
            try simp only [Act.put, List.setIfInBounds_toArray, List.set_cons_zero, List.set_cons_succ]
            clear hU
            change wpAnyH _ _ _ _ _ 8 #[true, true, true, true, true, true, true, true, true, true, true, true, true, true, true, true, true, true, true, true, true, true, false, false, false, false, false, false, false, false] _ _
            refine wpAnyH_ready (rs := [22]) (by kernel_rfl) (by simp) ?_
            refine AllReadyH.cons rfl (fun K hK => ?_) AllReadyH.nil
            go_simp
            refine (HBE.out _ hHeld.upd).mono ?_
            rintro e zb ⟨rfl, hU⟩
            go_wp2
            refine hK.out _ _ (hHeld.then hU) (fun hHeld => ?_)
            clear hK K
            try simp only [Act.put, List.setIfInBounds_toArray, List.set_cons_zero, List.set_cons_succ]
            clear hU
            change wpAnyH _ _ _ _ _ 7 #[true, true, true, true, true, true, true, true, true, true, true, true, true, true, true, true, true, true, true, true, true, true, true, false, false, false, false, false, false, false] _ _
            refine heldTake (i := 23) (d := some 174) (v := (.bool true)) rfl rfl (by kernel_rfl) (by kernel_rfl) (by kernel_rfl) (fun _ _ _ h => h) (by rfl) ?hy23_92 (by assumption) ?r23_92
            case hy23_92 => (intro w hSw; clear hSw; go_simp; try with_reducible rfl)
            try simp only [Act.put, List.setIfInBounds_toArray, List.set_cons_zero, List.set_cons_succ]
            change wpAnyH _ _ _ _ _ 6 #[true, true, true, true, true, true, true, true, true, true, true, true, true, true, true, true, true, true, true, true, true, true, true, true, false, false, false, false, false, false] _ _
            refine heldTake (i := 24) (d := some 175) (v := ?v24_93) rfl rfl (by kernel_rfl) (by kernel_rfl) (by kernel_rfl) (fun _ _ _ h => h) (by rfl) ?hy24_93 (by assumption) ?r24_93
            case hy24_93 => (intro w hSw; (try dsimp only at hSw); go_simp; try with_reducible rfl)
            try simp only [Act.put, List.setIfInBounds_toArray, List.set_cons_zero, List.set_cons_succ]
            change wpAnyH _ _ _ _ _ 5 #[true, true, true, true, true, true, true, true, true, true, true, true, true, true, true, true, true, true, true, true, true, true, true, true, true, false, false, false, false, false] _ _
            refine heldTake (i := 25) (d := some 176) (v := ?v25_94) rfl rfl (by kernel_rfl) (by kernel_rfl) (by kernel_rfl) (fun _ _ _ h => h) (by rfl) ?hy25_94 (by assumption) ?r25_94
            case hy25_94 => (intro w hSw; (try dsimp only at hSw); go_simp; try with_reducible rfl)
            try simp only [Act.put, List.setIfInBounds_toArray, List.set_cons_zero, List.set_cons_succ]
            change wpAnyH _ _ _ _ _ 4 #[true, true, true, true, true, true, true, true, true, true, true, true, true, true, true, true, true, true, true, true, true, true, true, true, true, true, false, false, false, false] _ _
            refine heldTake (i := 26) (d := some 177) (v := ?v26_95) rfl rfl (by kernel_rfl) (by kernel_rfl) (by kernel_rfl) (fun _ _ _ h => h) (by rfl) ?hy26_95 (by assumption) ?r26_95
            case hy26_95 => (intro w hSw; (try dsimp only at hSw); go_simp; try with_reducible rfl)
            try simp only [Act.put, List.setIfInBounds_toArray, List.set_cons_zero, List.set_cons_succ]
            change wpAnyH _ _ _ _ _ 3 #[true, true, true, true, true, true, true, true, true, true, true, true, true, true, true, true, true, true, true, true, true, true, true, true, true, true, true, false, false, false] _ _
            refine wpAnyH_ready (rs := [27]) (by kernel_rfl) (by simp) ?_
            refine AllReadyH.cons rfl (fun K hK => ?_) AllReadyH.nil
            go_simp
            refine (lives10_any _).mono ?_
            rintro e zl ⟨rfl, hU⟩
            go_wp2
            refine hK.out _ _ (hHeld.then hU) (fun hHeld => ?_)
            clear hK K
            try simp only [Act.put, List.setIfInBounds_toArray, List.set_cons_zero, List.set_cons_succ]
            clear hU
            change wpAnyH _ _ _ _ _ 2 #[true, true, true, true, true, true, true, true, true, true, true, true, true, true, true, true, true, true, true, true, true, true, true, true, true, true, true, true, false, false] _ _
            refine heldTake (i := 28) (d := some 179) (v := ?v28_97) rfl rfl (by kernel_rfl) (by kernel_rfl) (by kernel_rfl) (fun _ _ _ h => h) (by rfl) ?hy28_97 (by assumption) ?r28_97
            case hy28_97 => (intro w hSw; (try dsimp only at hSw); go_simp; try with_reducible rfl)
            try simp only [Act.put, List.setIfInBounds_toArray, List.set_cons_zero, List.set_cons_succ]
            change wpAnyH _ _ _ _ _ 1 #[true, true, true, true, true, true, true, true, true, true, true, true, true, true, true, true, true, true, true, true, true, true, true, true, true, true, true, true, true, false] _ _
            refine heldTake (i := 29) (d := some 2) (v := ?v29_98) rfl rfl (by kernel_rfl) (by kernel_rfl) (by kernel_rfl) (fun _ _ _ h => h) (by rfl) ?hy29_98 (by assumption) ?r29_98
            case hy29_98 => (intro w hSw; (try dsimp only at hSw); go_simp; try with_reducible rfl)
            try simp only [Act.put, List.setIfInBounds_toArray, List.set_cons_zero, List.set_cons_succ]
            change wpAnyH _ _ _ _ _ 0 #[true, true, true, true, true, true, true, true, true, true, true, true, true, true, true, true, true, true, true, true, true, true, true, true, true, true, true, true, true, true] _ _
            refine wpAnyH_done (by kernel_rfl) ?_ 0
            have HUz := Lib.hid hHeld.upd
            clear hHeld
            go_wp2
            go_ret
            exact ⟨rfl, HUWW.out.then HUz.out⟩
end Go.Proofs.Ytdehkaknbmbieaa

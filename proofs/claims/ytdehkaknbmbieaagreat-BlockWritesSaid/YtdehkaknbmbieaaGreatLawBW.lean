/- Law 10: BlockWrites: its walk. -/
import Derived.Test.YtdehkaknbmbieaaGreatBWP
import Derived.Test.YtdehkaknbmbieaaGreatQBO
import Derived.Test.YtdehkaknbmbieaaGreatLawOf
import Derived.Test.YtdehkaknbmbieaaGreatLawBitW
namespace Go.Proofs.YtdehkaknbmbieaaGreat
set_option linter.unusedVariables false
set_option linter.unusedSimpArgs false
set_option linter.unusedSectionVars false
open Go.RowKit
attribute [local go_sem] Oper.semAt_some
set_option linter.unusedVariables false
set_option linter.unusedSimpArgs false

theorem WS.zero (w : World) : WS (w.alloc (.cells #[.slice none 0 0, .int .u64 0, .int .i64 0] 31)) w.heap.size (.slice none 0 0) (w.alloc (.cells #[.slice none 0 0, .int .u64 0, .int .i64 0] 31)) (.slice none 0 0) [] := WS.refl (wr_new w)
theorem tokIn_none (w : World) : TokIn w none 0 [] := ⟨rfl, fun i h => absurd h (by simp)⟩
theorem isBlock_le {L M : List Bool} {l : List Tok} {k : Nat} {last : Bool} (hB : IsBlock L l k last M) (hok : ∀ t ∈ l, okTok t) (hn : l.length ≤ 1000) : M.length ≤ L.length + 200000 := by
  have hml : (manyF l).1.length = 286 ∧ (manyF l).2.length = 30 := by have := many_ok l l.length (Nat.le_refl _); rw [List.take_length] at this; exact ⟨this.la, this.lb⟩
  rcases hB with ⟨h, e⟩ | ⟨h, e⟩ | ⟨h, lits, backs, steps, lens, t, hM, hT, e⟩
  · have hbl : (litBytes l).length = l.length := List.length_map _
    rw [e]
    unfold storeL
    rw [List.length_append, List.length_append, List.length_append, length_alignL, head_len, length_low, length_low, length_textBits, hbl]
    omega
  · have h1 := toksB_le fix15.1 fix15.2.1 l hok
    have h2 := symB_le (fixP 4) fix15.1 256
    rw [e, List.length_append, head_len, symsB_toks, List.length_append]
    omega
  · obtain ⟨_, _, _, _, x15, y15, hsy, hl7, hl19, hsl⟩ := hM.bd hml
    have h1 := toksB_le x15 y15 l hok
    have h2 := symB_le lits x15 256
    have h3 := tabB_le lits.length backs.length t lens steps hT.hi (fun x hx => by have := hl7 x hx; omega) (fun s hs => (hsy s hs).2)
    rw [e, List.length_append, List.length_append, head_len, symsB_toks, List.length_append]
    omega
theorem packS_size (M : List Bool) : (packS M).size = (M.length + 7) / 8 := size_pack M
set_option maxRecDepth 100000 in
set_option maxHeartbeats 12800000 in
theorem law_blockWrites (l : List Tok) (a : Option Addr) (n cap skip : Nat) (kind : Int) (w : World) (hI : TokIn w a n l) (hn : n ≤ 9223372036854775807) (hnc : n ≤ cap) (hk1 : -9223372036854775808 ≤ kind) (hk2 : kind ≤ 9223372036854775807) (hsk : skip < 18446744073709551616) :
    Calls Tryz.prog 3 #[.slice a n cap, .int .i64 kind, .int .u64 (skip : Nat)] w fun e w' => LivesP w e w' := by
  have HLI := Lib.hid (light_any l a n cap w hI hn hnc)
  unfold LightP at HLI
  have HLN := Lib.hid hI.len
  have HI := Lib.hid hI
  clear hI
  cases hl : lightB l with
  | false =>
    rw [hl] at HLI
    clear hl
    go_enter Tryz.func3, Tryz.ntmps3
    go_wp2_with fail
    refine HLI.out.mono ?_
    rintro e w1 ⟨rfl, hU1⟩
    have HU1 := Lib.hid hU1
    clear hU1 HLI
    go_wp2_with fail
    refine (lives10_any _).mono ?_
    rintro e w2 ⟨rfl, hU2⟩
    have HU2 := Lib.hid (HU1.out.then hU2)
    clear hU2
    go_wp2
    go_ret
    exact ⟨rfl, HU2.out⟩
  | true =>
    obtain ⟨hl100, hms, r, hr⟩ := lightB_yes hl
    have hbyte : ∀ t ∈ l, t.byte < 256 := fun t ht => by
      obtain ⟨i, hi, rfl⟩ := List.getElem_of_mem ht
      obtain ⟨_, _, _, _, r, _⟩ := HI.out.cell i hi
      exact r
    have hok := expTo_ok l [] r hbyte hr
    have hn100 : n ≤ 100 := by have := HLN.out; omega
    have hrl := exp_length l [] r hok hr
    have hpl := exp_plain l hok
    have hel := expLen_le l hok
    have hre : r.length = expLen l := by simpa using hrl
    have HOK := Lib.hid hok
    have HR := Lib.hid hr
    have HRE := Lib.hid hre
    have HPL := Lib.hid hpl
    have hr26 : r.length ≤ 25800 := by omega
    have HEX := Lib.hid (fun w1 (h : Upd [] w w1) => rexpand_any l a n cap w1 (HI.out.pure h) (by omega))
    unfold ExpP at HEX
    rw [hr] at HEX
    unfold expV at HEX
    rw [hl] at HLI
    clear hbyte hr hl hms hok hrl hpl hel
    go_enter Tryz.func3, Tryz.ntmps3
    go_wp2_with fail
    refine HLI.out.mono ?_
    rintro e w1 ⟨rfl, hU1⟩
    have HU1 := Lib.hid hU1
    have HEX1 := Lib.hid (HEX.out w1 hU1)
    clear hU1 HLI HEX
    go_wp2_with fail
    refine HEX1.out.mono ?_
    rintro e w2 ⟨rfl, hU2⟩
    have HU2 := Lib.hid (HU1.out.then hU2)
    have hsz : (strOf r).size = r.length := size_strOf r
    obtain ⟨S, hS⟩ : ∃ S, strOf r = S := ⟨_, rfl⟩
    rw [hS] at hsz ⊢
    have HS := Lib.hid hS
    have HSZ := Lib.hid hsz
    clear hU2 HEX1 HU1 hS hsz hre
    have HW3 := Lib.hid (WS.zero w2)
    have hU3 : Upd [] w2 (w2.alloc (.cells #[.slice none 0 0, .int .u64 0, .int .i64 0] 31)) := (Upd.refl [] w2).alloc _
    have HU3 := Lib.hid (HU2.out.then hU3)
    have hbw : w.heap.size ≤ w2.heap.size := HU2.out.size
    go_upto_region 6 with fail
    change Code.wp _ _ _ _ (w2.alloc (.cells #[.slice none 0 0, .int .u64 0, .int .i64 0] 31))
    generalize w2.alloc (.cells #[.slice none 0 0, .int .u64 0, .int .i64 0] 31) = w3 at *
    generalize w2.heap.size = bw at *
    clear hU3
    by_cases hbad : BadK l n kind
    · have HWN := Lib.hid (bwrite_no l (.pointer (some ⟨bw, 0, none⟩)) a n cap kind true w3 (HI.out.pure HU3.out) (by omega) hbad)
      have hfar : 0 < farN l → ¬ (S.size : Int) = (n : Int) := fun h e => by
        have h1 := HPL.out.2.1 (by have := HRE.out; have := HLN.out; have := HSZ.out; omega)
        omega
      have HFAR := Lib.hid hfar
      have HBAD := Lib.hid hbad
      clear hbad hfar
      go_wp2_with fail
      refine HWN.out.mono ?_
      rintro e w4 ⟨rfl, hU4⟩
      have HW4 := Lib.hid (HW3.out.pure hU4)
      have HU4 := Lib.hid (HU3.out.then hU4)
      have HLE := Lib.hid (len_any bw w4 (.slice none 0 0) [] HW4.out.at_ (by simp))
      clear hU4 HWN
      by_cases hk0 : kind < 0
      · have hkz : ¬ 0 ≤ kind := by omega
        clear HBAD HFAR
        go_wp2_with fail
        refine HLE.out.mono ?_
        rintro e w5 ⟨rfl, q, rfl⟩
        have HU5 := Lib.hid (HU4.out.drewN q)
        clear HLE
        go_wp2_with fail
        refine (lives10_any _).mono ?_
        rintro e wl ⟨rfl, hUl⟩
        have HUl := Lib.hid (HU5.out.then hUl)
        clear hUl
        go_wp2
        go_ret
        exact ⟨rfl, HUl.out⟩
      · by_cases hk2 : 2 < kind
        · have hkz : ¬ kind ≤ 2 := by omega
          have hkz0 : 0 ≤ kind := by omega
          clear HBAD HFAR
          go_wp2_with fail
          refine HLE.out.mono ?_
          rintro e w5 ⟨rfl, q, rfl⟩
          have HU5 := Lib.hid (HU4.out.drewN q)
          clear HLE
          go_wp2_with fail
          refine (lives10_any _).mono ?_
          rintro e wl ⟨rfl, hUl⟩
          have HUl := Lib.hid (HU5.out.then hUl)
          clear hUl
          go_wp2
          go_ret
          exact ⟨rfl, HUl.out⟩
        · have hb := HBAD.out
          unfold BadK at hb
          have hk00 : kind = 0 := by omega
          subst hk00
          have hne := HFAR.out (by omega)
          have hneb : ((S.size : Int) == (n : Int)) = false := by simpa using hne
          clear HBAD HFAR hb hk0 hk2
          go_wp2_with fail
          refine HLE.out.mono ?_
          rintro e w5 ⟨rfl, q, rfl⟩
          have HU5 := Lib.hid (HU4.out.drewN q)
          clear HLE
          go_wp2_with fail
          refine (lives10_any _).mono ?_
          rintro e wl ⟨rfl, hUl⟩
          have HUl := Lib.hid (HU5.out.then hUl)
          clear hUl
          go_wp2
          go_ret
          exact ⟨rfl, HUl.out⟩
    · obtain ⟨K, rfl⟩ : ∃ K : Nat, kind = (K : Int) := ⟨kind.toNat, by unfold BadK at hbad; omega⟩
      have hK2 : K ≤ 2 := by unfold BadK at hbad; omega
      have hgood : ¬ BadK l n (K : Nat) := hbad
      have HK0 : Hid (K = 0 → farN l = 0 ∧ l.length ≤ 65535) := Lib.hid (fun h => by unfold BadK at hbad; exact ⟨by omega, by rw [HLN.out]; omega⟩)
      clear hbad
      by_cases hKz : K = 0
      · subst hKz
        have hse : (S.size : Int) = (n : Int) := by
          have h1 := HPL.out.2.2 (by first | exact (HK0.out rfl).1 | exact (HK0.out trivial).1)
          have := HRE.out
          have := HLN.out
          have := HSZ.out
          omega
        have hseb : ((S.size : Int) == (n : Int)) = true := by simpa using hse
        have HWY := Lib.hid (bwrite_any l bw (.slice none 0 0) [] a n cap 0 true w3 (fun w' h => HI.out.pure (HU3.out.trans h (fun k hk => .inr (by simp [wrFp, Value.ownBlock] at hk; omega)))) HW3.out.at_ (by simp) (by omega) HOK.out (by omega) hgood)
        have HGOOD := Lib.hid hgood
        clear hgood
        go_wp2_with fail
        refine HWY.out.mono ?_
        rintro e w4 ⟨rfl, v4, M, hB, hW⟩
        have hM := isBlock_le hB HOK.out (by rw [HLN.out]; omega)
        simp only [List.length_nil, Nat.zero_add] at hM
        have HB := Lib.hid hB
        have HW4 := Lib.hid (HW3.out.step hW.at_ hW.upd hW.later)
        have HU4 := Lib.hid (HU3.out.trans hW.upd (fun k hk => .inr (by simp [wrFp, Value.ownBlock] at hk; omega)))
        have HBY := Lib.hid (bytes_any bw w4 v4 M HW4.out.at_ (by omega))
        have HBACK : Hid (ofP (packS M) 65000 = .ok (r, M.length)) := Lib.hid (of_back 65000 [(l, 0)] M r hB (fun b hb => by
          rw [List.mem_singleton] at hb
          rw [hb]
          exact ⟨HOK.out, fun h => by first | exact HK0.out h | exact HK0.out trivial⟩) (by simpa using HR.out) (by rw [show capI 65000 = 65000 by decide]; omega))
        obtain ⟨ml, hml⟩ : ∃ ml, M.length = ml := ⟨_, rfl⟩
        have HML := Lib.hid hml
        have hps := packS_size M
        obtain ⟨PS, hPS⟩ : ∃ PS, packS M = PS := ⟨_, rfl⟩
        have hPS2 : strOf (pack M) = PS := hPS
        rw [hPS2] at HBY
        rw [hPS, hml] at HBACK
        rw [hPS] at hps
        have hpsz : PS.size ≤ 1000000 := by omega
        clear hB hW HWY hPS hPS2 hps
        go_wp2_with fail
        refine HBY.out.mono ?_
        rintro e w5 ⟨rfl, hU5⟩
        have HW5 := Lib.hid (HW4.out.pure hU5)
        have HU5 := Lib.hid (HU4.out.then hU5)
        have HRO := Lib.hid (rof_any PS 65000 w5 (by omega))
        rw [HBACK.out] at HRO
        rw [show ofVal (.ok (r, ml)) = .tuple #[.string (strOf r), .int .i64 (((ml + 7) / 8 : Nat) : Int), .int .i64 0] from rfl, HS.out] at HRO
        obtain ⟨u, hu⟩ : ∃ u, (ml + 7) / 8 = u := ⟨_, rfl⟩
        rw [hu] at HRO
        clear hU5 HBY HW4 HU4
        go_wp2_with fail
        refine HRO.out.mono ?_
        rintro e w6 ⟨rfl, hU6⟩
        have HW6 := Lib.hid (HW5.out.pure hU6)
        have HU6 := Lib.hid (HU5.out.then hU6)
        have HSI := Lib.hid (sizes_any l a n cap w6 (HI.out.pure HU6.out) (by omega) HOK.out)
        clear hU6 HRO HW5 HU5
        go_wp2_with fail
        refine HSI.out.mono ?_
        rintro e w7 ⟨lits, backs, lens, steps, t, hMd, hTo, rfl, hU7⟩
        have hbs := block_size HB.out HOK.out (by rw [HLN.out]; omega) (fun h => by first | exact (HK0.out h).1 | exact (HK0.out trivial).1) hMd hTo
        have HIX : Hid (∀ w, (Instr.index 39 (.agg #[.int .i64 ((35 + 8 * expLen l : Nat) : Int), .int .i64 (3 + bodyI (ints (fixP 4)) (ints (List.replicate 32 5)) (manyF l)), .int .i64 (((3 + (14 + 3 * t + szT lens steps) : Nat) : Int) + bodyI (ints lits) (ints backs) (manyF l))]) (.int .i64 0)).run Tryz.prog w = .ok (.int .i64 (sizeOfK l lits backs lens steps t 0)) w) := Lib.hid (fun w => by
          refine (run_indexAgg (P := Tryz.prog) 39 3 3 Tryz.underlying39 .i64 Tryz.underlying3 (by kernel_rfl) [.int .i64 ((35 + 8 * expLen l : Nat) : Int), .int .i64 (3 + bodyI (ints (fixP 4)) (ints (List.replicate 32 5)) (manyF l)), .int .i64 (((3 + (14 + 3 * t + szT lens steps) : Nat) : Int) + bodyI (ints lits) (ints backs) (manyF l))] rfl .i64 0 (by omega) w).trans ?_
          rfl)
        rw [HML.out] at hbs
        have hZ0 : 0 ≤ sizeOfK l lits backs lens steps t 0 := by show (0 : Int) ≤ ((35 + 8 * expLen l : Nat) : Int); omega
        generalize sizeOfK l lits backs lens steps t 0 = Z at *
        generalize ((35 + 8 * expLen l : Nat) : Int) = Y0 at *
        generalize 3 + bodyI (ints (fixP 4)) (ints (List.replicate 32 5)) (manyF l) = Y1 at *
        generalize ((3 + (14 + 3 * t + szT lens steps) : Nat) : Int) + bodyI (ints lits) (ints backs) (manyF l) = Y2 at *
        rw [if_pos rfl] at hbs
        obtain ⟨z, rfl⟩ : ∃ z : Nat, Z = (z : Int) := ⟨Z.toNat, by omega⟩
        have hzm : ml = z + 5 := by omega
        have hnz : ((ml : Int) != (z : Int) + 5) = false := by simp; omega
        have HW7 := Lib.hid (HW6.out.pure hU7)
        have HU7 := Lib.hid (HU6.out.then hU7)
        have hix := HIX.out
        have hSS : (S.toList != S.toList) = false := by simp
        have hu1 : ((ml : Int) + 7) / 8 = (u : Int) := by omega
        have hu2 : ((ml : Int) + 7).tdiv 8 = (u : Int) := by rw [Int.tdiv_eq_ediv_of_nonneg (by omega)]; omega
        have hu3 : ((u : Int) != (u : Int)) = false := by simp
        have HLE := Lib.hid (fun q => len_any bw (w7.drewN q) v4 M (HW7.out.pure ((Upd.refl [] w7).drewN q)).at_ (by have := HML.out; omega))
        rw [HML.out] at HLE
        have HLE0 := HLE.out 0
        clear hMd hTo hU7 HSI HW6 HU6 hbs HIX
        go_wp2_with fail
        refine HLE0.mono ?_
        rintro e w8 ⟨rfl, q1, rfl⟩
        clear hix HLE0
        go_wp2_with fail
        refine (HLE.out q1).mono ?_
        rintro e w8 ⟨rfl, q2, rfl⟩
        clear hSS hu1 hu2 hu3 hnz HLE
        have hWz : WS ((w7.drewN (q1 + q2)).alloc (.cells #[.slice none 0 0, .int .u64 0, .int .i64 0] 31)) w7.heap.size (.slice none 0 0) ((w7.drewN (q1 + q2)).alloc (.cells #[.slice none 0 0, .int .u64 0, .int .i64 0] 31)) (.slice none 0 0) [] := WS.zero (w7.drewN (q1 + q2))
        have HUz := Lib.hid ((HU7.out.drewN (q1 + q2)).alloc (.cells #[.slice none 0 0, .int .u64 0, .int .i64 0] 31))
        have hbz : w.heap.size ≤ w7.heap.size := HU7.out.size
        go_upto_region 18 with fail
        change Code.wp _ _ _ _ ((w7.drewN (q1 + q2)).alloc (.cells #[.slice none 0 0, .int .u64 0, .int .i64 0] 31))
        generalize (w7.drewN (q1 + q2)).alloc (.cells #[.slice none 0 0, .int .u64 0, .int .i64 0] 31) = w8 at *
        generalize w7.heap.size = bz at *
        have HWz := Lib.hid hWz
        clear hWz HW7 HU7
        have HTK : Hid (∀ w', Upd (wrFp bz (.slice none 0 0)) w8 w' → TokIn w' a n l) := Lib.hid (fun w' h => HI.out.pure (HUz.out.trans h (fun k hk => .inr (by simp [wrFp, Value.ownBlock] at hk; omega))))
        have HUF : Hid (∀ w', Upd (wrFp bz (.slice none 0 0)) w8 w' → Upd [] w w') := Lib.hid (fun w' h => HUz.out.trans h (fun k hk => .inr (by simp [wrFp, Value.ownBlock] at hk; omega)))
        have HY1 := Lib.hid (bwrite_any [] bz (.slice none 0 0) [] none 0 0 1 false w8 (fun w' h => tokIn_none w') HWz.out.at_ (by simp) (by omega) (by simp) (by omega) (by unfold BadK; omega))
        rcases Nat.mod_two_eq_zero_or_one skip with hp | hp
        · have hpz : (skip : Int) % 2 = 0 := by omega
          have hpt : (skip : Int).tmod 2 = 0 := by rw [Int.tmod_eq_emod_of_nonneg (by omega)]; omega
          clear hp
          go_wp2_with fail
          refine HY1.out.mono ?_
          rintro e w9 ⟨rfl, v9, M1, hB1, hW1⟩
          have hM1 := isBlock_le hB1 (by simp) (by simp)
          simp only [List.length_nil, Nat.zero_add] at hM1
          have HB1 := Lib.hid hB1
          have HW9 := Lib.hid (HWz.out.step hW1.at_ hW1.upd hW1.later)
          have HY2 := Lib.hid (bwrite_any l bz v9 M1 a n cap 0 false w9 (fun w' h => HTK.out w' (HW9.out.fp h)) HW9.out.at_ (by omega) (by omega) HOK.out (by omega) HGOOD.out)
          clear hB1 hW1 HY1
          go_wp2_with fail
          refine HY2.out.mono ?_
          rintro e w10 ⟨rfl, v10, M2, hB2, hW2⟩
          have hM2 := isBlock_le hB2 HOK.out (by rw [HLN.out]; omega)
          have HB2 := Lib.hid hB2
          have HW10 := Lib.hid (HW9.out.step hW2.at_ hW2.upd hW2.later)
          clear hB2 hW2 HY2
          have HY3 := Lib.hid (bwrite_any [] bz v10 M2 none 0 0 2 true w10 (fun w' h => tokIn_none w') HW10.out.at_ (by omega) (by omega) (by simp) (by omega) (by unfold BadK; omega))
          go_wp2_with fail
          refine HY3.out.mono ?_
          rintro e w11 ⟨rfl, v11, M3, hB3, hW3⟩
          have hM3 := isBlock_le hB3 (by simp) (by simp)
          have HB3 := Lib.hid hB3
          have HW11 := Lib.hid (HW10.out.step hW3.at_ hW3.upd hW3.later)
          clear hB3 hW3 HY3
          have HBACK2 : Hid (ofP (packS M3) 65000 = .ok (r, M3.length)) := Lib.hid (of_back 65000 [([], 1), (l, 0), ([], 2)] M3 r ⟨M1, HB1.out, M2, HB2.out, HB3.out⟩ (fun b hb => by
            simp only [List.mem_cons, List.not_mem_nil, or_false] at hb
            rcases hb with rfl | rfl | rfl
            · exact ⟨by simp, fun h => by simp at h⟩
            · exact ⟨HOK.out, fun h => by first | exact HK0.out h | exact HK0.out trivial⟩
            · exact ⟨by simp, fun h => by simp at h⟩) (by simpa using HR.out) (by rw [show capI 65000 = 65000 by decide]; omega))
          have hps2 := packS_size M3
          have HBZ := Lib.hid (bytes_any bz w11 v11 M3 HW11.out.at_ (by omega))
          obtain ⟨PT, hPT⟩ : ∃ PT, packS M3 = PT := ⟨_, rfl⟩
          have hPT2 : strOf (pack M3) = PT := hPT
          rw [hPT2] at HBZ
          rw [hPT] at HBACK2 hps2
          have hptz : PT.size ≤ 1000000 := by omega
          have HUq := Lib.hid (HUF.out _ HW11.out.upd)
          clear hPT hPT2 hps2 hpz hpt
          go_wp2_with fail
          refine HBZ.out.mono ?_
          rintro e w12 ⟨rfl, hU12⟩
          have HU12 := Lib.hid (HUq.out.then hU12)
          have HRZ := Lib.hid (rof_any PT 65000 w12 (by omega))
          rw [HBACK2.out, show ofVal (.ok (r, M3.length)) = .tuple #[.string (strOf r), .int .i64 (((M3.length + 7) / 8 : Nat) : Int), .int .i64 0] from rfl, HS.out] at HRZ
          obtain ⟨uu, huu⟩ : ∃ uu, (M3.length + 7) / 8 = uu := ⟨_, rfl⟩
          rw [huu] at HRZ
          clear hU12 HBZ huu
          go_wp2_with fail
          refine HRZ.out.mono ?_
          rintro e w13 ⟨rfl, hU13⟩
          have HU13 := Lib.hid (HU12.out.then hU13)
          have hSS : (S.toList == S.toList) = true := by simp
          clear hU13 HRZ
          go_wp2_with fail
          refine (lives10_any _).mono ?_
          rintro e wl ⟨rfl, hUl⟩
          have HUl := Lib.hid (HU13.out.then hUl)
          clear hUl
          go_wp2
          go_ret
          exact ⟨rfl, HUl.out⟩
        · have hpz : (skip : Int) % 2 = 1 := by omega
          have hpt : (skip : Int).tmod 2 = 1 := by rw [Int.tmod_eq_emod_of_nonneg (by omega)]; omega
          clear hp
          go_wp2_with fail
          refine HY1.out.mono ?_
          rintro e w9 ⟨rfl, v9, M1, hB1, hW1⟩
          have hM1 := isBlock_le hB1 (by simp) (by simp)
          simp only [List.length_nil, Nat.zero_add] at hM1
          have HB1 := Lib.hid hB1
          have HW9 := Lib.hid (HWz.out.step hW1.at_ hW1.upd hW1.later)
          have HY2 := Lib.hid (bwrite_any l bz v9 M1 a n cap 0 true w9 (fun w' h => HTK.out w' (HW9.out.fp h)) HW9.out.at_ (by omega) (by omega) HOK.out (by omega) HGOOD.out)
          clear hB1 hW1 HY1
          go_wp2_with fail
          refine HY2.out.mono ?_
          rintro e w10 ⟨rfl, v10, M2, hB2, hW2⟩
          have hM2 := isBlock_le hB2 HOK.out (by rw [HLN.out]; omega)
          have HB2 := Lib.hid hB2
          have HW10 := Lib.hid (HW9.out.step hW2.at_ hW2.upd hW2.later)
          clear hB2 hW2 HY2
          have HBACK2 : Hid (ofP (packS M2) 65000 = .ok (r, M2.length)) := Lib.hid (of_back 65000 [([], 1), (l, 0)] M2 r ⟨M1, HB1.out, HB2.out⟩ (fun b hb => by
            simp only [List.mem_cons, List.not_mem_nil, or_false] at hb
            rcases hb with rfl | rfl
            · exact ⟨by simp, fun h => by simp at h⟩
            · exact ⟨HOK.out, fun h => by first | exact HK0.out h | exact HK0.out trivial⟩) (by simpa using HR.out) (by rw [show capI 65000 = 65000 by decide]; omega))
          have hps2 := packS_size M2
          have HBZ := Lib.hid (bytes_any bz w10 v10 M2 HW10.out.at_ (by omega))
          obtain ⟨PT, hPT⟩ : ∃ PT, packS M2 = PT := ⟨_, rfl⟩
          have hPT2 : strOf (pack M2) = PT := hPT
          rw [hPT2] at HBZ
          rw [hPT] at HBACK2 hps2
          have hptz : PT.size ≤ 1000000 := by omega
          have HUq := Lib.hid (HUF.out _ HW10.out.upd)
          clear hPT hPT2 hps2 hpz hpt
          go_wp2_with fail
          refine HBZ.out.mono ?_
          rintro e w12 ⟨rfl, hU12⟩
          have HU12 := Lib.hid (HUq.out.then hU12)
          have HRZ := Lib.hid (rof_any PT 65000 w12 (by omega))
          rw [HBACK2.out, show ofVal (.ok (r, M2.length)) = .tuple #[.string (strOf r), .int .i64 (((M2.length + 7) / 8 : Nat) : Int), .int .i64 0] from rfl, HS.out] at HRZ
          obtain ⟨uu, huu⟩ : ∃ uu, (M2.length + 7) / 8 = uu := ⟨_, rfl⟩
          rw [huu] at HRZ
          clear hU12 HBZ huu
          go_wp2_with fail
          refine HRZ.out.mono ?_
          rintro e w13 ⟨rfl, hU13⟩
          have HU13 := Lib.hid (HU12.out.then hU13)
          have hSS : (S.toList == S.toList) = true := by simp
          clear hU13 HRZ
          go_wp2_with fail
          refine (lives10_any _).mono ?_
          rintro e wl ⟨rfl, hUl⟩
          have HUl := Lib.hid (HU13.out.then hUl)
          clear hUl
          go_wp2
          go_ret
          exact ⟨rfl, HUl.out⟩
      · have hKne := hKz
        have hKz1 : (0 : Int) < (K : Int) := by omega
        have hKz2 : (K : Int) ≤ 2 := by omega
        have hKz3 : ¬ (K : Int) = 0 := by omega
        have hKz4 : ((K : Int) == 0) = false := by simpa using hKz3
        have HWY := Lib.hid (bwrite_any l bw (.slice none 0 0) [] a n cap K true w3 (fun w' h => HI.out.pure (HU3.out.trans h (fun k hk => .inr (by simp [wrFp, Value.ownBlock] at hk; omega)))) HW3.out.at_ (by simp) (by omega) HOK.out (by omega) hgood)
        have HGOOD := Lib.hid hgood
        clear hgood
        go_wp2_with fail
        refine HWY.out.mono ?_
        rintro e w4 ⟨rfl, v4, M, hB, hW⟩
        have hM := isBlock_le hB HOK.out (by rw [HLN.out]; omega)
        simp only [List.length_nil, Nat.zero_add] at hM
        have HB := Lib.hid hB
        have HW4 := Lib.hid (HW3.out.step hW.at_ hW.upd hW.later)
        have HU4 := Lib.hid (HU3.out.trans hW.upd (fun k hk => .inr (by simp [wrFp, Value.ownBlock] at hk; omega)))
        have HBY := Lib.hid (bytes_any bw w4 v4 M HW4.out.at_ (by omega))
        have HBACK : Hid (ofP (packS M) 65000 = .ok (r, M.length)) := Lib.hid (of_back 65000 [(l, K)] M r hB (fun b hb => by
          rw [List.mem_singleton] at hb
          rw [hb]
          exact ⟨HOK.out, fun h => by first | exact HK0.out h | exact HK0.out trivial⟩) (by simpa using HR.out) (by rw [show capI 65000 = 65000 by decide]; omega))
        obtain ⟨ml, hml⟩ : ∃ ml, M.length = ml := ⟨_, rfl⟩
        have HML := Lib.hid hml
        have hps := packS_size M
        obtain ⟨PS, hPS⟩ : ∃ PS, packS M = PS := ⟨_, rfl⟩
        have hPS2 : strOf (pack M) = PS := hPS
        rw [hPS2] at HBY
        rw [hPS, hml] at HBACK
        rw [hPS] at hps
        have hpsz : PS.size ≤ 1000000 := by omega
        clear hB hW HWY hPS hPS2 hps
        go_wp2_with fail
        refine HBY.out.mono ?_
        rintro e w5 ⟨rfl, hU5⟩
        have HW5 := Lib.hid (HW4.out.pure hU5)
        have HU5 := Lib.hid (HU4.out.then hU5)
        have HRO := Lib.hid (rof_any PS 65000 w5 (by omega))
        rw [HBACK.out] at HRO
        rw [show ofVal (.ok (r, ml)) = .tuple #[.string (strOf r), .int .i64 (((ml + 7) / 8 : Nat) : Int), .int .i64 0] from rfl, HS.out] at HRO
        obtain ⟨u, hu⟩ : ∃ u, (ml + 7) / 8 = u := ⟨_, rfl⟩
        rw [hu] at HRO
        clear hU5 HBY HW4 HU4
        go_wp2_with fail
        refine HRO.out.mono ?_
        rintro e w6 ⟨rfl, hU6⟩
        have HW6 := Lib.hid (HW5.out.pure hU6)
        have HU6 := Lib.hid (HU5.out.then hU6)
        have HSI := Lib.hid (sizes_any l a n cap w6 (HI.out.pure HU6.out) (by omega) HOK.out)
        clear hU6 HRO HW5 HU5
        go_wp2_with fail
        refine HSI.out.mono ?_
        rintro e w7 ⟨lits, backs, lens, steps, t, hMd, hTo, rfl, hU7⟩
        have hbs := block_size HB.out HOK.out (by rw [HLN.out]; omega) (fun h => by first | exact (HK0.out h).1 | exact (HK0.out trivial).1) hMd hTo
        have HIX : Hid (∀ w, (Instr.index 39 (.agg #[.int .i64 ((35 + 8 * expLen l : Nat) : Int), .int .i64 (3 + bodyI (ints (fixP 4)) (ints (List.replicate 32 5)) (manyF l)), .int .i64 (((3 + (14 + 3 * t + szT lens steps) : Nat) : Int) + bodyI (ints lits) (ints backs) (manyF l))]) (.int .i64 (K : Nat))).run Tryz.prog w = .ok (.int .i64 (sizeOfK l lits backs lens steps t K)) w) := Lib.hid (fun w => by
          refine (run_indexAgg (P := Tryz.prog) 39 3 3 Tryz.underlying39 .i64 Tryz.underlying3 (by kernel_rfl) [.int .i64 ((35 + 8 * expLen l : Nat) : Int), .int .i64 (3 + bodyI (ints (fixP 4)) (ints (List.replicate 32 5)) (manyF l)), .int .i64 (((3 + (14 + 3 * t + szT lens steps) : Nat) : Int) + bodyI (ints lits) (ints backs) (manyF l))] rfl .i64 K (by omega) w).trans ?_
          rcases (by omega : K = 1 ∨ K = 2) with rfl | rfl <;> rfl)
        rw [HML.out] at hbs
        generalize sizeOfK l lits backs lens steps t K = Z at *
        generalize ((35 + 8 * expLen l : Nat) : Int) = Y0 at *
        generalize 3 + bodyI (ints (fixP 4)) (ints (List.replicate 32 5)) (manyF l) = Y1 at *
        generalize ((3 + (14 + 3 * t + szT lens steps) : Nat) : Int) + bodyI (ints lits) (ints backs) (manyF l) = Y2 at *
        rw [if_neg hKne] at hbs
        have hZm : Z = (ml : Int) := by omega
        subst hZm
        have hnz : ((ml : Int) != (ml : Int)) = false := by simp
        have HW7 := Lib.hid (HW6.out.pure hU7)
        have HU7 := Lib.hid (HU6.out.then hU7)
        have hix := HIX.out
        have hSS : (S.toList != S.toList) = false := by simp
        have hu1 : ((ml : Int) + 7) / 8 = (u : Int) := by omega
        have hu2 : ((ml : Int) + 7).tdiv 8 = (u : Int) := by rw [Int.tdiv_eq_ediv_of_nonneg (by omega)]; omega
        have hu3 : ((u : Int) != (u : Int)) = false := by simp
        have HLE := Lib.hid (fun q => len_any bw (w7.drewN q) v4 M (HW7.out.pure ((Upd.refl [] w7).drewN q)).at_ (by have := HML.out; omega))
        rw [HML.out] at HLE
        have HLE0 := HLE.out 0
        clear hMd hTo hU7 HSI HW6 HU6 hbs HIX
        go_wp2_with fail
        refine HLE0.mono ?_
        rintro e w8 ⟨rfl, q1, rfl⟩
        clear hix HLE0
        go_wp2_with fail
        refine (HLE.out q1).mono ?_
        rintro e w8 ⟨rfl, q2, rfl⟩
        clear hSS hu1 hu2 hu3 hnz HLE
        have hWz : WS ((w7.drewN (q1 + q2)).alloc (.cells #[.slice none 0 0, .int .u64 0, .int .i64 0] 31)) w7.heap.size (.slice none 0 0) ((w7.drewN (q1 + q2)).alloc (.cells #[.slice none 0 0, .int .u64 0, .int .i64 0] 31)) (.slice none 0 0) [] := WS.zero (w7.drewN (q1 + q2))
        have HUz := Lib.hid ((HU7.out.drewN (q1 + q2)).alloc (.cells #[.slice none 0 0, .int .u64 0, .int .i64 0] 31))
        have hbz : w.heap.size ≤ w7.heap.size := HU7.out.size
        go_upto_region 18 with fail
        change Code.wp _ _ _ _ ((w7.drewN (q1 + q2)).alloc (.cells #[.slice none 0 0, .int .u64 0, .int .i64 0] 31))
        generalize (w7.drewN (q1 + q2)).alloc (.cells #[.slice none 0 0, .int .u64 0, .int .i64 0] 31) = w8 at *
        generalize w7.heap.size = bz at *
        have HWz := Lib.hid hWz
        clear hWz HW7 HU7
        have HTK : Hid (∀ w', Upd (wrFp bz (.slice none 0 0)) w8 w' → TokIn w' a n l) := Lib.hid (fun w' h => HI.out.pure (HUz.out.trans h (fun k hk => .inr (by simp [wrFp, Value.ownBlock] at hk; omega))))
        have HUF : Hid (∀ w', Upd (wrFp bz (.slice none 0 0)) w8 w' → Upd [] w w') := Lib.hid (fun w' h => HUz.out.trans h (fun k hk => .inr (by simp [wrFp, Value.ownBlock] at hk; omega)))
        have HY1 := Lib.hid (bwrite_any [] bz (.slice none 0 0) [] none 0 0 1 false w8 (fun w' h => tokIn_none w') HWz.out.at_ (by simp) (by omega) (by simp) (by omega) (by unfold BadK; omega))
        rcases Nat.mod_two_eq_zero_or_one skip with hp | hp
        · have hpz : (skip : Int) % 2 = 0 := by omega
          have hpt : (skip : Int).tmod 2 = 0 := by rw [Int.tmod_eq_emod_of_nonneg (by omega)]; omega
          clear hp
          go_wp2_with fail
          refine HY1.out.mono ?_
          rintro e w9 ⟨rfl, v9, M1, hB1, hW1⟩
          have hM1 := isBlock_le hB1 (by simp) (by simp)
          simp only [List.length_nil, Nat.zero_add] at hM1
          have HB1 := Lib.hid hB1
          have HW9 := Lib.hid (HWz.out.step hW1.at_ hW1.upd hW1.later)
          have HY2 := Lib.hid (bwrite_any l bz v9 M1 a n cap K false w9 (fun w' h => HTK.out w' (HW9.out.fp h)) HW9.out.at_ (by omega) (by omega) HOK.out (by omega) HGOOD.out)
          clear hB1 hW1 HY1
          go_wp2_with fail
          refine HY2.out.mono ?_
          rintro e w10 ⟨rfl, v10, M2, hB2, hW2⟩
          have hM2 := isBlock_le hB2 HOK.out (by rw [HLN.out]; omega)
          have HB2 := Lib.hid hB2
          have HW10 := Lib.hid (HW9.out.step hW2.at_ hW2.upd hW2.later)
          clear hB2 hW2 HY2
          have HY3 := Lib.hid (bwrite_any [] bz v10 M2 none 0 0 2 true w10 (fun w' h => tokIn_none w') HW10.out.at_ (by omega) (by omega) (by simp) (by omega) (by unfold BadK; omega))
          go_wp2_with fail
          refine HY3.out.mono ?_
          rintro e w11 ⟨rfl, v11, M3, hB3, hW3⟩
          have hM3 := isBlock_le hB3 (by simp) (by simp)
          have HB3 := Lib.hid hB3
          have HW11 := Lib.hid (HW10.out.step hW3.at_ hW3.upd hW3.later)
          clear hB3 hW3 HY3
          have HBACK2 : Hid (ofP (packS M3) 65000 = .ok (r, M3.length)) := Lib.hid (of_back 65000 [([], 1), (l, K), ([], 2)] M3 r ⟨M1, HB1.out, M2, HB2.out, HB3.out⟩ (fun b hb => by
            simp only [List.mem_cons, List.not_mem_nil, or_false] at hb
            rcases hb with rfl | rfl | rfl
            · exact ⟨by simp, fun h => by simp at h⟩
            · exact ⟨HOK.out, fun h => by first | exact HK0.out h | exact HK0.out trivial⟩
            · exact ⟨by simp, fun h => by simp at h⟩) (by simpa using HR.out) (by rw [show capI 65000 = 65000 by decide]; omega))
          have hps2 := packS_size M3
          have HBZ := Lib.hid (bytes_any bz w11 v11 M3 HW11.out.at_ (by omega))
          obtain ⟨PT, hPT⟩ : ∃ PT, packS M3 = PT := ⟨_, rfl⟩
          have hPT2 : strOf (pack M3) = PT := hPT
          rw [hPT2] at HBZ
          rw [hPT] at HBACK2 hps2
          have hptz : PT.size ≤ 1000000 := by omega
          have HUq := Lib.hid (HUF.out _ HW11.out.upd)
          clear hPT hPT2 hps2 hpz hpt
          go_wp2_with fail
          refine HBZ.out.mono ?_
          rintro e w12 ⟨rfl, hU12⟩
          have HU12 := Lib.hid (HUq.out.then hU12)
          have HRZ := Lib.hid (rof_any PT 65000 w12 (by omega))
          rw [HBACK2.out, show ofVal (.ok (r, M3.length)) = .tuple #[.string (strOf r), .int .i64 (((M3.length + 7) / 8 : Nat) : Int), .int .i64 0] from rfl, HS.out] at HRZ
          obtain ⟨uu, huu⟩ : ∃ uu, (M3.length + 7) / 8 = uu := ⟨_, rfl⟩
          rw [huu] at HRZ
          clear hU12 HBZ huu
          go_wp2_with fail
          refine HRZ.out.mono ?_
          rintro e w13 ⟨rfl, hU13⟩
          have HU13 := Lib.hid (HU12.out.then hU13)
          have hSS : (S.toList == S.toList) = true := by simp
          clear hU13 HRZ
          go_wp2_with fail
          refine (lives10_any _).mono ?_
          rintro e wl ⟨rfl, hUl⟩
          have HUl := Lib.hid (HU13.out.then hUl)
          clear hUl
          go_wp2
          go_ret
          exact ⟨rfl, HUl.out⟩
        · have hpz : (skip : Int) % 2 = 1 := by omega
          have hpt : (skip : Int).tmod 2 = 1 := by rw [Int.tmod_eq_emod_of_nonneg (by omega)]; omega
          clear hp
          go_wp2_with fail
          refine HY1.out.mono ?_
          rintro e w9 ⟨rfl, v9, M1, hB1, hW1⟩
          have hM1 := isBlock_le hB1 (by simp) (by simp)
          simp only [List.length_nil, Nat.zero_add] at hM1
          have HB1 := Lib.hid hB1
          have HW9 := Lib.hid (HWz.out.step hW1.at_ hW1.upd hW1.later)
          have HY2 := Lib.hid (bwrite_any l bz v9 M1 a n cap K true w9 (fun w' h => HTK.out w' (HW9.out.fp h)) HW9.out.at_ (by omega) (by omega) HOK.out (by omega) HGOOD.out)
          clear hB1 hW1 HY1
          go_wp2_with fail
          refine HY2.out.mono ?_
          rintro e w10 ⟨rfl, v10, M2, hB2, hW2⟩
          have hM2 := isBlock_le hB2 HOK.out (by rw [HLN.out]; omega)
          have HB2 := Lib.hid hB2
          have HW10 := Lib.hid (HW9.out.step hW2.at_ hW2.upd hW2.later)
          clear hB2 hW2 HY2
          have HBACK2 : Hid (ofP (packS M2) 65000 = .ok (r, M2.length)) := Lib.hid (of_back 65000 [([], 1), (l, K)] M2 r ⟨M1, HB1.out, HB2.out⟩ (fun b hb => by
            simp only [List.mem_cons, List.not_mem_nil, or_false] at hb
            rcases hb with rfl | rfl
            · exact ⟨by simp, fun h => by simp at h⟩
            · exact ⟨HOK.out, fun h => by first | exact HK0.out h | exact HK0.out trivial⟩) (by simpa using HR.out) (by rw [show capI 65000 = 65000 by decide]; omega))
          have hps2 := packS_size M2
          have HBZ := Lib.hid (bytes_any bz w10 v10 M2 HW10.out.at_ (by omega))
          obtain ⟨PT, hPT⟩ : ∃ PT, packS M2 = PT := ⟨_, rfl⟩
          have hPT2 : strOf (pack M2) = PT := hPT
          rw [hPT2] at HBZ
          rw [hPT] at HBACK2 hps2
          have hptz : PT.size ≤ 1000000 := by omega
          have HUq := Lib.hid (HUF.out _ HW10.out.upd)
          clear hPT hPT2 hps2 hpz hpt
          go_wp2_with fail
          refine HBZ.out.mono ?_
          rintro e w12 ⟨rfl, hU12⟩
          have HU12 := Lib.hid (HUq.out.then hU12)
          have HRZ := Lib.hid (rof_any PT 65000 w12 (by omega))
          rw [HBACK2.out, show ofVal (.ok (r, M2.length)) = .tuple #[.string (strOf r), .int .i64 (((M2.length + 7) / 8 : Nat) : Int), .int .i64 0] from rfl, HS.out] at HRZ
          obtain ⟨uu, huu⟩ : ∃ uu, (M2.length + 7) / 8 = uu := ⟨_, rfl⟩
          rw [huu] at HRZ
          clear hU12 HBZ huu
          go_wp2_with fail
          refine HRZ.out.mono ?_
          rintro e w13 ⟨rfl, hU13⟩
          have HU13 := Lib.hid (HU12.out.then hU13)
          have hSS : (S.toList == S.toList) = true := by simp
          clear hU13 HRZ
          go_wp2_with fail
          refine (lives10_any _).mono ?_
          rintro e wl ⟨rfl, hUl⟩
          have HUl := Lib.hid (HU13.out.then hUl)
          clear hUl
          go_wp2
          go_ret
          exact ⟨rfl, HUl.out⟩
end Go.Proofs.YtdehkaknbmbieaaGreat

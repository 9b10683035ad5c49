/- DeflateParts: the law's walk. -/
import Derived.Test.YtdehkaknbmbieaaQBN
import Derived.Test.YtdehkaknbmbieaaDPar
import Derived.Test.YtdehkaknbmbieaaQAQ
namespace Go.Proofs.Ytdehkaknbmbieaa
set_option linter.unusedVariables false
set_option linter.unusedSimpArgs false
set_option linter.unusedSectionVars false
open Go.RowKit
attribute [local go_sem] Oper.semAt_some
set_option linter.unusedVariables false
set_option linter.unusedSimpArgs false

/-- Where an argument's slice leads. -/
theorem okWide_at {P : Program} {w : World} {r : Reach} {base : Nat} {t e : TypeId} {a : Option Addr} {len cap : Nat} (ht : P.underlying t = some (.slice e)) (h : Value.okWide P w r base t (.slice a len cap)) : (a = none ∧ len = 0 ∧ cap = 0) ∨ ∃ g o, a = some ⟨g, o, none⟩ := by
  simp only [Value.okWide, ht, Cell.okWide] at h
  cases a with
  | none =>
    left
    unfold Cell.ok at h
    rw [ht] at h
    (try dsimp only at h)
    split at h <;> simp_all
  | some ad =>
    right
    obtain ⟨b, o, s⟩ := ad
    unfold Cell.ok at h
    rw [ht] at h
    (try dsimp only at h)
    have hs : s = none := h.2.2.2.1
    exact ⟨b, o, by rw [hs]⟩
theorem made_toks (n : Nat) : (madeCells (Value.agg #[.int .u8 0, .int .i64 0, .int .i64 0]).cells (n * 3)).toList = tcs (List.replicate n ⟨0, 0, 0⟩) := by
  apply List.ext_getElem?
  intro j
  by_cases hj : j < n * 3
  · have hi : j / 3 < (List.replicate n (⟨0, 0, 0⟩ : Tok)).length := by rw [List.length_replicate]; omega
    have e : j = j / 3 * 3 + j % 3 := by omega
    have h := tcs_at _ (j / 3) hi (j % 3) (by omega)
    rw [← e] at h
    rw [h, List.getElem_replicate]
    obtain hr | hr | hr : j % 3 = 0 ∨ j % 3 = 1 ∨ j % 3 = 2 := by omega
    all_goals simp [madeCells, hj, Tok.cs, Value.cells, hr]
  · rw [List.getElem?_eq_none (by simp [madeCells]; omega), List.getElem?_eq_none (by rw [tcs_len, List.length_replicate]; omega)]
theorem mkToks (n : Nat) (hn : n ≤ 1000000) (w : World) : (Instr.makeSlice 35 (.int .u64 (n : Int)) (.int .u64 (n : Int))).run Try.prog w = .ok (.slice (some ⟨w.heap.size, 0, none⟩) n n) (w.alloc (.cells (tcs (List.replicate n ⟨0, 0, 0⟩)).toArray 40)) := by
  obtain ⟨i0, hi, hz0, hz1, hz2⟩ := info_parts infoTok
  have h := run_make (P := Try.prog) w 35 40 i0 _ Try.underlying35 hi hz0 .u64 .u64 (n : Int) (n : Int) (by omega) (by omega) (by rw [hz2]; omega) (by omega)
  rw [h, hz1]
  have e : madeCells (Value.agg #[.int .u8 0, .int .i64 0, .int .i64 0]).cells ((n : Int).toNat * 3) = (tcs (List.replicate n ⟨0, 0, 0⟩)).toArray := by
    apply Array.toList_inj.1
    rw [Int.toNat_natCast, made_toks]
  rw [e]
  rfl
theorem tok_new (w : World) (n : Nat) : TokIn (w.alloc (.cells (tcs (List.replicate n ⟨0, 0, 0⟩)).toArray 40)) (some ⟨w.heap.size, 0, none⟩) n (List.replicate n ⟨0, 0, 0⟩) := by
  have hB := Blk.new w (tcs (List.replicate n ⟨0, 0, 0⟩)) 40
  refine ⟨List.length_replicate, fun i hi => ?_⟩
  have h := fun r hr => tcs_at _ i hi r hr
  rw [List.getElem_replicate] at h ⊢
  refine ⟨_, 0, rfl, ⟨?_, ?_, ?_⟩, by decide, by decide, by decide⟩
  · rw [Nat.zero_add]; exact hB.cell (i * 3 + 0) (h 0 (by omega))
  · rw [Nat.zero_add]; exact hB.cell (i * 3 + 1) (h 1 (by omega))
  · rw [Nat.zero_add]; exact hB.cell (i * 3 + 2) (h 2 (by omega))
set_option maxRecDepth 100000 in
set_option maxHeartbeats 6400000 in
theorem law_deflateParts (l : List Tok) (a : Option Addr) (n cap : Nat) (w : World) (hI : TokIn w a n l) (hn : n ≤ 9223372036854775807) (hnc : n ≤ cap) (hcm : cap ≤ 9223372036854775807) (ha : (a = none ∧ n = 0 ∧ cap = 0) ∨ ∃ g o, a = some ⟨g, o, none⟩) (N : Nat) (hN : N ≤ 18446744073709551615) :
    Calls Try.prog 8 #[.slice a n cap, .int .u64 (N : Nat)] w fun e w' => LivesP w e w' := by
  have HI := Lib.hid hI
  have HA := Lib.hid ha
  clear ha
  have HLN := Lib.hid hI.len
  clear hI
  obtain ⟨q, hq⟩ : ∃ q : Nat, min (n : Int) 101 = (q : Int) := ⟨min n 101, by omega⟩
  have hqn : q ≤ n := by omega
  have hq101 : q ≤ 101 := by omega
  have hqz : (0 : Int) ≤ (q : Int) := by omega
  have hqc : (q : Int) ≤ (cap : Int) := by omega
  have HQ := Lib.hid hq
  go_enter Try.func8, Try.ntmps8
  go_wp2
  go_loopg [5, 25] 200 (fun gg s5 s25 wr => ∃ i : Nat, i ≤ q ∧ gg = 200 - i ∧ s25 = .int .i64 (i : Nat) ∧ s5 = .int .i64 (midS (l.take i) : Nat) ∧ Hid (Upd [] w wr))
  case atStart => exact ⟨0, by omega, by omega, rfl, rfl, Lib.hid (Upd.refl _ _)⟩
  case round =>
    obtain ⟨i, hin, rfl, rfl, rfl, HU⟩ := hrel
    have hms : midS (l.take i) ≤ 300 * i := by have := midS_le (l.take i); rw [List.length_take, HLN.out, Nat.min_eq_left (by omega)] at this; exact this
    by_cases hc : i < q
    · have hcz : (i : Int) < (q : Int) := by omega
      have hil : i < l.length := by rw [HLN.out]; omega
      have hw1 : IntKind.i64.wrap ((i : Int) + 1) = ((i + 1 : Nat) : Int) := by rw [IntWalk.i64_in _ (by omega)]; rfl
      obtain ⟨b, off, rfl, ⟨hc1, hc2, hc3⟩, r1, r2, r3⟩ := (HI.out.pure HU.out).cell i hil
      have HSM : Hid (midS (l.take (i + 1)) = midS (l.take i) + mid l[i].long) := Lib.hid (by rw [List.take_succ_eq_append_getElem hil, midS_snoc])
      generalize l[i] = t at *
      obtain ⟨tb, tl, tk⟩ := t
      dsimp only at hc1 hc2 hc3 r1 r2 r3 HSM
      have hml := mid_le tl
      have hmx : max 0 (min tl 300) = (mid tl : Int) := by unfold mid; omega
      have HU4 := Lib.hid (HU.out.alloc (.cells #[.int .u8 (tb : Nat), .int .i64 tl, .int .i64 tk] 40))
      generalize mid tl = mt at *
      generalize midS (l.take i) = ms at *
      have hws : IntKind.i64.wrap ((ms : Int) + (mt : Int)) = ((ms + mt : Nat) : Int) := by rw [IntWalk.i64_in _ (by omega)]; rfl
      clear hil
      go_wp2
      go_roundg (200 - (i + 1))
      · exact ⟨i + 1, by omega, by first | rfl | omega, by first | rfl | go_num, by rw [HSM.out]; first | rfl | go_num, HU4⟩
      · omega
    · have hcz : ¬ (i : Int) < (q : Int) := by omega
      obtain rfl : i = q := by omega
      by_cases h100 : 100 < n
      · have h100z : (100 : Int) < (n : Int) := by omega
        have HB : Hid (lightB l = false) := Lib.hid (by unfold lightB; rw [decide_eq_false (by rw [HLN.out]; omega)]; rfl)
        go_wp2_with fail
        refine (lives11_any _).mono ?_
        rintro e w9 ⟨rfl, hU9⟩
        have HU9 := Lib.hid (HU.out.then hU9)
        clear hU9
        go_wp2
        go_ret
        exact ⟨rfl, HU9.out⟩
      · have h100z : ¬ (100 : Int) < (n : Int) := by omega
        have hin2 : i = n := by omega
        have htk : l.take i = l := List.take_of_length_le (by rw [HLN.out]; omega)
        rw [htk] at hms ⊢
        by_cases hm : 3000 < midS l
        · have hmz : (3000 : Int) < (midS l : Int) := by omega
          have HB : Hid (lightB l = false) := Lib.hid (by unfold lightB; rw [decide_eq_false (by omega : ¬ midS l ≤ 3000), Bool.and_false]; rfl)
          go_wp2_with fail
          refine (lives11_any _).mono ?_
          rintro e w9 ⟨rfl, hU9⟩
          have HU9 := Lib.hid (HU.out.then hU9)
          clear hU9
          go_wp2
          go_ret
          exact ⟨rfl, HU9.out⟩
        · have hmz : ¬ (3000 : Int) < (midS l : Int) := by omega
          have HB : Hid (lightB l = (expTo l []).isSome) := Lib.hid (by unfold lightB; rw [decide_eq_true (by rw [HLN.out]; omega), decide_eq_true (by omega : midS l ≤ 3000)]; rfl)
          have HEX := Lib.hid (rexpand_any l a n cap wr (HI.out.pure HU.out) (by omega))
          generalize midS l = ms at *
          unfold ExpP at HEX
          obtain ⟨o, ho⟩ : ∃ o, expTo l [] = o := ⟨_, rfl⟩
          rw [ho] at HEX HB
          have HOE := Lib.hid ho
          clear ho
          clear htk hms
          go_wp2_with fail
          refine HEX.out.mono ?_
          rintro e w2 ⟨rfl, hU2⟩
          have HU2 := Lib.hid (HU.out.then hU2)
          clear hU2 HEX
          cases o with
          | none =>
            unfold expV
            go_wp2_with fail
            refine (lives11_any _).mono ?_
            rintro e w9 ⟨rfl, hU9⟩
            have HU9 := Lib.hid (HU2.out.then hU9)
            clear hU9
            go_wp2
            go_ret
            exact ⟨rfl, HU9.out⟩
          | some s =>
            unfold expV
            have hbyte : ∀ t ∈ l, t.byte < 256 := fun t ht => by
              obtain ⟨i, hi, rfl⟩ := List.getElem_of_mem ht
              obtain ⟨_, _, _, _, r, _⟩ := HI.out.cell i hi
              exact r
            have HOK := Lib.hid (expTo_ok l [] s hbyte HOE.out)
            have HSZ := Lib.hid (sizes_any l a n cap w2 (HI.out.pure HU2.out) (by omega) HOK.out)
            clear hbyte
            go_wp2_with fail
            refine HSZ.out.mono ?_
            rintro e w3 ⟨lits, backs, lens, steps, t, hM, hT, rfl, hU3⟩
            have HM := Lib.hid hM
            have HT := Lib.hid hT
            have HU3 := Lib.hid (HU2.out.then hU3)
            obtain ⟨X, hX⟩ : ∃ X, X = ((35 + 8 * expLen l : Nat) : Int) := ⟨_, rfl⟩
            obtain ⟨Y, hY⟩ : ∃ X, X = (3 + bodyI (ints (fixP 4)) (ints (List.replicate 32 5)) (manyF l)) := ⟨_, rfl⟩
            obtain ⟨Z, hZ⟩ : ∃ X, X = (((3 + (14 + 3 * t + szT lens steps) : Nat) : Int) + bodyI (ints lits) (ints backs) (manyF l)) := ⟨_, rfl⟩
            rw [← hX, ← hY, ← hZ]
            have HX := Lib.hid hX
            have HY := Lib.hid hY
            have HZ := Lib.hid hZ
            clear hM hT hU3 hX hY hZ HSZ
            go_upto_region 13 with fail
            have HB := Lib.hid (Blk.new w3 [.int .i64 X, .int .i64 Y, .int .i64 Z] 61)
            have HU4 := Lib.hid (HU3.out.alloc (.cells #[.int .i64 X, .int .i64 Y, .int .i64 Z] 61))
            change Code.wp _ _ _ _ (w3.alloc (.cells #[.int .i64 X, .int .i64 Y, .int .i64 Z] 61))
            generalize w3.alloc (.cells #[.int .i64 X, .int .i64 Y, .int .i64 Z] 61) = w4 at *
            generalize w3.heap.size = b at *
            have HBE := Lib.hid (dbest_any l a n cap w4 (HI.out.pure HU4.out) (by omega) HOK.out)
            go_wp2_with fail
            refine HBE.out.mono ?_
            rintro e w5 ⟨lits', backs', lens', steps', t', hM', hT', rfl, hU5⟩
            obtain ⟨rfl, rfl, rfl, rfl⟩ := hM'.uniq HM.out
            obtain rfl := hT'.uniq HT.out
            rw [← HX.out, ← HY.out, ← HZ.out]
            have hbl := bst_lt X Y Z 3
            have HBL := Lib.hid (bst_least X Y Z)
            have HB5 := Lib.hid (HB.out.upd hU5 (by simp))
            have HU5 := Lib.hid (HU4.out.then hU5)
            clear hM' hT' hU5 HBE
            generalize bst X Y Z 3 = K at *
            have hk0 : ¬ (K : Int) < 0 := by omega
            have hk2 : ¬ (2 : Int) < (K : Int) := by omega
            go_wp2
            go_loopg [62] 3 (fun gg s62 wr => ∃ i : Nat, i ≤ 3 ∧ gg = 3 - i ∧ s62 = .int .i64 (i : Nat) ∧ Hid (Upd [] w wr) ∧ Hid (Blk wr b [.int .i64 X, .int .i64 Y, .int .i64 Z] 61))
            case atStart => exact ⟨0, by omega, by omega, rfl, HU5, HB5⟩
            case round =>
              obtain ⟨i, hi3, rfl, rfl, HUi, HBi⟩ := hrel
              by_cases hc : i < 3
              · have hcz : (i : Int) < 3 := by omega
                have hw1 : IntKind.i64.wrap ((i : Int) + 1) = ((i + 1 : Nat) : Int) := by rw [IntWalk.i64_in _ (by omega)]; rfl
                have ci : wr.cell? ⟨b, i, none⟩ = some (.int .i64 (at3 X Y Z i)) := HBi.out.cell i (by
                  obtain rfl | rfl | rfl : i = 0 ∨ i = 1 ∨ i = 2 := by omega
                  all_goals rfl)
                have ck : wr.cell? ⟨b, K, none⟩ = some (.int .i64 (at3 X Y Z K)) := HBi.out.cell K (by
                  obtain rfl | rfl | rfl : K = 0 ∨ K = 1 ∨ K = 2 := by omega
                  all_goals rfl)
                have hle := (HBL.out i hc).1
                have hlt := (HBL.out i hc).2
                have t1 : ¬ at3 X Y Z i < at3 X Y Z K := by omega
                have HT2 : Hid (i < K → at3 X Y Z i ≠ at3 X Y Z K) := Lib.hid (fun h => by have := hlt h; omega)
                clear hle hlt
                generalize at3 X Y Z i = A at *
                generalize at3 X Y Z K = B at *
                have t1d : decide (A < B) = false := decide_eq_false t1
                by_cases h2 : i < K
                · have h2d : decide ((i : Int) < (K : Int)) = true := decide_eq_true (by omega)
                  have h3 : ¬ A = B := HT2.out h2
                  have h3d : decide (A = B) = false := decide_eq_false h3
                  clear HX HY HZ HM HT
                  go_wp2_with fail
                  go_quiet (fail)
                  have HUq := Lib.hid (HUi.out.drewN nq)
                  have HBq := Lib.hid (Blk.drewN HBi.out nq)
                  generalize wr.drewN nq = wq at *
                  go_wp2
                  go_roundg (3 - (i + 1))
                  · exact ⟨i + 1, by omega, by first | rfl | omega, by first | rfl | go_num, HUq, HBq⟩
                  · omega
                · have h2d : decide ((i : Int) < (K : Int)) = false := decide_eq_false (by omega)
                  clear HX HY HZ HM HT
                  go_wp2_with fail
                  go_quiet (fail)
                  have HUq := Lib.hid (HUi.out.drewN nq)
                  have HBq := Lib.hid (Blk.drewN HBi.out nq)
                  generalize wr.drewN nq = wq at *
                  go_wp2
                  go_roundg (3 - (i + 1))
                  · exact ⟨i + 1, by omega, by first | rfl | omega, by first | rfl | go_num, HUq, HBq⟩
                  · omega
              · obtain rfl : i = 3 := by omega
                clear HX HY HZ HM HT HBi HB5 HB HBL
                obtain ⟨k, hk⟩ : ∃ k : Nat, N % 20000 = k := ⟨_, rfl⟩
                have hkb : k < 20000 := by omega
                have hki : (N : Int) % 20000 = (k : Int) := by omega
                have hm1 : ∀ w, (Instr.makeSlice 35 (.int .u64 (k : Nat)) (.int .u64 (k : Nat))).run Try.prog w = .ok (.slice (some ⟨w.heap.size, 0, none⟩) k k) (w.alloc (.cells (tcs (List.replicate k ⟨0, 0, 0⟩)).toArray 40)) := fun w => mkToks k (by omega) w
                clear hk
                have HKB := Lib.hid hkb
                obtain ⟨LZ, hLZ⟩ : ∃ LZ : List Tok, List.replicate k ⟨0, 0, 0⟩ = LZ := ⟨_, rfl⟩
                have HTZ := Lib.hid (tok_new wr k)
                rw [hLZ] at HTZ hm1
                clear hLZ
                go_upto_region 23 with fail
                have HU6 := Lib.hid (HUi.out.alloc (.cells (tcs LZ).toArray 40))
                generalize wr.alloc (.cells (tcs LZ).toArray 40) = w6 at *
                generalize wr.heap.size = zb at *
                have HPZ := Lib.hid (parts_any LZ (some ⟨zb, 0, none⟩) k k w6 HTZ.out (.inr ⟨_, _, rfl⟩) (by omega) (Nat.le_refl _) (by omega))
                clear hm1
                go_wp2_with fail
                refine HPZ.out.mono ?_
                rintro e w7 ⟨v, vs, rfl, hO, hvl, hcl, hU7⟩
                have HU7 := Lib.hid (HU6.out.then hU7)
                obtain ⟨R, hR⟩ : ∃ R, rowsN k = R := ⟨_, rfl⟩
                rw [hR] at hvl
                have hRp : 0 < R := by rw [← hR]; unfold rowsN; split <;> omega
                have hR3 : R ≤ 3 := by rw [← hR]; unfold rowsN; split <;> omega
                have HR := Lib.hid hR
                obtain ⟨gv, cv, rfl, -, hcvR⟩ := hO.1.form' (by omega)
                have HVC : Hid (∀ j, j < R → ∃ ua uc, w7.cell? ⟨gv, j, none⟩ = some (.slice ua (min (k - 8000 * j) 8000) uc)) := Lib.hid (fun j hj => by
                  obtain ⟨ua, uc, hu⟩ := (hcl j (by omega)).1.form
                  refine ⟨ua, uc, ?_⟩
                  rw [← hu]
                  have h := hO.1.cell j (List.getElem?_eq_getElem (by omega))
                  rw [h])
                rw [hvl] at hcvR ⊢
                clear hcl hO hvl hU7 hR HPZ
                go_wp2
                go_loopg [15, 94] 3 (fun gg s15 s94 wr => ∃ j : Nat, j ≤ R ∧ gg = 3 - j ∧ s94 = .int .i64 (j : Nat) ∧ s15 = .int .i64 (min (8000 * j) k : Nat) ∧ Hid (Upd [] w wr) ∧ Hid (Upd [] w7 wr))
                case atStart => exact ⟨0, by omega, by omega, rfl, by simp, HU7, Lib.hid (Upd.refl _ _)⟩
                case round =>
                  obtain ⟨j, hjR, rfl, rfl, rfl, HUj, HUk⟩ := hrel
                  by_cases hc : j < R
                  · have hcz : (j : Int) < (R : Int) := by omega
                    have hw1 : IntKind.i64.wrap ((j : Int) + 1) = ((j + 1 : Nat) : Int) := by rw [IntWalk.i64_in _ (by omega)]; rfl
                    have hwR : IntKind.i64.wrap ((R : Int) - 1) = (R : Int) - 1 := by rw [IntWalk.i64_in _ (by omega)]
                    obtain ⟨ua, uc, hcu⟩ := HVC.out j hc
                    have hcu := (HUk.out.at (World.block_lt_of_cell? _ _ hcu) (by simp) _).trans hcu
                    obtain ⟨m, hm⟩ : ∃ m, min (k - 8000 * j) 8000 = m := ⟨_, rfl⟩
                    obtain ⟨S, hS⟩ : ∃ S, min (8000 * j) k = S := ⟨_, rfl⟩
                    have hSm : min (8000 * (j + 1)) k = S + m := by omega
                    rw [hm] at hcu
                    rw [hS]
                    have hm8 : m ≤ 8000 := by omega
                    have hSb : S ≤ 20000 := by omega
                    have hws : IntKind.i64.wrap ((S : Int) + (m : Int)) = ((S + m : Nat) : Int) := by rw [IntWalk.i64_in _ (by omega)]; rfl
                    have HSm := Lib.hid hSm
                    have hlast : j + 1 < R → m = 8000 := by have := HR.out; unfold rowsN at this; split at this <;> omega
                    have HL := Lib.hid hlast
                    clear hm hS hSm hlast
                    have hmz : ¬ (8000 : Int) < (m : Int) := by omega
                    by_cases hl : j + 1 < R
                    · have hlz : (j : Int) < (R : Int) - 1 := by omega
                      obtain rfl := HL.out hl
                      go_wp2_with fail
                      go_roundg (3 - (j + 1))
                      · exact ⟨j + 1, by omega, by first | rfl | omega, by first | rfl | go_num, by rw [HSm.out]; first | rfl | go_num, HUj, HUk⟩
                      · omega
                    · have hlz : ¬ (j : Int) < (R : Int) - 1 := by omega
                      go_wp2_with fail
                      go_roundg (3 - (j + 1))
                      · exact ⟨j + 1, by omega, by first | rfl | omega, by first | rfl | go_num, by rw [HSm.out]; first | rfl | go_num, HUj, HUk⟩
                      · omega
                  · obtain rfl : j = R := by omega
                    have hSk : min (8000 * j) k = k := by have := HR.out; unfold rowsN at this; split at this <;> omega
                    rw [hSk]
                    have HRK : Hid ((j : Int) = max 1 (((k : Int) + 7999) / 8000)) := Lib.hid (by have := HR.out; unfold rowsN at this; split at this <;> omega)
                    clear HVC hSk
                    have HPL := Lib.hid (parts_any l a n cap wr (HI.out.pure HUj.out) HA.out (by omega) hnc hcm)
                    go_wp2_with fail
                    refine HPL.out.mono ?_
                    rintro e w8 ⟨v, vs, rfl, hO, hvl, hcl, hU8⟩
                    have HU8 := Lib.hid (HUj.out.then hU8)
                    have h1 : rowsN n = 1 := by unfold rowsN; split <;> omega
                    rw [h1] at hvl
                    obtain ⟨ga, ca, rfl, -, hca⟩ := hO.1.form' (by omega)
                    rw [hvl] at hca ⊢
                    have hc0 := hO.1.cell 0 (List.getElem?_eq_getElem (by omega))
                    have hr0 := (hcl 0 (by omega)).1
                    have e0 : rowL l 0 = l := by unfold rowL; rw [Nat.mul_zero, List.drop_zero]; exact List.take_of_length_le (by rw [HLN.out]; omega)
                    rw [e0, show min (n - 8000 * 0) 8000 = n by omega] at hr0
                    obtain ⟨ua, uc, hu, hTu, -⟩ := TokIn.of_row hr0 HI.out.fit
                    rw [hu] at hc0
                    have HTS := Lib.hid (fun w9 (h : Upd [] w8 w9) => tsame_any l ua a n uc cap w9 (hTu.pure h) (HI.out.pure (HU8.out.then h)) (by omega))
                    have hw9 : IntKind.i64.wrap ((k : Int) + 7999) = (k : Int) + 7999 := by rw [IntWalk.i64_in _ (by omega)]
                    clear hcl hO hvl hU8 HPL h1 hr0 e0 hu hTu
                    go_wp2_with fail
                    refine (HTS.out _ (Upd.refl _ _)).mono ?_
                    rintro e w9 ⟨rfl, hU9⟩
                    have HU9 := Lib.hid (HU8.out.then hU9)
                    clear hU9 HTS
                    go_wp2_with fail
                    refine (lives11_any _).mono ?_
                    rintro e w10 ⟨rfl, hU10⟩
                    have HU10 := Lib.hid (HU9.out.then hU10)
                    clear hU10
                    go_wp2
                    go_ret
                    exact ⟨rfl, HU10.out⟩
end Go.Proofs.Ytdehkaknbmbieaa

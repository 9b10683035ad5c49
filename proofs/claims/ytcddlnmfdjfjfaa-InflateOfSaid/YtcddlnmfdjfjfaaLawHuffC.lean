/- The walk of the law HuffCodes. -/
import Derived.Test.YtcddlnmfdjfjfaaRef4
namespace Go.Proofs.Ytcddlnmfdjfjfaa
open Go.RowKit
set_option linter.unusedVariables false

theorem IntsIn.of_blk {w : World} {b : Nat} {l : List Int} {t : TypeId} (h : Blk w b (l.map (Value.int .i64)) t) (hb : ∀ x ∈ l, -9223372036854775808 ≤ x ∧ x ≤ 9223372036854775807) : IntsIn w (some ⟨b, 0, none⟩) l.length l :=
  ⟨rfl, fun i hi => ⟨b, 0, rfl, by rw [Nat.zero_add]; exact h.cell i (by simp [hi]), hb _ (List.getElem_mem hi)⟩⟩

set_option maxRecDepth 100000 in
set_option maxHeartbeats 1600000 in
theorem lives4 (w : World) : Calls Try.prog 21 #[] w fun e w' => e = .returned (.bool true) ∧ Upd [] w w' := by
  have hb : ∀ x ∈ ([2, 1, 2] : List Int), -9223372036854775808 ≤ x ∧ x ≤ 9223372036854775807 := by simp
  have HI := Lib.hid (fun w' : World => IntsIn.of_blk (l := [2, 1, 2]) (Blk.new w' (([2, 1, 2] : List Int).map (Value.int .i64)) 3) hb)
  have HK : Hid (kindOf [2, 1, 2] = 1) := Lib.hid (by decide)
  have HC : Hid (codes (nats [2, 1, 2]) = [2, 0, 3]) := Lib.hid (by decide)
  clear hb
  go_enter Try.func21, Try.ntmps21
  go_wp2_with fail
  refine (codes_any _ _ _ _ _ (by simp) (HI.out w)).mono ?_
  rintro e w1 ⟨hU1, ⟨h3, _⟩ | ⟨_, g, rfl, hg, hR⟩⟩
  · rw [HK.out] at h3; cases h3
  · rw [HC.out] at hR
    have c0 := Row.cell hR 0 (u := .int .u32 2) rfl
    have c1 := Row.cell hR 1 (u := .int .u32 0) rfl
    have c2 := Row.cell hR 2 (u := .int .u32 3) rfl
    go_wp2_with fail
    refine (kind_any _ _ _ _ _ (by simp) (HI.out w1)).mono ?_
    rintro e w2 ⟨rfl, hU2⟩
    rw [HK.out]
    go_wp2
    go_returns
    exact ⟨rfl, (((Upd.refl [] w).alloc _).then (hU1.alloc _)).then hU2⟩

/-- Two slices of numbers, cell by cell the same. -/
def SameCells (w : World) (s7 s8 : Value) (N : Nat) : Prop :=
  ∃ aa ca ab cb, s7 = .slice aa N ca ∧ s8 = .slice ab N cb ∧ ∀ i, i < N → ∃ ga gb x, aa = some ⟨ga, 0, none⟩ ∧ ab = some ⟨gb, 0, none⟩ ∧ w.cell? ⟨ga, i, none⟩ = some (.int .u32 x) ∧ w.cell? ⟨gb, i, none⟩ = some (.int .u32 x)

set_option maxRecDepth 100000 in
set_option maxHeartbeats 3200000 in
theorem law_huffCodes (a : Option Addr) (len cap : Nat) (l : List Int) (X : Nat) (k : Int) (w : World) (hlen : len ≤ 9223372036854775807) (hI : IntsIn w a len l) (hX : X < 4294967296) :
    Calls Try.prog 4 #[.slice a len cap, .int .u32 (X : Nat), .int .i64 k] w fun e w' => e = .returned (.bool true) ∧ Upd [] w w' := by
  have hll := hI.len
  have HI := Lib.hid hI
  clear hI
  subst hll
  by_cases hlong : 400 < l.length
  · have hnz : ((l.length : Nat) : Int) > 400 := by omega
    clear hlong
    go_enter Try.func4, Try.ntmps4
    go_wp2_with fail
    refine (lives4 _).mono ?_
    rintro e w1 ⟨rfl, hU1⟩
    go_wp2
    go_returns
    exact ⟨rfl, hU1⟩
  · have hnz : ¬ ((l.length : Nat) : Int) > 400 := by omega
    obtain ⟨K, hK32, hK⟩ : ∃ K : Nat, K ≤ 32 ∧ Hid ((K : Int) = max 0 (min k 32)) := ⟨(max 0 (min k 32)).toNat, by omega, Lib.hid (by omega)⟩
    clear hlong
    go_enter Try.func4, Try.ntmps4
    go_upto_region 3 with fail
    go_cut [7, 8] (fun s7 s8 wx => ∃ N, N ≤ 400 ∧ SameCells wx s7 s8 N ∧ Upd [] w wx)
    case first =>
      go_wp2_with fail
      refine (codes_any _ _ _ _ _ hlen HI.out).mono ?_
      rintro e w1 ⟨hU1, ⟨h3, rfl⟩ | ⟨h3, g, rfl, hg, hR⟩⟩
      · have H3 := Lib.hid h3
        clear h3
        go_wp2_with fail
        refine (rcodes_any _ _ _ _ _ hlen (HI.out.pure hU1)).mono ?_
        rintro e w2 ⟨hU2, ⟨_, rfl⟩ | ⟨h4, _⟩⟩
        · go_wp2
          go_meet
          exact ⟨0, by omega, ⟨none, 0, none, 0, rfl, rfl, fun i hi => by omega⟩, hU1.then hU2⟩
        · exact absurd H3.out h4
      · have H3 := Lib.hid h3
        clear h3
        go_wp2_with fail
        refine (rcodes_any _ _ _ _ _ hlen (HI.out.pure hU1)).mono ?_
        rintro e w2 ⟨hU2, ⟨h4, _⟩ | ⟨_, g2, rfl, hg2, hR2⟩⟩
        · exact absurd h4 H3.out
        · have hRR := hR.upd hU2 (by simp)
          go_wp2
          go_meet
          refine ⟨l.length, by omega, ⟨_, _, _, _, rfl, rfl, fun i hi => ?_⟩, hU1.then hU2⟩
          have hi2 : i < (codes (nats l)).length := by simp [codes, length_nats, hi]
          exact ⟨g, g2, _, rfl, rfl, Row.cell hRR i (u32s_get _ _ _ (List.getElem?_eq_getElem hi2)), Row.cell hR2 i (u32s_get _ _ _ (List.getElem?_eq_getElem hi2))⟩
    case rest =>
      obtain ⟨N, hN, ⟨aa, ca, ab, cb, rfl, rfl, hS⟩, hU⟩ := hcut
      have HS := Lib.hid hS
      clear hS
      go_wp2
      go_loopg [23] N (fun g s23 wx => ∃ i, i ≤ N ∧ g = N - i ∧ s23 = .int .i64 (i : Nat) ∧ ∃ n, wc.drewN n = wx)
      case atStart => exact ⟨0, by omega, rfl, rfl, 0, rfl⟩
      case round =>
        obtain ⟨i, hi, rfl, rfl, n, rfl⟩ := hrel
        by_cases hc : i < N
        · obtain ⟨ga, gb, x, rfl, rfl, c1, c2⟩ := HS.out i hc
          have hcz : (i : Int) < (N : Int) := by omega
          have hd : decide ((N : Int) ≤ (i : Int)) = false := by simp; omega
          go_wp2
          go_quiet (fail)
          go_wp2
          go_roundg (N - (i + 1))
          case measure => omega
          case rel => exact ⟨i + 1, by omega, rfl, by go_num, _, rfl⟩
        · have hcz : ¬ (i : Int) < (N : Int) := by omega
          have hUn : Upd [] w (wc.drewN n) := hU.drewN n
          generalize wc.drewN n = w3 at *
          clear hN hi hc
          go_upto_region 10 with fail
          go_cut [10] (fun s10 wx => s10 = .int .i64 (K : Nat) ∧ w3 = wx)
          case first =>
            go_wp2
            all_goals go_meet
            all_goals (refine ⟨?_, rfl⟩; rw [hK.out]; congr 1; omega)
          case rest =>
            obtain ⟨rfl, rfl⟩ := hcut
            go_wp2
            go_loopg [11, 12, 47] K (fun g s11 s12 s47 wx => ∃ i, i ≤ K ∧ g = K - i ∧ s47 = .int .i64 (i : Nat) ∧ s11 = .int .u32 (turnN X i : Nat) ∧ s12 = .int .u32 ((X / 2 ^ i : Nat) : Int) ∧ w3 = wx)
            case atStart => exact ⟨0, by omega, rfl, rfl, rfl, by simp, rfl⟩
            case round =>
              obtain ⟨i, hi, rfl, rfl, rfl, rfl, rfl⟩ := hrel
              by_cases hc : i < K
              · have hcz2 : (i : Int) < (K : Int) := by omega
                have hlt := turnN_lt X i
                have hp : 2 ^ i ≤ 2 ^ 31 := Nat.pow_le_pow_right (by omega) (by omega)
                have hub : X / 2 ^ i < 4294967296 := Nat.lt_of_le_of_lt (Nat.div_le_self _ _) hX
                have h1 := Lib.hid (show turnN X (i + 1) = 2 * turnN X i + X / 2 ^ i % 2 by rfl)
                have h2 := Lib.hid (show X / 2 ^ (i + 1) = X / 2 ^ i / 2 by rw [Nat.div_div_eq_div_mul, Nat.pow_succ])
                generalize turnN X i = t at *
                generalize X / 2 ^ i = q at *
                go_wp2
                go_roundg (K - (i + 1))
                case measure => omega
                case rel => exact ⟨i + 1, by omega, rfl, by go_num, by rw [h1.out]; simp, by rw [h2.out]; simp, rfl⟩
              · have hiK : i = K := by omega
                have hcz2 : ¬ (i : Int) < (K : Int) := by omega
                rw [hiK]
                have hcz3 : ¬ (K : Int) < (K : Int) := by omega
                clear hcz2 hiK hc
                go_wp2_with fail
                refine (kind_any _ _ _ _ _ hlen (HI.out.pure hUn)).mono ?_
                rintro e w4 ⟨rfl, hU4⟩
                go_wp2_with fail
                refine (rkind_any _ _ _ _ _ hlen (HI.out.pure (hUn.then hU4))).mono ?_
                rintro e w5 ⟨rfl, rfl⟩
                go_wp2_with fail
                refine (turned_any X K _ _ _ rfl hX hK32 hK).mono ?_
                rintro e w5 ⟨rfl, rfl⟩
                go_wp2_with fail
                refine (lives4 _).mono ?_
                rintro e w6 ⟨rfl, hU6⟩
                go_wp2
                go_returns
                exact ⟨rfl, (hUn.then hU4).then hU6⟩
end Go.Proofs.Ytcddlnmfdjfjfaa

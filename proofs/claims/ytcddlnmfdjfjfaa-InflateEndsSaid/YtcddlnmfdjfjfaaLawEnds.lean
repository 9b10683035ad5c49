/- The law swinglelaw08.InflateEnds: its walk. -/
import Derived.Test.YtcddlnmfdjfjfaaLives8
import Derived.Test.YtcddlnmfdjfjfaaEnds4
namespace Go.Proofs.Ytcddlnmfdjfjfaa
open Go.RowKit
set_option linter.unusedVariables false

theorem of_ok' {s : ByteArray} {most : Int} {w : World} {A : ByteArray} {n : Nat} (hs : s.size ≤ 1099511627776) (h : ∃ out a, ofP s most = .ok (out, a) ∧ A = strOf out ∧ n = (a + 7) / 8) :
    Calls Try.prog 38 #[.string s, .int .i64 most] w fun e w' => e = .returned (.tuple #[.string A, .int .i64 (n : Nat), .int .i64 0]) ∧ Upd [] w w' := by
  obtain ⟨out, a, h, rfl, rfl⟩ := h
  exact of_ok hs h

set_option maxRecDepth 100000 in
set_option maxHeartbeats 6400000 in
theorem law_inflateEnds (S M : ByteArray) (Z : Nat) (w : World) (hS : S.size ≤ 9223372036854775807) (hM : M.size ≤ 9223372036854775807) (hZ : Z ≤ 18446744073709551615) :
    Calls Try.prog 9 #[.string S, .string M, .int .u64 (Z : Nat)] w fun e w' => e = .returned (.bool true) ∧ Upd [] w w' := by
  obtain ⟨N1, hN1⟩ : ∃ N1, N1 = min S.size 200 := ⟨_, rfl⟩
  obtain ⟨N2, hN2⟩ : ∃ N2, N2 = min M.size 20 := ⟨_, rfl⟩
  have e1 : min (S.size : Int) 200 = (N1 : Int) := by omega
  have e2 : min (M.size : Int) 20 = (N2 : Int) := by omega
  have b1 : N1 ≤ S.size := by omega
  have b2 : N2 ≤ M.size := by omega
  have b3 : N1 ≤ 200 := by omega
  have b4 : N2 ≤ 20 := by omega
  have hT : (S.extract 0 N1).size = N1 := by rw [ByteArray.size_extract]; omega
  have hK : (M.extract 0 N2).size = N2 := by rw [ByteArray.size_extract]; omega
  clear hN1 hN2
  go_enter Try.func9, Try.ntmps9
  go_wp2_with fail
  go_quiet (fail)
  rename_i nq
  generalize S.extract 0 N1 = T at *
  generalize M.extract 0 N2 = K at *
  have hTb : T.size ≤ 200 := by omega
  have hKb : K.size ≤ 20 := by omega
  clear hT hK e1 e2 b1 b2 b3 b4
  have HU0 := Lib.hid ((Upd.refl [] w).drewN nq)
  generalize w.drewN nq = w0 at *
  cases hof : ofP T 2000 with
  | error c =>
    have hce := ofP_er c hof
    have HO := Lib.hid (of_err (w := w0) (by omega) hof)
    have t1 : ((c : Int) != 0) = true := by simp; omega
    have t2 : (c != 0) = true := by simp; omega
    clear hof
    go_wp2_with fail
    refine HO.out.mono ?_
    rintro e w1 ⟨rfl, hU1⟩
    go_wp2_with fail
    refine (lives8_any w1).mono ?_
    rintro e w2 ⟨rfl, hU2⟩
    go_wp2
    go_returns
    exact ⟨rfl, (HU0.out.then hU1).then hU2⟩
  | ok r =>
    obtain ⟨out, a⟩ := r
    have hof' : ofP T ((2000 : Nat) : Int) = .ok (out, a) := hof
    obtain ⟨hf1, hf2, hf3⟩ := ofP_facts (by omega) hof'
    obtain ⟨n, hn⟩ : ∃ n, n = (a + 7) / 8 := ⟨_, rfl⟩
    obtain ⟨A, hA⟩ : ∃ A, A = strOf out := ⟨_, rfl⟩
    have hAs : A.size = out.length := by rw [hA, size_strOf]
    have hn1 : 1 ≤ n := by omega
    have hnT : n ≤ T.size := by omega
    have HO := Lib.hid (of_ok' (w := w0) (A := A) (n := n) (by omega) ⟨out, a, hof, hA, hn⟩)
    obtain ⟨u, hu⟩ : ∃ u, u = Z % 100 := ⟨_, rfl⟩
    obtain ⟨r, hr⟩ : ∃ r, r = Z % n := ⟨_, rfl⟩
    obtain ⟨q, hq⟩ : ∃ q, q = Z % A.size := ⟨_, rfl⟩
    have hu1 : u < 100 := by omega
    have hr1 : r < n := by rw [hr]; exact Nat.mod_lt _ (by omega)
    have hq1 : 0 < A.size → q < A.size := fun h => by rw [hq]; exact Nat.mod_lt _ h
    -- more behind, more room
    have hrm := ofP_rm (s := T) (most := 2000) (m := 2000 + u) (by omega) (out, a) hof
    have h2 := ofP_more (more := K) (hrm.1 (by unfold lenO; simp only; omega)) hf2
    rw [← hn, show ((2000 + u : Nat) : Int) = 2000 + (u : Int) by omega] at h2
    have s2 : (T.extract 0 n ++ K).size ≤ 220 := by rw [ByteArray.size_append, ByteArray.size_extract]; omega
    have HO2 := Lib.hid (fun w => of_ok' (w := w) (A := A) (n := n) (by omega) ⟨out, a, h2, hA, hn⟩)
    -- a byte less
    have h3 := ofP_less hof hf2 (j := r) (by rw [← hn]; exact hr1)
    have s3 : (T.extract 0 r).size ≤ 200 := by rw [ByteArray.size_extract]; omega
    have HO3 := Lib.hid (fun w => of_err (w := w) (by omega) h3)
    -- room for just as many
    have h4 := (ofP_rm (s := T) (most := 2000) (m := out.length) (by omega) (out, a) hof).1 (Nat.le_refl _)
    rw [← hAs] at h4
    have HO4 := Lib.hid (fun w => of_ok' (w := w) (A := A) (n := n) (by omega) ⟨out, a, h4, hA, hn⟩)
    -- too little room
    have h5 : 0 < A.size → ofP T (q : Int) = .error 4 := fun h => by
      have hlt := hq1 h
      exact (ofP_rm (s := T) (most := 2000) (m := q) (by omega) (out, a) hof).2 (by unfold lenO; simp only; omega)
    have HO5 := Lib.hid (fun w h => of_err (w := w) (by omega) (h5 h))
    have hA2 : A.size ≤ 2000 := by omega
    have q1 : (Z : Int).tmod 100 = (u : Int) := by rw [Int.tmod_eq_emod_of_nonneg (by omega), hu]; omega
    have q1' : (Z : Int) % 100 = (u : Int) := by omega
    have q5 : (Z : Int).tmod (n : Int) = (r : Int) := by rw [Int.tmod_eq_emod_of_nonneg (by omega), hr]; rfl
    have q5' : (Z : Int) % (n : Int) = (r : Int) := by rw [hr]; rfl
    have q7 : (Z : Int).tmod (A.size : Int) = (q : Int) := by rw [Int.tmod_eq_emod_of_nonneg (by omega), hq]; rfl
    have q7' : (Z : Int) % (A.size : Int) = (q : Int) := by rw [hq]; rfl
    clear hof hof' hf1 hf2 hf3 hA hAs hrm h2 h3 h4 h5 hn hu hr hq
    have t1 : decide ((n : Int) < 1) = false := decide_eq_false (by omega)
    have t2 : decide ((T.size : Int) < (n : Int)) = false := decide_eq_false (by omega)
    have t3 : decide (T.size < n) = false := decide_eq_false (by omega)
    have t4 : decide ((2000 : Int) < (A.size : Int)) = false := decide_eq_false (by omega)
    have t5 : decide (n = 0) = false := decide_eq_false (by omega)
    have q2 : IntKind.i64.wrap (u : Int) = (u : Int) := IntWalk.i64_in _ (by omega)
    have q3 : IntKind.i64.wrap ((2000 : Int) + (u : Int)) = 2000 + (u : Int) := by rw [IntWalk.i64_in _ (by omega)]
    have q4 : IntKind.u64.wrap (n : Int) = (n : Int) := by rw [IntKind.wrap_u64]; omega
    have q6 : IntKind.i64.wrap (r : Int) = (r : Int) := IntWalk.i64_in _ (by omega)
    have q8 : IntKind.u64.wrap (A.size : Int) = (A.size : Int) := by rw [IntKind.wrap_u64]; omega
    go_wp2_with fail
    refine HO.out.mono ?_
    rintro e w1 ⟨rfl, hU1⟩
    go_wp2_with fail
    refine (HO2.out w1).mono ?_
    rintro e w2 ⟨rfl, hU2⟩
    go_wp2_with fail
    refine (HO3.out w2).mono ?_
    rintro e w3 ⟨rfl, hU3⟩
    go_wp2_with fail
    refine (HO4.out w3).mono ?_
    rintro e w4 ⟨rfl, hU4⟩
    have hUw := (((HU0.out.then hU1).then hU2).then hU3).then hU4
    by_cases hA0 : 0 < A.size
    · have t6 : decide ((0 : Int) < (A.size : Int)) = true := decide_eq_true (by omega)
      have t7 : decide (0 < A.size) = true := decide_eq_true (by omega)
      have q9 : IntKind.i64.wrap (q : Int) = (q : Int) := IntWalk.i64_in _ (by have := hq1 hA0; omega)
      go_wp2_with fail
      refine (HO5.out w4 hA0).mono ?_
      rintro e w5 ⟨rfl, hU5⟩
      go_wp2_with fail
      refine (lives8_any w5).mono ?_
      rintro e w6 ⟨rfl, hU6⟩
      go_wp2
      go_returns
      exact ⟨rfl, (hUw.then hU5).then hU6⟩
    · have t6 : decide ((0 : Int) < (A.size : Int)) = false := decide_eq_false (by omega)
      have t7 : decide (0 < A.size) = false := decide_eq_false (by omega)
      go_wp2_with fail
      refine (lives8_any w4).mono ?_
      rintro e w5 ⟨rfl, hU5⟩
      go_wp2
      go_returns
      exact ⟨rfl, hUw.then hU5⟩
end Go.Proofs.Ytcddlnmfdjfjfaa

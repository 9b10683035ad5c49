/- Package symbol: Long, Back: walks: they tell what the lists tell. -/
import Derived.Test.YtdehkaknbmbieaaSgn
import Derived.Test.YtdehkaknbmbieaaLCode
namespace Go.Proofs.Ytdehkaknbmbieaa
set_option linter.unusedVariables false
set_option linter.unusedSimpArgs false
set_option linter.unusedSectionVars false
open Go.RowKit
set_option linter.unusedVariables false
set_option linter.unusedSimpArgs false

theorem long_tab : ∀ k : Fin 28, (sbitsI 4 8 28 (k.val : Nat)).toNat = lBits.getD k.val 0 ∧ sbeg 3 4 8 28 k.val = lAt.getD k.val 0 := by decide +kernel
theorem long_find : ∀ n : Fin 259, 3 ≤ n.val → n.val ≠ 258 → findS 3 4 8 28 n.val 28 0 = findL n.val 29 0 ∧ ((findL n.val 29 0).getD 99) < 28 := by decide +kernel
theorem long_258 : findL 258 29 0 = some 28 := by decide +kernel
theorem back_tab : ∀ k : Fin 30, (sbitsI 2 4 30 (k.val : Nat)).toNat = dBt k.val ∧ sbeg 1 2 4 30 k.val = dAt.getD k.val 0 ∧ sbeg 1 2 4 30 k.val + 2 ^ (sbitsI 2 4 30 (k.val : Nat)).toNat = dAt.getD (k.val + 1) 0 := by decide +kernel
theorem back_find (n : Nat) : ∀ m i, i + m ≤ 30 → findS 1 2 4 30 n m i = findD n m i
  | 0, i, h => rfl
  | m + 1, i, h => by
    rw [findS_succ, findD_succ, back_find n m (i + 1) (by omega)]
    obtain ⟨_, h1, h2⟩ := back_tab ⟨i, by omega⟩
    have e : inS 1 2 4 30 n i ↔ isD n i := by
      unfold inS isD
      dsimp only at h1 h2
      rw [h1] at h2 ⊢
      rw [h2]
    by_cases h3 : isD n i
    · rw [if_pos h3, if_pos (e.2 h3)]
    · rw [if_neg h3, if_neg (fun q => h3 (e.1 q))]
set_option maxRecDepth 100000 in
set_option maxHeartbeats 3200000 in
theorem sback_any (n : Nat) (w : World) (h1 : 1 ≤ n) (h2 : n ≤ 32768) :
    Calls Try.prog 57 #[.int .i64 (n : Nat)] w fun e w' => ∃ i, findD n 30 0 = some i ∧ e = .returned (.tuple #[backV i n, .bool true]) ∧ Upd [] w w' := by
  obtain ⟨r, hr, hr30⟩ := findD_some n h1 h2
  have hs : signV 1 2 4 30 n r = backV r n := by
    obtain ⟨e1, e2, _⟩ := back_tab ⟨r, hr30⟩
    dsimp only at e1 e2
    unfold signV backV
    rw [e1, e2]
  have HSG := Lib.hid (fun w' => sign_any 1 2 4 30 n r w' (by decide) (by decide) (by decide) (by decide) (by decide) backS13 (by omega) (by rw [back_find n 30 0 (by omega)]; exact hr))
  rw [hs] at HSG
  unfold backV at HSG
  have HBV : Hid (backV r n = .agg #[.int .i64 (r : Nat), .int .i64 (dBt r : Nat), .int .i64 ((n - dAt.getD r 0 : Nat) : Int)]) := Lib.hid rfl
  have HR := Lib.hid hr
  generalize dAt.getD r 0 = p at *
  generalize dBt r = bb at *
  have HQ := Lib.hid (Blk.new w [.int .i64 0, .int .i64 0, .int .i64 0] 95)
  have HU := Lib.hid ((Upd.refl [] w).alloc (.cells #[.int .i64 0, .int .i64 0, .int .i64 0] 95))
  clear hs hr
  go_enter Try.func57, Try.ntmps57
  go_wp2_with fail
  refine (distances_any _).mono ?_
  rintro e w1 ⟨rfl, hU1⟩
  have HQ1 := Lib.hid (HQ.out.upd hU1 (by simp))
  have HU1 := Lib.hid (HU.out.then hU1)
  clear hU1
  go_wp2_with fail
  refine (HSG.out w1).mono ?_
  rintro e w2 ⟨rfl, hU2⟩
  have hQ2 := HQ1.out.upd hU2 (by simp)
  have HU2 := Lib.hid (HU1.out.then hU2)
  have f0 := hQ2.frz 0
  have f1 := hQ2.frz 1
  have f2 := hQ2.frz 2
  have c0 := hQ2.cell 0 rfl
  have c1 := hQ2.cell 1 rfl
  have c2 := hQ2.cell 2 rfl
  have HQ2 := Lib.hid hQ2
  clear hU2 hQ2
  go_wp2
  have hB9 := ((HQ2.out.set 0 (.int .i64 (r : Nat))).set 1 (.int .i64 (bb : Nat))).set 2 (.int .i64 ((n - p : Nat) : Int))
  refine bodyPost_ret (results_rowT rfl _ _ w.heap.size _ _ _ _ (.bool true) (by simp [Act.put]) (by simp [Act.put]) hB9 Try.underlying95 rfl (by rw [infoSign]; rfl)) (by simp [Act.put]) ⟨r, HR.out, ?_, ?_⟩
  · rw [HBV.out]; rfl
  · exact ((HU2.out.setCell (.inr (Nat.le_refl _)) _).setCell (.inr (Nat.le_refl _)) _).setCell (.inr (Nat.le_refl _)) _
set_option maxRecDepth 100000 in
set_option maxHeartbeats 3200000 in
theorem slong_any (n : Nat) (w : World) (h3 : 3 ≤ n) (h258 : n ≤ 258) :
    Calls Try.prog 56 #[.int .i64 (n : Nat)] w fun e w' => ∃ i, findL n 29 0 = some i ∧ e = .returned (.tuple #[longV i n, .bool true]) ∧ Upd [] w w' := by
  have HQ := Lib.hid (Blk.new w [.int .i64 0, .int .i64 0, .int .i64 0] 95)
  have HU := Lib.hid ((Upd.refl [] w).alloc (.cells #[.int .i64 0, .int .i64 0, .int .i64 0] 95))
  by_cases he : n = 258
  · subst he
    have HLV : Hid (longV 28 258 = .agg #[.int .i64 285, .int .i64 0, .int .i64 0]) := Lib.hid rfl
    go_enter Try.func56, Try.ntmps56
    go_wp2
    have hB9 := Blk.new w [.int .i64 285, .int .i64 0, .int .i64 0] 95
    refine bodyPost_ret (results_rowT rfl _ _ w.heap.size _ _ _ _ (.bool true) (by simp [Act.put]) (by simp [Act.put]) hB9 Try.underlying95 rfl (by rw [infoSign]; rfl)) (by simp [Act.put]) ⟨28, long_258, ?_, ?_⟩
    · rw [HLV.out]
    · exact (Upd.refl [] w).alloc _
  · have hez : ¬ (n : Int) = 258 := by omega
    obtain ⟨hf, hlt⟩ := long_find ⟨n, by omega⟩ h3 he
    dsimp only at hf hlt
    obtain ⟨r, hr⟩ : ∃ r, findL n 29 0 = some r := by
      cases h : findL n 29 0 with
      | none => rw [h] at hlt; simp at hlt
      | some r => exact ⟨r, rfl⟩
    rw [hr] at hf hlt
    have hr28 : r < 28 := hlt
    obtain ⟨e1, e2⟩ := long_tab ⟨r, hr28⟩
    dsimp only at e1 e2
    have HSG := Lib.hid (fun w' => sign_any 3 4 8 28 n r w' (by decide) (by decide) (by decide) (by decide) (by decide) longS13 (by omega) hf)
    unfold signV at HSG
    rw [e1, e2] at HSG
    have HLV : Hid (longV r n = .agg #[.int .i64 ((257 + r : Nat) : Int), .int .i64 (lBits.getD r 0 : Nat), .int .i64 ((n - lAt.getD r 0 : Nat) : Int)]) := Lib.hid rfl
    have HR := Lib.hid hr
    generalize lAt.getD r 0 = p at *
    generalize lBits.getD r 0 = bb at *
    have hwr : IntKind.i64.wrap ((r : Int) + 257) = (r : Int) + 257 := IntWalk.i64_in _ (by omega)
    clear e1 e2 hf hr hlt he
    go_enter Try.func56, Try.ntmps56
    go_wp2_with fail
    refine (longs_any _).mono ?_
    rintro e w1 ⟨rfl, hU1⟩
    have HQ1 := Lib.hid (HQ.out.upd hU1 (by simp))
    have HU1 := Lib.hid (HU.out.then hU1)
    clear hU1
    go_wp2_with fail
    refine (HSG.out w1).mono ?_
    rintro e w2 ⟨rfl, hU2⟩
    have hQ2 := HQ1.out.upd hU2 (by simp)
    have HU2 := Lib.hid (HU1.out.then hU2)
    have hs2 : w.heap.size + 1 ≤ w2.heap.size := by have := HU.out.size; have := (HQ1.out.upd hU2 (by simp)).lt; omega
    have hQ3 := hQ2.alloc (.cells #[.int .i64 (r : Nat), .int .i64 (bb : Nat), .int .i64 ((n - p : Nat) : Int)] 95)
    have hS3 := Blk.new w2 [.int .i64 (r : Nat), .int .i64 (bb : Nat), .int .i64 ((n - p : Nat) : Int)] 95
    have hU3 := HU2.out.alloc (.cells #[.int .i64 (r : Nat), .int .i64 (bb : Nat), .int .i64 ((n - p : Nat) : Int)] 95)
    have HQ3 := Lib.hid hQ3
    have HS3 := Lib.hid hS3
    have HU3 := Lib.hid hU3
    clear hU2 hQ2 hQ3 hS3 hU3
    go_upto_region 4 with fail
    change Code.wp _ _ _ _ (w2.alloc (.cells #[.int .i64 (r : Nat), .int .i64 (bb : Nat), .int .i64 ((n - p : Nat) : Int)] 95))
    generalize w2.alloc (.cells #[.int .i64 (r : Nat), .int .i64 (bb : Nat), .int .i64 ((n - p : Nat) : Int)] 95) = w3 at *
    generalize w2.heap.size = s at *
    have hws : w.heap.size ≠ s := by omega
    have hS4 := HS3.out.set 0 (.int .i64 ((r : Int) + 257))
    have hQ4 := HQ3.out.setFar (a := ⟨s, 0, none⟩) (.int .i64 ((r : Int) + 257)) hws
    have HU4 := Lib.hid (HU3.out.setCell (p := ⟨s, 0, none⟩) (.inr (by show w.heap.size ≤ s; omega)) (.int .i64 ((r : Int) + 257)))
    have k0 := HS3.out.cell 0 rfl
    have k1 := hS4.cell 1 rfl
    have k2 := hS4.cell 2 rfl
    have k00 := hS4.cell 0 rfl
    have kf := HS3.out.frz 0
    have f0 := hQ4.frz 0
    have f1 := hQ4.frz 1
    have f2 := hQ4.frz 2
    have c0 := hQ4.cell 0 rfl
    have c1 := hQ4.cell 1 rfl
    have c2 := hQ4.cell 2 rfl
    have HQ4 := Lib.hid hQ4
    clear hS4 hQ4
    go_wp2
    have hB9 := ((HQ4.out.set 0 (.int .i64 ((r : Int) + 257))).set 1 (.int .i64 (bb : Nat))).set 2 (.int .i64 ((n - p : Nat) : Int))
    refine bodyPost_ret (results_rowT rfl _ _ w.heap.size _ _ _ _ (.bool true) (by simp [Act.put]) (by simp [Act.put]) hB9 Try.underlying95 rfl (by rw [infoSign]; rfl)) (by simp [Act.put]) ⟨r, HR.out, ?_, ?_⟩
    · rw [HLV.out, show ((257 + r : Nat) : Int) = (r : Int) + 257 by omega]; rfl
    · exact ((HU4.out.setCell (.inr (Nat.le_refl _)) _).setCell (.inr (Nat.le_refl _)) _).setCell (.inr (Nat.le_refl _)) _
end Go.Proofs.Ytdehkaknbmbieaa

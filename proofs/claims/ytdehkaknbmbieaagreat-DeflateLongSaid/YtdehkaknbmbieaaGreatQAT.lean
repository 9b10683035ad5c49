/- Package symbol: Long, Back: walks: they tell what the lists tell. -/
import Derived.Test.YtdehkaknbmbieaaGreatQAS
import Derived.Test.YtdehkaknbmbieaaGreatQAL
import Derived.Test.YtdehkaknbmbieaaGreatQAD
namespace Go.Proofs.YtdehkaknbmbieaaGreat
set_option linter.unusedVariables false
set_option linter.unusedSimpArgs false
set_option linter.unusedSectionVars false
open Go.RowKit
set_option linter.unusedVariables false
set_option linter.unusedSimpArgs false

theorem long_tab : ∀ k : Fin 28, (sbitsI 4 8 28 (k.val : Nat)).toNat = lBits.getD k.val 0 ∧ sbeg 3 4 8 28 k.val = lAt.getD k.val 0 := by decide +kernel
theorem long_find : ∀ n : Fin 259, 3 ≤ n.val → n.val ≠ 258 → findS 3 4 8 28 n.val 28 0 = findL n.val 29 0 ∧ ((findL n.val 29 0).getD 99) < 28 := by decide +kernel
theorem long_258 : findL 258 29 0 = some 28 := by decide +kernel
theorem back_tab : ∀ k : Fin 30, (sbitsI 2 4 30 (k.val : Nat)).toNat = dBt k.val ∧ sbeg 1 2 4 30 k.val = dAt.getD k.val 0 ∧ sbeg 1 2 4 30 k.val + 2 ^ (sbitsI 2 4 30 (k.val : Nat)).toNat = dAt.getD (k.val + 1) 0 := by decide +kernel
theorem back_find (n : Nat) : ∀ m i, i + m ≤ 30 → findS 1 2 4 30 n m i = findD n m i
  | 0, i, h => rfl
  | m + 1, i, h => by
    rw [findS_succ, findD_succ, back_find n m (i + 1) (by omega)]
    obtain ⟨_, h1, h2⟩ := back_tab ⟨i, by omega⟩
    have e : inS 1 2 4 30 n i ↔ isD n i := by
      unfold inS isD
      dsimp only at h1 h2
      rw [h1] at h2 ⊢
      rw [h2]
    by_cases h3 : isD n i
    · rw [if_pos h3, if_pos (e.2 h3)]
    · rw [if_neg h3, if_neg (fun q => h3 (e.1 q))]
set_option maxRecDepth 100000 in
set_option maxHeartbeats 3200000 in
theorem sback_any (n : Nat) (w : World) (h1 : 1 ≤ n) (h2 : n ≤ 32768) :
    Calls Tryz.prog 48 #[.int .i64 (n : Nat)] w fun e w' => ∃ i, findD n 30 0 = some i ∧ e = .returned (.tuple #[backV i n, .bool true]) ∧ Upd [] w w' := by
  obtain ⟨r, hr, hr30⟩ := findD_some n h1 h2
  have hs : signV 1 2 4 30 n r = backV r n := by
    obtain ⟨e1, e2, _⟩ := back_tab ⟨r, hr30⟩
    dsimp only at e1 e2
    unfold signV backV
    rw [e1, e2]
  have HSG := Lib.hid (fun w' => sign_any 1 2 4 30 n r w' (by decide) (by decide) (by decide) (by decide) (by decide) backS13 (by omega) (by rw [back_find n 30 0 (by omega)]; exact hr))
  rw [hs] at HSG
  unfold backV at HSG
  have HBV : Hid (backV r n = .agg #[.int .i64 (r : Nat), .int .i64 (dBt r : Nat), .int .i64 ((n - dAt.getD r 0 : Nat) : Int)]) := Lib.hid rfl
  have HR := Lib.hid hr
  generalize dAt.getD r 0 = p at *
  generalize dBt r = bb at *
  have HQ := Lib.hid (Blk.new w [.int .i64 0, .int .i64 0, .int .i64 0] 91)
  have HU := Lib.hid ((Upd.refl [] w).alloc (.cells #[.int .i64 0, .int .i64 0, .int .i64 0] 91))
  clear hs hr
  go_enter Tryz.func48, Tryz.ntmps48
  go_wp2_with fail
  refine (distances_any _).mono ?_
  rintro e w1 ⟨rfl, hU1⟩
  have HQ1 := Lib.hid (HQ.out.upd hU1 (by simp))
  have HU1 := Lib.hid (HU.out.then hU1)
  clear hU1
  go_wp2_with fail
  refine (HSG.out w1).mono ?_
  rintro e w2 ⟨rfl, hU2⟩
  have hQ2 := HQ1.out.upd hU2 (by simp)
  have HU2 := Lib.hid (HU1.out.then hU2)
  have f0 := hQ2.frz 0
  have f1 := hQ2.frz 1
  have f2 := hQ2.frz 2
  have c0 := hQ2.cell 0 rfl
  have c1 := hQ2.cell 1 rfl
  have c2 := hQ2.cell 2 rfl
  have HQ2 := Lib.hid hQ2
  clear hU2 hQ2
  go_wp2
  have hB9 := ((HQ2.out.set 0 (.int .i64 (r : Nat))).set 1 (.int .i64 (bb : Nat))).set 2 (.int .i64 ((n - p : Nat) : Int))
  refine bodyPost_ret (results_rowT rfl _ _ w.heap.size _ _ _ _ (.bool true) (by simp [Act.put]) (by simp [Act.put]) hB9 Tryz.underlying91 rfl (by rw [infoSign]; rfl)) (by simp [Act.put]) ⟨r, HR.out, ?_, ?_⟩
  · rw [HBV.out]; rfl
  · exact ((HU2.out.setCell (.inr (Nat.le_refl _)) _).setCell (.inr (Nat.le_refl _)) _).setCell (.inr (Nat.le_refl _)) _
set_option maxRecDepth 100000 in
set_option maxHeartbeats 3200000 in
theorem slong_any (n : Nat) (w : World) (h3 : 3 ≤ n) (h258 : n ≤ 258) :
    Calls Tryz.prog 47 #[.int .i64 (n : Nat)] w fun e w' => ∃ i, findL n 29 0 = some i ∧ e = .returned (.tuple #[longV i n, .bool true]) ∧ Upd [] w w' := by
  have HQ := Lib.hid (Blk.new w [.int .i64 0, .int .i64 0, .int .i64 0] 91)
  have HU := Lib.hid ((Upd.refl [] w).alloc (.cells #[.int .i64 0, .int .i64 0, .int .i64 0] 91))
  by_cases he : n = 258
  · subst he
    have HLV : Hid (longV 28 258 = .agg #[.int .i64 285, .int .i64 0, .int .i64 0]) := Lib.hid rfl
    go_enter Tryz.func47, Tryz.ntmps47
    go_wp2
    have hB9 := Blk.new w [.int .i64 285, .int .i64 0, .int .i64 0] 91
    refine bodyPost_ret (results_rowT rfl _ _ w.heap.size _ _ _ _ (.bool true) (by simp [Act.put]) (by simp [Act.put]) hB9 Tryz.underlying91 rfl (by rw [infoSign]; rfl)) (by simp [Act.put]) ⟨28, long_258, ?_, ?_⟩
    · rw [HLV.out]
    · exact (Upd.refl [] w).alloc _
  · have hez : ¬ (n : Int) = 258 := by omega
    obtain ⟨hf, hlt⟩ := long_find ⟨n, by omega⟩ h3 he
    dsimp only at hf hlt
    obtain ⟨r, hr⟩ : ∃ r, findL n 29 0 = some r := by
      cases h : findL n 29 0 with
      | none => rw [h] at hlt; simp at hlt
      | some r => exact ⟨r, rfl⟩
    rw [hr] at hf hlt
    have hr28 : r < 28 := hlt
    obtain ⟨e1, e2⟩ := long_tab ⟨r, hr28⟩
    dsimp only at e1 e2
    have HSG := Lib.hid (fun w' => sign_any 3 4 8 28 n r w' (by decide) (by decide) (by decide) (by decide) (by decide) longS13 (by omega) hf)
    unfold signV at HSG
    rw [e1, e2] at HSG
    have HLV : Hid (longV r n = .agg #[.int .i64 ((257 + r : Nat) : Int), .int .i64 (lBits.getD r 0 : Nat), .int .i64 ((n - lAt.getD r 0 : Nat) : Int)]) := Lib.hid rfl
    have HR := Lib.hid hr
    generalize lAt.getD r 0 = p at *
    generalize lBits.getD r 0 = bb at *
    have hwr : IntKind.i64.wrap ((r : Int) + 257) = (r : Int) + 257 := IntWalk.i64_in _ (by omega)
    clear e1 e2 hf hr hlt he
    go_enter Tryz.func47, Tryz.ntmps47
    go_wp2_with fail
    refine (longs_any _).mono ?_
    rintro e w1 ⟨rfl, hU1⟩
    have HQ1 := Lib.hid (HQ.out.upd hU1 (by simp))
    have HU1 := Lib.hid (HU.out.then hU1)
    clear hU1
    go_wp2_with fail
    refine (HSG.out w1).mono ?_
    rintro e w2 ⟨rfl, hU2⟩
    have hQ2 := HQ1.out.upd hU2 (by simp)
    have HU2 := Lib.hid (HU1.out.then hU2)
    have hs2 : w.heap.size + 1 ≤ w2.heap.size := by have := HU.out.size; have := (HQ1.out.upd hU2 (by simp)).lt; omega
    have hQ3 := hQ2.alloc (.cells #[.int .i64 (r : Nat), .int .i64 (bb : Nat), .int .i64 ((n - p : Nat) : Int)] 91)
    have hS3 := Blk.new w2 [.int .i64 (r : Nat), .int .i64 (bb : Nat), .int .i64 ((n - p : Nat) : Int)] 91
    have hU3 := HU2.out.alloc (.cells #[.int .i64 (r : Nat), .int .i64 (bb : Nat), .int .i64 ((n - p : Nat) : Int)] 91)
    have HQ3 := Lib.hid hQ3
    have HS3 := Lib.hid hS3
    have HU3 := Lib.hid hU3
    clear hU2 hQ2 hQ3 hS3 hU3
    go_upto_region 4 with fail
    change Code.wp _ _ _ _ (w2.alloc (.cells #[.int .i64 (r : Nat), .int .i64 (bb : Nat), .int .i64 ((n - p : Nat) : Int)] 91))
    generalize w2.alloc (.cells #[.int .i64 (r : Nat), .int .i64 (bb : Nat), .int .i64 ((n - p : Nat) : Int)] 91) = w3 at *
    generalize w2.heap.size = s at *
    have hws : w.heap.size ≠ s := by omega
    have hS4 := HS3.out.set 0 (.int .i64 ((r : Int) + 257))
    have hQ4 := HQ3.out.setFar (a := ⟨s, 0, none⟩) (.int .i64 ((r : Int) + 257)) hws
    have HU4 := Lib.hid (HU3.out.setCell (p := ⟨s, 0, none⟩) (.inr (by show w.heap.size ≤ s; omega)) (.int .i64 ((r : Int) + 257)))
    have k0 := HS3.out.cell 0 rfl
    have k1 := hS4.cell 1 rfl
    have k2 := hS4.cell 2 rfl
    have k00 := hS4.cell 0 rfl
    have kf := HS3.out.frz 0
    have f0 := hQ4.frz 0
    have f1 := hQ4.frz 1
    have f2 := hQ4.frz 2
    have c0 := hQ4.cell 0 rfl
    have c1 := hQ4.cell 1 rfl
    have c2 := hQ4.cell 2 rfl
    have HQ4 := Lib.hid hQ4
    clear hS4 hQ4
    go_wp2
    have hB9 := ((HQ4.out.set 0 (.int .i64 ((r : Int) + 257))).set 1 (.int .i64 (bb : Nat))).set 2 (.int .i64 ((n - p : Nat) : Int))
    refine bodyPost_ret (results_rowT rfl _ _ w.heap.size _ _ _ _ (.bool true) (by simp [Act.put]) (by simp [Act.put]) hB9 Tryz.underlying91 rfl (by rw [infoSign]; rfl)) (by simp [Act.put]) ⟨r, HR.out, ?_, ?_⟩
    · rw [HLV.out, show ((257 + r : Nat) : Int) = (r : Int) + 257 by omega]; rfl
    · exact ((HU4.out.setCell (.inr (Nat.le_refl _)) _).setCell (.inr (Nat.le_refl _)) _).setCell (.inr (Nat.le_refl _)) _
end Go.Proofs.YtdehkaknbmbieaaGreat
namespace Go.Proofs.YtdehkaknbmbieaaGreat
set_option linter.unusedVariables false
set_option linter.unusedSimpArgs false
set_option linter.unusedSectionVars false
open Go.RowKit
set_option linter.unusedVariables false
set_option linter.unusedSimpArgs false

def addAt (a : List Nat) (c : Nat) : List Nat := a.set c (a.getD c 0 + 1)
theorem addAt_len (a : List Nat) (c : Nat) : (addAt a c).length = a.length := by simp [addAt]
theorem addAt_le (a : List Nat) (c i : Nat) (h : ∀ x ∈ a, x ≤ i) : ∀ x ∈ addAt a c, x ≤ i + 1 := by
  intro x hx
  unfold addAt at hx
  rcases List.mem_or_eq_of_mem_set hx with h1 | h1
  · have := h x h1; omega
  · rw [h1, List.getD_eq_getElem?_getD]
    cases h2 : a[c]? with
    | none => simp
    | some y => have := h y (List.mem_of_getElem? h2); simp; omega
def litC (t : Tok) : Nat := if t.long = 0 then t.byte else 257 + (findL t.long.toNat 29 0).getD 0
def bakC (t : Tok) : Nat := (findD t.back.toNat 30 0).getD 0
def stepM (p : List Nat × List Nat) (t : Tok) : List Nat × List Nat := (addAt p.1 (litC t), if t.long = 0 then p.2 else addAt p.2 (bakC t))
def manyF (l : List Tok) : List Nat × List Nat := l.foldl stepM ((List.replicate 286 0).set 256 1, List.replicate 30 0)
theorem manyF_snoc (l : List Tok) (t : Tok) : manyF (l ++ [t]) = stepM (manyF l) t := by unfold manyF; rw [List.foldl_append]; rfl
structure ManyOk (p : List Nat × List Nat) (i : Nat) : Prop where
  la : p.1.length = 286
  lb : p.2.length = 30
  ba : ∀ x ∈ p.1, x ≤ i + 1
  bb : ∀ x ∈ p.2, x ≤ i + 1
theorem ManyOk.step {p : List Nat × List Nat} {i : Nat} (h : ManyOk p i) (t : Tok) : ManyOk (stepM p t) (i + 1) := by
  unfold stepM
  refine ⟨by rw [addAt_len]; exact h.la, ?_, addAt_le _ _ _ h.ba, ?_⟩
  · dsimp only
    split
    · exact h.lb
    · rw [addAt_len]; exact h.lb
  · dsimp only
    split
    · intro x hx; have := h.bb x hx; omega
    · exact addAt_le _ _ _ h.bb
theorem manyF_nil : manyF [] = ((List.replicate 286 0).set 256 1, List.replicate 30 0) := rfl
theorem ManyOk.nil : ManyOk (manyF []) 0 := by
  rw [manyF_nil]
  refine ⟨by rw [List.length_set, List.length_replicate], List.length_replicate, ?_, ?_⟩
  · intro x hx
    rcases List.mem_or_eq_of_mem_set hx with h1 | h1
    · have := List.eq_of_mem_replicate h1; omega
    · omega
  · intro x hx
    have := List.eq_of_mem_replicate hx
    omega
theorem many_ok (l : List Tok) : ∀ i, i ≤ l.length → ManyOk (manyF (l.take i)) i
  | 0, _ => ManyOk.nil
  | i + 1, h => by
    rw [List.take_succ_eq_append_getElem (show i < l.length by omega), manyF_snoc]
    exact (many_ok l i (by omega)).step _
theorem findL_lt : ∀ n : Fin 259, 3 ≤ n.val → (findL n.val 29 0).getD 99 < 29 := by decide +kernel
def ManyP (l : List Tok) (w : World) (e : Ending) (w' : World) : Prop := ∃ oa ob, e = .returned (.tuple #[.slice (some ⟨oa, 0, none⟩) 286 286, .slice (some ⟨ob, 0, none⟩) 30 30]) ∧ Blk w' oa (i64s (manyF l).1) 3 ∧ Blk w' ob (i64s (manyF l).2) 3 ∧ w.heap.size ≤ oa ∧ w.heap.size ≤ ob ∧ oa ≠ ob ∧ Upd [] w w'
set_option maxRecDepth 100000 in
set_option maxHeartbeats 6400000 in
theorem many_any (l : List Tok) (a : Option Addr) (n cap : Nat) (w : World) (hI : TokIn w a n l) (hn : n ≤ 100000) (hok : ∀ t ∈ l, okTok t) :
    Calls Tryz.prog 49 #[.slice a n cap] w fun e w' => ManyP l w e w' := by
  have HI := Lib.hid hI
  have HLN := Lib.hid hI.len
  have HOK := Lib.hid hok
  have HMO := Lib.hid (many_ok l)
  clear hI hok
  obtain ⟨ZA, hZA⟩ : ∃ Z, List.replicate 286 0 = Z := ⟨_, rfl⟩
  obtain ⟨ZB, hZB⟩ : ∃ Z, List.replicate 30 0 = Z := ⟨_, rfl⟩
  have hm1 : ∀ w, (Instr.makeSlice 55 (.int .i64 286) (.int .i64 286)).run Tryz.prog w = .ok (.slice (some ⟨w.heap.size, 0, none⟩) 286 286) (w.alloc (.cells (i64s ZA).toArray 3)) := by rw [← hZA]; exact mkInts 286 (by omega)
  have hm2 : ∀ w, (Instr.makeSlice 55 (.int .i64 30) (.int .i64 30)).run Tryz.prog w = .ok (.slice (some ⟨w.heap.size, 0, none⟩) 30 30) (w.alloc (.cells (i64s ZB).toArray 3)) := by rw [← hZB]; exact mkInts 30 (by omega)
  have HZA := Lib.hid hZA
  have HZB := Lib.hid hZB
  clear hZA hZB
  go_enter Tryz.func49, Tryz.ntmps49
  go_upto_region 1 with fail
  go_cut [4, 5] (fun s4 s5 wx => ∃ oa ob, s4 = .slice (some ⟨oa, 0, none⟩) 286 286 ∧ s5 = .slice (some ⟨ob, 0, none⟩) 30 30 ∧ Hid (Blk wx oa (i64s ZA) 3) ∧ Hid (Blk wx ob (i64s ZB) 3) ∧ Hid (w.heap.size ≤ oa ∧ w.heap.size ≤ ob ∧ oa ≠ ob) ∧ Hid (Upd [] w wx))
  case first =>
    go_region
    all_goals go_wp2
    all_goals go_meet
    · have h2 := Blk.new (w.alloc (.cells (i64s ZA).toArray 3)) (i64s ZB) 3
      rw [World.size_alloc] at h2
      exact ⟨_, _, rfl, rfl, Lib.hid ((Blk.new w (i64s ZA) 3).alloc _).drew, Lib.hid h2.drew, Lib.hid ⟨Nat.le_refl _, Nat.le_succ _, by omega⟩, Lib.hid (((Upd.refl [] w).alloc _).alloc _).drew⟩
    · have h2 := Blk.new (w.alloc (.cells (i64s ZB).toArray 3)) (i64s ZA) 3
      rw [World.size_alloc] at h2
      exact ⟨_, _, rfl, rfl, Lib.hid h2.drew, Lib.hid ((Blk.new w (i64s ZB) 3).alloc _).drew, Lib.hid ⟨Nat.le_succ _, Nat.le_refl _, by omega⟩, Lib.hid (((Upd.refl [] w).alloc _).alloc _).drew⟩
  case rest =>
    obtain ⟨oa, ob, rfl, rfl, HBA, HBB, HNE, HUx⟩ := hcut
    have hne := HNE.out.2.2
    have c256 := HBA.out.cell 256 (i64s_get ZA 256 0 (by rw [← HZA.out, List.getElem?_replicate]; rfl))
    have f256 := HBA.out.frz 256
    have HA1 : Hid (Blk (wc.setCell ⟨oa, 256, none⟩ (.int .i64 1)) oa (i64s (manyF (l.take 0)).1) 3) := Lib.hid (by
      have h := HBA.out.set 256 (.int .i64 1)
      rw [List.take_zero, manyF_nil, HZA.out]
      rw [i64s_set]
      exact h)
    have HB1 : Hid (Blk (wc.setCell ⟨oa, 256, none⟩ (.int .i64 1)) ob (i64s (manyF (l.take 0)).2) 3) := Lib.hid (by
      rw [List.take_zero, manyF_nil, HZB.out]
      exact HBB.out.setFar (a := ⟨oa, 256, none⟩) _ (Ne.symm hne))
    have HU1 : Hid (Upd [] w (wc.setCell ⟨oa, 256, none⟩ (.int .i64 1))) := Lib.hid (HUx.out.setCell (.inr HNE.out.1) _)
    clear HBA HBB HUx hm1 hm2
    go_wp2
    generalize wc.setCell ⟨oa, 256, none⟩ (.int .i64 1) = w1 at *
    clear c256 f256
    go_loopg [18] 200000 (fun gg s18 wr => ∃ i : Nat, i ≤ n ∧ gg = 200000 - i ∧ s18 = .int .i64 (i : Nat) ∧ Hid (Blk wr oa (i64s (manyF (l.take i)).1) 3) ∧ Hid (Blk wr ob (i64s (manyF (l.take i)).2) 3) ∧ Hid (Upd [] w wr))
    case atStart => exact ⟨0, by omega, by omega, rfl, HA1, HB1, HU1⟩
    case round =>
      obtain ⟨i, hin, rfl, rfl, HA, HB, HU⟩ := hrel
      by_cases hc : i < n
      · have hcz : (i : Int) < (n : Int) := by omega
        have hil : i < l.length := by rw [HLN.out]; exact hc
        have hw1 : IntKind.i64.wrap ((i : Int) + 1) = ((i + 1 : Nat) : Int) := by rw [IntWalk.i64_in _ (by omega)]; rfl
        obtain ⟨b, off, rfl, ⟨hc1, hc2, hc3⟩, r1, r2, r3⟩ := (HI.out.pure HU.out).cell i hil
        have HST : Hid (manyF (l.take (i + 1)) = stepM (manyF (l.take i)) l[i]) := Lib.hid (by rw [List.take_succ_eq_append_getElem hil, manyF_snoc])
        have hot := HOK.out l[i] (List.getElem_mem hil)
        have HMk := Lib.hid (HMO.out i (by omega))
        generalize l[i] = t at *
        generalize manyF (l.take i) = p at *
        obtain ⟨pa, pb⟩ := p
        obtain ⟨tb, tl, tk⟩ := t
        dsimp only at hc1 hc2 hc3 r1 r2 r3
        have hT4 := Blk.new wr [.int .u8 (tb : Nat), .int .i64 tl, .int .i64 tk] 49
        have hU4 := HU.out.alloc (.cells #[.int .u8 (tb : Nat), .int .i64 tl, .int .i64 tk] 49)
        have hA4 := HA.out.alloc (.cells #[.int .u8 (tb : Nat), .int .i64 tl, .int .i64 tk] 49)
        have hB4 := HB.out.alloc (.cells #[.int .u8 (tb : Nat), .int .i64 tl, .int .i64 tk] 49)
        have hog : oa < wr.heap.size ∧ ob < wr.heap.size := ⟨HA.out.lt, HB.out.lt⟩
        clear hil HA HB HU
        go_upto_region 6 with fail
        change Code.wp _ _ _ _ (wr.alloc (.cells #[.int .u8 (tb : Nat), .int .i64 tl, .int .i64 tk] 49))
        generalize wr.alloc (.cells #[.int .u8 (tb : Nat), .int .i64 tl, .int .i64 tk] 49) = w4 at *
        generalize wr.heap.size = g at *
        have t0 := hT4.cell 0 rfl
        have t1 := hT4.cell 1 rfl
        have t2 := hT4.cell 2 rfl
        have HU4 := Lib.hid hU4
        have HT4 := Lib.hid hT4
        have HA4 := Lib.hid hA4
        have HB4 := Lib.hid hB4
        clear hT4 hU4 hA4 hB4 hc1 hc2 hc3
        have hgu : w.heap.size ≤ oa ∧ w.heap.size ≤ ob := ⟨HNE.out.1, HNE.out.2.1⟩
        have hla := HMk.out.la
        have hlb := HMk.out.lb
        have hba := HMk.out.ba
        have hbb := HMk.out.bb
        dsimp only at hla hlb hba hbb
        by_cases h0 : tl = 0
        · have hb256 : tb < 286 := by unfold okTok at hot; dsimp only at hot; omega
          have hcl : litC ⟨tb, tl, tk⟩ = tb := by unfold litC; rw [if_pos h0]
          have hS2 : stepM (pa, pb) ⟨tb, tl, tk⟩ = (addAt pa tb, pb) := by unfold stepM; rw [hcl]; dsimp only; rw [if_pos h0]
          have hgt : pa[tb]? = some (pa.getD tb 0) := by rw [List.getD_eq_getElem?_getD, List.getElem?_eq_getElem (by omega)]; rfl
          have hle : pa.getD tb 0 ≤ i + 1 := hba _ (List.mem_of_getElem? hgt)
          have ca := HA4.out.cell tb (i64s_get pa tb _ hgt)
          have fa := HA4.out.frz tb
          have HAd : Hid (addAt pa tb = pa.set tb (pa.getD tb 0 + 1)) := Lib.hid rfl
          generalize pa.getD tb 0 = y at *
          have hwy : IntKind.i64.wrap ((y : Int) + 1) = ((y + 1 : Nat) : Int) := by rw [IntWalk.i64_in _ (by omega)]; rfl
          have htz : (tb : Int) < 286 := by omega
          have HA5 : Hid (Blk (w4.setCell ⟨oa, tb, none⟩ (.int .i64 ((y + 1 : Nat) : Int))) oa (i64s (manyF (l.take (i + 1))).1) 3) := Lib.hid (by
            rw [HST.out, hS2]
            dsimp only
            rw [HAd.out, i64s_set]
            exact HA4.out.set tb _)
          have HB5 : Hid (Blk (w4.setCell ⟨oa, tb, none⟩ (.int .i64 ((y + 1 : Nat) : Int))) ob (i64s (manyF (l.take (i + 1))).2) 3) := Lib.hid (by
            rw [HST.out, hS2]
            exact HB4.out.setFar (a := ⟨oa, tb, none⟩) _ (Ne.symm hne))
          have HU5 := Lib.hid (HU4.out.setCell (p := ⟨oa, tb, none⟩) (.inr hgu.1) (.int .i64 ((y + 1 : Nat) : Int)))
          subst h0
          clear hot hla hlb hba hbb hcl hS2 hgt HMk HT4 HA4 HB4 HU4
          go_wp2
          go_roundg (200000 - (i + 1))
          · exact ⟨i + 1, by omega, by first | rfl | omega, by first | rfl | go_num, HA5, HB5, HU5⟩
          · omega
        · have hot2 : 3 ≤ tl ∧ tl ≤ 258 ∧ 1 ≤ tk ∧ tk ≤ 32768 := by unfold okTok at hot; dsimp only at hot; omega
          obtain ⟨L, rfl⟩ : ∃ L : Nat, tl = (L : Int) := ⟨tl.toNat, by omega⟩
          obtain ⟨K, rfl⟩ : ∃ K : Nat, tk = (K : Int) := ⟨tk.toNat, by omega⟩
          have HSL := Lib.hid (fun w' => slong_any L w' (by omega) (by omega))
          have HSB := Lib.hid (fun w' => sback_any K w' (by omega) (by omega))
          have hS2 : stepM (pa, pb) ⟨tb, (L : Int), (K : Int)⟩ = (addAt pa (257 + (findL L 29 0).getD 0), addAt pb ((findD K 30 0).getD 0)) := by
            unfold stepM litC bakC
            dsimp only
            rw [if_neg h0, if_neg h0, Int.toNat_natCast, Int.toNat_natCast]
          have HS2 := Lib.hid hS2
          have hL29 := findL_lt ⟨L, by omega⟩ (by omega : 3 ≤ L)
          dsimp only at hL29
          have h0b : ((L : Int) == 0) = false := by simpa using h0
          have hK : 1 ≤ K ∧ K ≤ 32768 := by omega
          clear hS2 hot hot2
          go_wp2_with fail
          refine (HSL.out _).mono ?_
          rintro e w5 ⟨x, hx, rfl, hU5⟩
          rw [hx] at hL29
          have hx29 : x < 29 := hL29
          have HX := Lib.hid hx
          have HT5 := Lib.hid (HT4.out.upd hU5 (by simp))
          have HA5 := Lib.hid (HA4.out.upd hU5 (by simp))
          have HB5 := Lib.hid (HB4.out.upd hU5 (by simp))
          have HU5 := Lib.hid (HU4.out.then hU5)
          have hs5 := hU5.size
          have hg4 := HT4.out.lt
          clear hx hL29 hU5 HT4 HA4 HB4 HU4 t0 t1 t2 HSL
          unfold longV
          generalize lBits.getD x 0 = xb at *
          generalize L - lAt.getD x 0 = xm at *
          obtain ⟨c, hcc⟩ : ∃ c, 257 + x = c := ⟨_, rfl⟩
          rw [hcc]
          have HCC := Lib.hid hcc
          have hc286 : c < 286 := by omega
          clear hcc
          have hT6 := HT5.out.alloc (.cells #[.int .i64 (c : Nat), .int .i64 (xb : Nat), .int .i64 (xm : Nat)] 91)
          have hA6 := HA5.out.alloc (.cells #[.int .i64 (c : Nat), .int .i64 (xb : Nat), .int .i64 (xm : Nat)] 91)
          have hB6 := HB5.out.alloc (.cells #[.int .i64 (c : Nat), .int .i64 (xb : Nat), .int .i64 (xm : Nat)] 91)
          have hU6 := HU5.out.alloc (.cells #[.int .i64 (c : Nat), .int .i64 (xb : Nat), .int .i64 (xm : Nat)] 91)
          have hQ6 := Blk.new w5 [.int .i64 (c : Nat), .int .i64 (xb : Nat), .int .i64 (xm : Nat)] 91
          have hs6 : (w5.alloc (.cells #[.int .i64 (c : Nat), .int .i64 (xb : Nat), .int .i64 (xm : Nat)] 91)).heap.size = w5.heap.size + 1 := World.size_alloc _ _
          clear HT5 HA5 HB5 HU5
          go_upto_region 9 with fail
          change Code.wp _ _ _ _ (w5.alloc (.cells #[.int .i64 (c : Nat), .int .i64 (xb : Nat), .int .i64 (xm : Nat)] 91))
          generalize w5.alloc (.cells #[.int .i64 (c : Nat), .int .i64 (xb : Nat), .int .i64 (xm : Nat)] 91) = w6 at *
          generalize w5.heap.size = s1 at *
          have t2 := hT6.cell 2 rfl
          have HA6 := Lib.hid hA6
          have HB6 := Lib.hid hB6
          have HU6 := Lib.hid hU6
          have HQ6 := Lib.hid hQ6
          clear hT6 hA6 hB6 hU6 hQ6
          go_wp2_with fail
          refine (HSB.out _).mono ?_
          rintro e w7 ⟨z, hz, rfl, hU7⟩
          have HZ := Lib.hid hz
          have hz30 : z < 30 := by
            obtain ⟨r, h1, h2⟩ := findD_some K hK.1 hK.2
            rw [hz] at h1
            cases h1
            exact h2
          have HA7 := Lib.hid (HA6.out.upd hU7 (by simp))
          have HB7 := Lib.hid (HB6.out.upd hU7 (by simp))
          have HU7 := Lib.hid (HU6.out.then hU7)
          have HQ7 := Lib.hid (HQ6.out.upd hU7 (by simp))
          have hs7 := hU7.size
          clear hz hU7 HA6 HB6 HU6 HQ6 t2 HSB
          unfold backV
          generalize dBt z = zb at *
          generalize K - dAt.getD z 0 = zm at *
          have hA8 := HA7.out.alloc (.cells #[.int .i64 (z : Nat), .int .i64 (zb : Nat), .int .i64 (zm : Nat)] 91)
          have hB8 := HB7.out.alloc (.cells #[.int .i64 (z : Nat), .int .i64 (zb : Nat), .int .i64 (zm : Nat)] 91)
          have hU8 := HU7.out.alloc (.cells #[.int .i64 (z : Nat), .int .i64 (zb : Nat), .int .i64 (zm : Nat)] 91)
          have hQ8 := HQ7.out.alloc (.cells #[.int .i64 (z : Nat), .int .i64 (zb : Nat), .int .i64 (zm : Nat)] 91)
          have hR8 := Blk.new w7 [.int .i64 (z : Nat), .int .i64 (zb : Nat), .int .i64 (zm : Nat)] 91
          clear HA7 HB7 HU7 HQ7
          go_upto_region 10 with fail
          change Code.wp _ _ _ _ (w7.alloc (.cells #[.int .i64 (z : Nat), .int .i64 (zb : Nat), .int .i64 (zm : Nat)] 91))
          generalize w7.alloc (.cells #[.int .i64 (z : Nat), .int .i64 (zb : Nat), .int .i64 (zm : Nat)] 91) = w8 at *
          generalize w7.heap.size = s2 at *
          have hgt : pa[c]? = some (pa.getD c 0) := by rw [List.getD_eq_getElem?_getD, List.getElem?_eq_getElem (by omega)]; rfl
          have hgb : pb[z]? = some (pb.getD z 0) := by rw [List.getD_eq_getElem?_getD, List.getElem?_eq_getElem (by omega)]; rfl
          have hle : pa.getD c 0 ≤ i + 1 := hba _ (List.mem_of_getElem? hgt)
          have hlz : pb.getD z 0 ≤ i + 1 := hbb _ (List.mem_of_getElem? hgb)
          have ca := hA8.cell c (i64s_get pa c _ hgt)
          have fa := hA8.frz c
          have q0 := hQ8.cell 0 rfl
          have HAd : Hid (addAt pa c = pa.set c (pa.getD c 0 + 1)) := Lib.hid rfl
          have HBd : Hid (addAt pb z = pb.set z (pb.getD z 0 + 1)) := Lib.hid rfl
          have HS3 : Hid (manyF (l.take (i + 1)) = (addAt pa c, addAt pb z)) := Lib.hid (by rw [HST.out, HS2.out, HX.out, HZ.out, ← HCC.out]; rfl)
          have hbz := i64s_get pb z _ hgb
          generalize pa.getD c 0 = y at *
          generalize pb.getD z 0 = yb at *
          have hwy : IntKind.i64.wrap ((y : Int) + 1) = (y : Int) + 1 := IntWalk.i64_in _ (by omega)
          have hwb : IntKind.i64.wrap ((yb : Int) + 1) = (yb : Int) + 1 := IntWalk.i64_in _ (by omega)
          have hcz2 : (c : Int) < 286 := by omega
          have hzz : (z : Int) < 30 := by omega
          have hA9 := hA8.set c (.int .i64 ((y : Int) + 1))
          have hB9 := hB8.setFar (a := ⟨oa, c, none⟩) (.int .i64 ((y : Int) + 1)) (Ne.symm hne)
          have hR9 := hR8.setFar (a := ⟨oa, c, none⟩) (.int .i64 ((y : Int) + 1)) (by show s2 ≠ oa; omega)
          have r0 := hR9.cell 0 rfl
          have cb := hB9.cell z hbz
          have fb := hB9.frz z
          have HA10 : Hid (Blk ((w8.setCell ⟨oa, c, none⟩ (.int .i64 ((y : Int) + 1))).setCell ⟨ob, z, none⟩ (.int .i64 ((yb : Int) + 1))) oa (i64s (manyF (l.take (i + 1))).1) 3) := Lib.hid (by
            rw [HS3.out]
            dsimp only
            rw [HAd.out, i64s_set]
            exact hA9.setFar (a := ⟨ob, z, none⟩) _ hne)
          have HB10 : Hid (Blk ((w8.setCell ⟨oa, c, none⟩ (.int .i64 ((y : Int) + 1))).setCell ⟨ob, z, none⟩ (.int .i64 ((yb : Int) + 1))) ob (i64s (manyF (l.take (i + 1))).2) 3) := Lib.hid (by
            rw [HS3.out]
            dsimp only
            rw [HBd.out, i64s_set]
            exact hB9.set z _)
          have HU10 := Lib.hid ((hU8.setCell (p := ⟨oa, c, none⟩) (.inr hgu.1) (.int .i64 ((y : Int) + 1))).setCell (p := ⟨ob, z, none⟩) (.inr hgu.2) (.int .i64 ((yb : Int) + 1)))
          clear hA8 hB8 hU8 hQ8 hR8 hA9 hB9 hR9 hbz hgt hgb hla hlb hba hbb HMk
          go_wp2
          go_roundg (200000 - (i + 1))
          · exact ⟨i + 1, by omega, by first | rfl | omega, by first | rfl | go_num, HA10, HB10, HU10⟩
          · omega
      · have hcz : ¬ (i : Int) < (n : Int) := by omega
        obtain rfl : i = n := by omega
        have htk : l.take i = l := List.take_of_length_le (by rw [HLN.out]; exact Nat.le_refl _)
        rw [htk] at HA HB
        clear htk
        go_wp2
        go_returns
        exact ⟨oa, ob, rfl, HA.out, HB.out, HNE.out.1, HNE.out.2.1, HNE.out.2.2, HU.out⟩
end Go.Proofs.YtdehkaknbmbieaaGreat

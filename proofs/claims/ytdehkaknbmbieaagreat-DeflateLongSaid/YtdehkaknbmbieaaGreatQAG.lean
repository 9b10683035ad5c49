/- Package lens: the coins of a row, counted: its walk. -/
import Derived.Laws.EntriesVeiled
import Derived.WalkSpells
import Derived.Lib.SliceRun
import Derived.Test.YtdehkaknbmbieaaGreatQAF
import Derived.Test.YtdehkaknbmbieaaGreatQAC
namespace Go.Proofs.YtdehkaknbmbieaaGreat
set_option linter.unusedVariables false
set_option linter.unusedSimpArgs false
set_option linter.unusedSectionVars false
open Go.RowKit
set_option linter.unusedVariables false
set_option linter.unusedSimpArgs false

def addL (L : List Nat) : Coin → List Nat
  | .leaf _ s => L.set s (L.getD s 0 + 1)
  | .pack a b => addL (addL L a) b
theorem addL_len : ∀ (c : Coin) (L : List Nat), (addL L c).length = L.length
  | .leaf _ s, L => by simp [addL]
  | .pack a b, L => by rw [addL, addL_len b, addL_len a]
theorem addL_get : ∀ (c : Coin) (L : List Nat) (s : Nat), s < L.length → (addL L c).getD s 0 = L.getD s 0 + c.cnt s
  | .leaf _ q, L, s, h => by
    simp only [addL, Coin.cnt]
    by_cases e : q = s
    · subst e; simp [List.getD_eq_getElem?_getD, h]
    · simp [List.getD_eq_getElem?_getD, List.getElem?_set, e]
  | .pack a b, L, s, h => by
    rw [addL, addL_get b _ s (by rw [addL_len]; exact h), addL_get a L s h]
    simp only [Coin.cnt]; omega
/-- How many leaves a coin has. -/
def Coin.many : Coin → Nat
  | .leaf _ _ => 1
  | .pack a b => a.many + b.many
/-- Its symbols are below n. -/
def Coin.syms (n : Nat) : Coin → Prop
  | .leaf _ s => s < n
  | .pack a b => a.syms n ∧ b.syms n
theorem Blk.neT {w : World} {b b' : Nat} {cs cs' : List Value} {t t' : TypeId} (h : Blk w b cs t) (h' : Blk w b' cs' t') (ht : t ≠ t') : b ≠ b' := by
  intro e
  subst e
  unfold Blk at h h'
  rw [h] at h'
  simp at h'
  exact ht h'.2
set_option maxRecDepth 100000 in
set_option maxHeartbeats 6400000 in
theorem count_leaf (wt s : Nat) (p : Value) (L : List Nat) (n cap bx bc ob : Nat) (w : World) (hc : CoinAt w p (.leaf wt s)) (hs : s < n) (hL : L.length = n) (hB : Blk w ob (i64s L) 3) (hx : Blk w bx [.slice (some ⟨ob, 0, none⟩) n cap] 55) (hv : L.getD s 0 ≤ 1000000) :
    Calls Tryz.prog 125 #[p, .pointer (some ⟨bx, 0, none⟩), .pointer (some ⟨bc, 0, none⟩)] w fun e w' => e = .returned (.tuple #[]) ∧ Blk w' ob (i64s (addL L (.leaf wt s))) 3 ∧ Upd [ob] w w' := by
  obtain ⟨b, rfl, hb⟩ := hc
  have x0 := hx.cell 0 rfl
  have b1 := hb.cell 1 rfl
  have b2 := hb.cell 2 rfl
  have hn1 : b ≠ ob := hb.neT hB (by decide)
  have hn2 : bx ≠ ob := hx.neT hB (by decide)
  have hsl : s < L.length := by omega
  have hget : L.getD s 0 = L[s] := by simp [List.getD_eq_getElem?_getD, hsl]
  have o0 := hB.cell s (i64s_get L s L[s] (List.getElem?_eq_getElem hsl))
  have of := hB.frz s
  have HA : Hid (addL L (.leaf wt s) = L.set s (L[s] + 1)) := Lib.hid (by simp only [addL]; rw [hget])
  rw [hget] at hv
  generalize L[s] = q at *
  have HB := Lib.hid hB
  have HN1 := Lib.hid hn1
  have b2' : (w.setCell ⟨ob, s, none⟩ (.int .i64 ((q : Int) + 1))).cell? ⟨b, 2, none⟩ = some (.slice none 0 0) := (hb.setFar (a := ⟨ob, s, none⟩) _ hn1).cell 2 rfl
  have x0s : (w.setCell ⟨ob, s, none⟩ (.int .i64 ((q : Int) + 1))).drew.cell? ⟨bx, 0, none⟩ = some (.slice (some ⟨ob, 0, none⟩) n cap) := (hx.setFar (a := ⟨ob, s, none⟩) _ hn2).drew.cell 0 rfl
  have b1s : (w.setCell ⟨ob, s, none⟩ (.int .i64 ((q : Int) + 1))).drew.cell? ⟨b, 1, none⟩ = some (.int .i64 (s : Nat)) := (hb.setFar (a := ⟨ob, s, none⟩) _ hn1).drew.cell 1 rfl
  have hsz : (s : Int) < (n : Int) := by omega
  have hw1 : IntKind.i64.wrap ((q : Int) + 1) = (q : Int) + 1 := IntWalk.i64_in _ (by omega)
  have hnil : ∀ w, (binOp .eql 165 (.slice none 0 0) (.slice none 0 0)).run Tryz.prog w = .ok (.bool true) w := fun w => Lib.run_eql_slice_nil w 165 166 none 0 0 0 0 Tryz.underlying165
  clear hb hx hB hn1 hn2 hget hsl
  go_enter Tryz.func125, Tryz.ntmps125
  go_wp2_with fail
  refine wp_region_held_drew (S := fun w' => w'.cell? ⟨bx, 0, none⟩ = some (.slice (some ⟨ob, 0, none⟩) n cap) ∧ w'.cell? ⟨b, 1, none⟩ = some (.int .i64 (s : Nat))) (by kernel_rfl) ⟨x0, b1⟩ (fun hHeld => ?_)
  change wpAnyH _ _ _ _ _ 10 #[false, false, false, false, false, false, false, false, false, false] _ _
  refine heldTake (i := 0) (d := some 11) (v := ?v0_1) rfl rfl (by kernel_rfl) (by kernel_rfl) (by kernel_rfl) (fun _ _ _ h => h) (by rfl) ?hy0_1 (by assumption) ?r0_1
  case hy0_1 => (intro w0 hSw; have q0 := hSw.1; go_simp; try with_reducible rfl)
  try simp only [Act.put, List.setIfInBounds_toArray, List.set_cons_zero, List.set_cons_succ]
  change wpAnyH _ _ _ _ _ 9 #[true, false, false, false, false, false, false, false, false, false] _ _
  refine heldTake (i := 1) (d := some 12) (v := ?v1_2) rfl rfl (by kernel_rfl) (by kernel_rfl) (by kernel_rfl) (fun _ _ _ h => h) (by rfl) ?hy1_2 (by assumption) ?r1_2
  case hy1_2 => (intro w hSw; (try dsimp only at hSw); go_simp; try with_reducible rfl)
  try simp only [Act.put, List.setIfInBounds_toArray, List.set_cons_zero, List.set_cons_succ]
  change wpAnyH _ _ _ _ _ 8 #[true, true, false, false, false, false, false, false, false, false] _ _
  refine heldTake (i := 2) (d := some 13) (v := ?v2_3) rfl rfl (by kernel_rfl) (by kernel_rfl) (by kernel_rfl) (fun _ _ _ h => h) (by rfl) ?hy2_3 (by assumption) ?r2_3
  case hy2_3 => (intro w hSw; (try dsimp only at hSw); go_simp; try with_reducible rfl)
  try simp only [Act.put, List.setIfInBounds_toArray, List.set_cons_zero, List.set_cons_succ]
  change wpAnyH _ _ _ _ _ 7 #[true, true, true, false, false, false, false, false, false, false] _ _
  refine heldTake (i := 3) (d := some 14) (v := ?v3_4) rfl rfl (by kernel_rfl) (by kernel_rfl) (by kernel_rfl) (fun _ _ _ h => h) (by rfl) ?hy3_4 (by assumption) ?r3_4
  case hy3_4 => (intro w hSw; (try dsimp only at hSw); go_simp; try with_reducible rfl)
  try simp only [Act.put, List.setIfInBounds_toArray, List.set_cons_zero, List.set_cons_succ]
  change wpAnyH _ _ _ _ _ 6 #[true, true, true, true, false, false, false, false, false, false] _ _
  refine heldTake (i := 4) (d := some 15) (v := ?v4_5) rfl rfl (by kernel_rfl) (by kernel_rfl) (by kernel_rfl) (fun _ _ _ h => h) (by rfl) ?hy4_5 (by assumption) ?r4_5
  case hy4_5 => (intro w0 hSw; have q0 := hSw.2; go_simp; try with_reducible rfl)
  try simp only [Act.put, List.setIfInBounds_toArray, List.set_cons_zero, List.set_cons_succ]
  change wpAnyH _ _ _ _ _ 5 #[true, true, true, true, true, false, false, false, false, false] _ _
  refine heldTake (i := 5) (d := some 16) (v := ?v5_6) rfl rfl (by kernel_rfl) (by kernel_rfl) (by kernel_rfl) (fun _ _ _ h => h) (by rfl) ?hy5_6 (by assumption) ?r5_6
  case hy5_6 => (intro w hSw; (try dsimp only at hSw); go_simp; try with_reducible rfl)
  try simp only [Act.put, List.setIfInBounds_toArray, List.set_cons_zero, List.set_cons_succ]
  change wpAnyH _ _ _ _ _ 4 #[true, true, true, true, true, true, false, false, false, false] _ _
  refine wpAnyH_ready (rs := [6]) (by kernel_rfl) (by simp) ?_
  refine AllReadyH.cons rfl (fun K hK => ?_) AllReadyH.nil
  go_simp
  skip
  go_wp2
  refine hK.out _ _ hHeld (fun hHeld => ?_)
  clear hK K
  try simp only [Act.put, List.setIfInBounds_toArray, List.set_cons_zero, List.set_cons_succ]
  change wpAnyH _ _ _ _ _ 3 #[true, true, true, true, true, true, true, false, false, false] _ _
  refine heldTake (i := 7) (d := some 18) (v := (.int .i64 ((q : Int) + 1))) rfl rfl (by kernel_rfl) (by kernel_rfl) (by kernel_rfl) (fun _ _ _ h => h) (by rfl) ?hy7_8 (by assumption) ?r7_8
  case hy7_8 => (intro w0 hSw; go_simp; all_goals rw [hw1])
  try simp only [Act.put, List.setIfInBounds_toArray, List.set_cons_zero, List.set_cons_succ]
  change wpAnyH _ _ _ _ _ 2 #[true, true, true, true, true, true, true, true, false, false] _ _
  refine heldTake (i := 8) (d := some 19) (v := ?v8_9) rfl rfl (by kernel_rfl) (by kernel_rfl) (by kernel_rfl) (fun _ _ _ h => h) (by rfl) ?hy8_9 (by assumption) ?r8_9
  case hy8_9 => (intro w hSw; (try dsimp only at hSw); go_simp; try with_reducible rfl)
  try simp only [Act.put, List.setIfInBounds_toArray, List.set_cons_zero, List.set_cons_succ]
  change wpAnyH _ _ _ _ _ 1 #[true, true, true, true, true, true, true, true, true, false] _ _
  refine wpAnyH_ready (rs := [9]) (by kernel_rfl) (by simp) ?_
  refine AllReadyH.cons rfl (fun K hK => ?_) AllReadyH.nil
  go_simp
  skip
  go_wp2
  refine hK.out _ _ ⟨x0s, b1s⟩ (fun hHeld => ?_)
  clear hK K
  try simp only [Act.put, List.setIfInBounds_toArray, List.set_cons_zero, List.set_cons_succ]
  change wpAnyH _ _ _ _ _ 0 #[true, true, true, true, true, true, true, true, true, true] _ _
  refine wpAnyH_done (by kernel_rfl) ?_ 0
  go_wp2
  refine wp_loop_rounds 1 ?_
  rw [rounds_succ]
  go_wp2
  go_end0
  refine ⟨rfl, ?_, ((Upd.refl _ _).setCell (.inl (by simp)) _).drew⟩
  rw [HA.out, i64s_set]
  exact (HB.out.set s _).drew
theorem addL_bd : ∀ (c : Coin) (L : List Nat) (s : Nat), (addL L c).getD s 0 ≤ L.getD s 0 + c.many
  | .leaf _ q, L, s => by
    simp only [addL, Coin.many]
    by_cases e : q = s
    · subst e
      by_cases h : q < L.length
      · simp [List.getD_eq_getElem?_getD, h]
      · simp [List.getD_eq_getElem?_getD, h]
    · simp [List.getD_eq_getElem?_getD, List.getElem?_set, e]
  | .pack a b, L, s => by
    have h1 := addL_bd a L s
    have h2 := addL_bd b (addL L a) s
    simp only [addL, Coin.many]; omega
set_option maxRecDepth 100000 in
set_option maxHeartbeats 6400000 in
theorem count_any (n cap bx bc ob : Nat) : ∀ (c : Coin) (p : Value) (L : List Nat) (w : World), CoinAt w p c → c.syms n → L.length = n → Blk w ob (i64s L) 3 → Blk w bx [.slice (some ⟨ob, 0, none⟩) n cap] 55 →
    Blk w bc [.func (.func 125) #[] #[.pointer (some ⟨bx, 0, none⟩), .pointer (some ⟨bc, 0, none⟩)]] 172 → (∀ s, L.getD s 0 + c.many ≤ 1000000) →
    Calls Tryz.prog 125 #[p, .pointer (some ⟨bx, 0, none⟩), .pointer (some ⟨bc, 0, none⟩)] w fun e w' => e = .returned (.tuple #[]) ∧ Blk w' ob (i64s (addL L c)) 3 ∧ Upd [ob] w w'
  | .leaf wt s, p, L, w, hc, hs, hL, hB, hx, hf, hv => count_leaf wt s p L n cap bx bc ob w hc hs hL hB hx (by have := hv s; omega)
  | .pack a d, p, L, w, hc, hs, hL, hB, hx, hf, hv => by
    have ih1 := count_any n cap bx bc ob a
    have ih2 := count_any n cap bx bc ob d
    obtain ⟨b, g, i, k, pa, pc, arr, fr, rfl, hb, hg, ha1, ha2, hca, hcd⟩ := hc
    have g1 : w.cell? ⟨g, i, none⟩ = some pa := by rw [cell_of_row w g i arr _ fr hg]; exact ha1
    have g2 : w.cell? ⟨g, i + 1, none⟩ = some pc := by rw [cell_of_row w g (i + 1) arr _ fr hg]; exact ha2
    have hgo : g ≠ ob := by
      intro e
      subst e
      unfold Blk at hB
      rw [hg] at hB
      simp at hB
    have hn1 : b ≠ ob := hb.neT hB (by decide)
    have hn2 : bx ≠ ob := hx.neT hB (by decide)
    have hn3 : bc ≠ ob := hf.neT hB (by decide)
    have I1 := Lib.hid (ih1 pa L w hca hs.1 hL hB hx hf (fun s => by have := hv s; simp only [Coin.many] at this; omega))
    have I2 := Lib.hid (fun (w1 : World) (h1 : Blk w1 ob (i64s (addL L a)) 3) (hu : Upd [ob] w w1) =>
      ih2 pc (addL L a) w1 (hcd.keep (KeepC.of_ints hB hu)) hs.2 (by rw [addL_len]; exact hL) h1 (hx.upd hu (by simpa using hn2)) (hf.upd hu (by simpa using hn3)) (fun s => by have := hv s; have := addL_bd a L s; simp only [Coin.many] at *; omega))
    have HBb := Lib.hid hb
    have HBf := Lib.hid hf
    have HG2 := Lib.hid g2
    have HNE := Lib.hid (And.intro hgo (And.intro hn1 hn3))
    have x2 := hb.cell 2 rfl
    have f0 := hf.cell 0 rfl
    have hnil : ∀ w, (binOp .eql 165 (.slice (some ⟨g, i, none⟩) 2 k) (.slice none 0 0)).run Tryz.prog w = .ok (.bool false) w := fun w => Lib.run_eql_slice_nil w 165 166 (some ⟨g, i, none⟩) 2 k 0 0 Tryz.underlying165
    have hA : Hid (addL L (.pack a d) = addL (addL L a) d) := Lib.hid rfl
    clear ih1 ih2 hca hcd hs hL hB hx hf hv hb hg ha1 ha2 g2 hgo hn1 hn2 hn3
    go_enter Tryz.func125, Tryz.ntmps125
    go_wp2
    refine wp_loop_rounds 3 ?_
    rw [rounds_succ]
    go_wp2_with fail
    refine I1.out.mono ?_
    rintro e w1 ⟨rfl, hB1, hU1⟩
    have f1 := (HBf.out.upd hU1 (by simpa using HNE.out.2.2)).cell 0 rfl
    have g2 : w1.cell? ⟨g, i + 1, none⟩ = some pc := (hU1.at (World.block_lt_of_cell? w _ HG2.out) (by simpa using HNE.out.1) (i + 1)).trans HG2.out
    have I3 := Lib.hid (I2.out w1 hB1 hU1)
    have HU1 := Lib.hid hU1
    clear hB1 hU1
    go_wp2
    rw [rounds_succ]
    go_wp2_with fail
    refine I3.out.mono ?_
    rintro e w2 ⟨rfl, hB2, hU2⟩
    have HB2 := Lib.hid hB2
    have HU2 := Lib.hid (HU1.out.then hU2)
    clear hB2 hU2
    go_wp2
    rw [rounds_succ]
    go_wp2
    go_end0
    exact ⟨rfl, by rw [hA.out]; exact HB2.out, HU2.out⟩
end Go.Proofs.YtdehkaknbmbieaaGreat
namespace Go.Proofs.YtdehkaknbmbieaaGreat
set_option linter.unusedVariables false
set_option linter.unusedSimpArgs false
set_option linter.unusedSectionVars false
set_option linter.unusedVariables false

theorem mergeC_mem {a b : List Coin} {c : Coin} (h : c ∈ mergeC a b) : c ∈ a ∨ c ∈ b := by
  unfold mergeC at h
  rwa [List.mem_merge] at h
theorem rowC_len (lv : List Coin) : ∀ j, (rowC lv j).length ≤ 2 * lv.length
  | 0 => by simp [rowC]
  | j + 1 => by
    have := rowC_len lv j
    rw [rowC, mergeC_length, packC_length]
    omega
theorem rowC_w (lv : List Coin) (W : Nat) (h : ∀ c ∈ lv, c.w ≤ W) : ∀ j, ∀ c ∈ rowC lv j, c.w ≤ W * 2 ^ j
  | 0, c, hc => by simp [rowC] at hc
  | j + 1, c, hc => by
    have h2 : W * 2 ^ (j + 1) = W * 2 ^ j + W * 2 ^ j := by rw [Nat.pow_succ, ← Nat.mul_assoc]; omega
    have h3 : W ≤ W * 2 ^ j := Nat.le_mul_of_pos_right _ (Nat.pow_pos (by omega))
    rcases mergeC_mem hc with hc | hc
    · have := h c hc; omega
    · obtain ⟨a, b, ha, hb, rfl⟩ := packC_mem hc
      have h4 := rowC_w lv W h j a ha
      have h5 := rowC_w lv W h j b hb
      show a.w + b.w ≤ _
      omega
theorem rowC_syms (lv : List Coin) (n : Nat) (h : ∀ c ∈ lv, c.syms n) : ∀ j, ∀ c ∈ rowC lv j, c.syms n
  | 0, c, hc => by simp [rowC] at hc
  | j + 1, c, hc => by
    rcases mergeC_mem hc with hc | hc
    · exact h c hc
    · obtain ⟨a, b, ha, hb, rfl⟩ := packC_mem hc
      exact ⟨rowC_syms lv n h j a ha, rowC_syms lv n h j b hb⟩
/-- Leaves in all. -/
def sumM (l : List Coin) : Nat := (l.map Coin.many).sum
theorem sumM_pack : ∀ l : List Coin, sumM (packC l) ≤ sumM l
  | [] => Nat.le_refl _
  | [_] => by simp [packC, sumM]
  | a :: b :: r => by
    have := sumM_pack r
    simp only [packC, sumM, List.map_cons, List.sum_cons, Coin.many] at *
    omega
theorem sumM_merge (a b : List Coin) : sumM (mergeC a b) = sumM a + sumM b := by
  have h : (mergeC a b).Perm (a ++ b) := List.merge_perm_append _
  unfold sumM
  rw [(h.map _).sum_nat, List.map_append, List.sum_append_nat]
theorem rowC_many (lv : List Coin) : ∀ j, sumM (rowC lv j) ≤ sumM lv * j
  | 0 => by simp [rowC, sumM]
  | j + 1 => by
    have h1 := rowC_many lv j
    have h2 := sumM_pack (rowC lv j)
    rw [rowC, sumM_merge, Nat.mul_add]
    omega
theorem sumM_take (l : List Coin) (k : Nat) (h : k < l.length) : sumM (l.take k) + l[k].many ≤ sumM l := by
  have : sumM l = sumM (l.take k) + sumM (l.drop k) := by
    unfold sumM
    rw [← List.sum_append_nat, ← List.map_append, List.take_append_drop]
  rw [this, List.drop_eq_getElem_cons h]
  show _ ≤ _ + ((l[k] :: List.drop (k + 1) l).map Coin.many).sum
  rw [List.map_cons, List.sum_cons]
  omega
/-- Coins counted one behind another. -/
def addLs (l : List Nat) (cs : List Coin) : List Nat := cs.foldl (fun l c => addL l c) l
theorem addLs_snoc (l : List Nat) (cs : List Coin) (c : Coin) : addLs l (cs ++ [c]) = addL (addLs l cs) c := by simp [addLs]
theorem addLs_len : ∀ (cs : List Coin) (l : List Nat), (addLs l cs).length = l.length
  | [], l => rfl
  | c :: cs, l => by
    show (addLs (addL l c) cs).length = _
    rw [addLs_len cs, addL_len]
theorem addLs_get : ∀ (cs : List Coin) (l : List Nat) (s : Nat), s < l.length → (addLs l cs).getD s 0 = l.getD s 0 + sumC s cs
  | [], l, s, h => by simp [addLs, sumC]
  | c :: cs, l, s, h => by
    show (addLs (addL l c) cs).getD s 0 = _
    rw [addLs_get cs _ s (by rw [addL_len]; exact h), addL_get c l s h, sumC_cons]
    omega
theorem addLs_bd : ∀ (cs : List Coin) (l : List Nat) (s : Nat), (addLs l cs).getD s 0 ≤ l.getD s 0 + sumM cs
  | [], l, s => by simp [addLs, sumM]
  | c :: cs, l, s => by
    have h1 := addLs_bd cs (addL l c) s
    have h2 := addL_bd c l s
    show (addLs (addL l c) cs).getD s 0 ≤ _
    have h3 : sumM (c :: cs) = c.many + sumM cs := by simp [sumM]
    omega
theorem lvs_take (many : List Int) (u : List Nat) (i : Nat) (h : i < u.length) : lvs many (u.take (i + 1)) = lvs many (u.take i) ++ [.leaf (nearN (many.getD u[i] 0)) u[i]] := by
  unfold lvs
  rw [List.take_succ_eq_append_getElem h, List.map_append]
  rfl
theorem lvs_w (many : List Int) (u : List Nat) : ∀ c ∈ lvs many u, c.w ≤ 1073741824 := by
  intro c hc
  unfold lvs at hc
  obtain ⟨s, _, rfl⟩ := List.mem_map.1 hc
  exact nearN_le _
theorem lvs_syms (many : List Int) (u : List Nat) (n : Nat) (h : ∀ s ∈ u, s < n) : ∀ c ∈ lvs many u, c.syms n := by
  intro c hc
  unfold lvs at hc
  obtain ⟨s, hs, rfl⟩ := List.mem_map.1 hc
  exact h s hs
theorem lvs_many (many : List Int) (u : List Nat) : sumM (lvs many u) = u.length := by
  unfold lvs sumM
  induction u with
  | nil => rfl
  | cons s r ih => simp [Coin.many] at *; omega
/-- The lengths at the end. -/
theorem ends_len (many : List Int) (u : List Nat) (L n : Nat) : addLs (List.replicate n 0) ((rowC (lvs many u) L).take (2 * u.length - 2)) = (List.range n).map fun s => lenAt many u L s := by
  apply List.ext_getElem?
  intro s
  by_cases h : s < n
  · have h1 := addLs_get ((rowC (lvs many u) L).take (2 * u.length - 2)) (List.replicate n 0) s (by simpa using h)
    have h2 : s < (addLs (List.replicate n 0) ((rowC (lvs many u) L).take (2 * u.length - 2))).length := by rw [addLs_len]; simpa using h
    rw [List.getD_eq_getElem?_getD, List.getElem?_eq_getElem h2] at h1
    simp [List.getD_eq_getElem?_getD, h] at h1
    rw [List.getElem?_eq_getElem h2, h1]
    simp [h, lenAt]
  · rw [List.getElem?_eq_none (by rw [addLs_len]; simpa using h), List.getElem?_eq_none (by simpa using h)]
end Go.Proofs.YtdehkaknbmbieaaGreat

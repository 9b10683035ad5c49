/- Package drill: Path: its walk. -/
import Derived.Test.YtdehkaknbmbieaaJoinV
import Derived.Test.YtdehkaknbmbieaaDice
import Derived.Test.YtdehkaknbmbieaaOwn
namespace Go.Proofs.Ytdehkaknbmbieaa
set_option linter.unusedVariables false
set_option linter.unusedSimpArgs false
set_option linter.unusedSectionVars false
open Go.RowKit
set_option linter.unusedVariables false
set_option linter.unusedSimpArgs false

def nmP : List (List Nat) := [[97], [98], [99], [100, 46, 116, 120, 116], [101]]
def nmAt (k : Nat) : List Nat := nmP.getD k []
/-- The parts behind so many rounds, and the number. -/
def pathS (x : Nat) : Nat → List (List Nat) × Nat
  | 0 => ([], x)
  | i + 1 => ((pathS x i).1 ++ [nmAt (belowI (pathS x i).2 5)], nextB (pathS x i).2 5)
theorem pathS_succ (x i : Nat) : pathS x (i + 1) = ((pathS x i).1 ++ [nmAt (belowI (pathS x i).2 5)], nextB (pathS x i).2 5) := by rw [pathS]
theorem belowI_lt5 (x : Nat) : belowI x 5 < 5 := belowI_lt x 5 (by omega)
theorem belowI_lt3 (x : Nat) : belowI x 3 < 3 := belowI_lt x 3 (by omega)
def pathR (x : Nat) : List (List Nat) × Nat := pathS (nextB x 3) (1 + belowI x 3)
def pathB (x : Nat) : List Nat := joinC 47 (pathR x).1
theorem pathS_len (x : Nat) : ∀ i, (pathS x i).1.length = i
  | 0 => rfl
  | i + 1 => by rw [pathS, List.length_append, pathS_len x i]; rfl
theorem nmAt_lt (k : Nat) : ∀ y ∈ nmAt k, y < 256 := by
  intro y hy
  unfold nmAt nmP at hy
  rcases k with _ | _ | _ | _ | _ | k <;> simp at hy <;> omega
theorem nmAt_len (k : Nat) : (nmAt k).length ≤ 5 := by
  unfold nmAt nmP
  rcases k with _ | _ | _ | _ | _ | k <;> simp
theorem pathS_lt (x : Nat) : ∀ i, ∀ p ∈ (pathS x i).1, ∀ y ∈ p, y < 256
  | 0, p, hp => by simp [pathS] at hp
  | i + 1, p, hp => by
    rw [pathS] at hp
    rcases List.mem_append.1 hp with h | h
    · exact pathS_lt x i p h
    · simp at h; subst h; exact nmAt_lt _
theorem pathS_tot (x : Nat) : ∀ i, totC (pathS x i).1 ≤ 5 * i
  | 0 => by simp [pathS, totC]
  | i + 1 => by
    rw [pathS, totC_snoc]
    have := pathS_tot x i
    have := nmAt_len (belowI (pathS x i).2 5)
    omega
def nmCells : List Value := [.string ⟨#[97]⟩, .string ⟨#[98]⟩, .string ⟨#[99]⟩, .string ⟨#[100, 46, 116, 120, 116]⟩, .string ⟨#[101]⟩]
theorem nmCells_at (k : Nat) (h : k < 5) : nmCells[k]? = some (.string (strOf (nmAt k))) := by
  rcases k with _ | _ | _ | _ | _ | k
  all_goals first | rfl | omega
theorem OwnX.appF {fp : List Nat} {w0 w wm w' : World} {e : TypeId} {v v' : Value} {xs ys : List Value} (h : OwnX w0 w e v xs) (hu : Upd fp w0 w) (hm : Upd fp w wm) (hR : Row w' e 1 v' (xs.length + ys.length) (xs ++ ys)) (hU : Upd v.ownBlock.toList wm w') (hT : Later wm v v') :
    OwnX w0 w' e v' (xs ++ ys) ∧ Upd fp w0 w' := by
  refine ⟨⟨by rw [List.length_append]; exact hR, fun k hk => ?_⟩, (hu.then hm).trans hU (fun k hk => .inr (h.2 k (by simpa using hk)))⟩
  rcases hT with h1 | ⟨g, h1, h2⟩
  · exact h.2 k (by rw [← h1]; exact hk)
  · rw [h1] at hk; simp at hk h2; have := (hu.then hm).size; omega
theorem newsS (w : World) (v : Value) (e : TypeId) : ∀ j u, [v][j]? = some u → (w.alloc (.cells #[v] e)).cell? ((⟨w.heap.size, 0, none⟩ : Addr).add j) = some u := World.news_of_block (cs := #[v]) (t := e) (fr := (0, 0)) (heap_alloc_new _ _)
def PathP (b x : Nat) (w : World) (e : Ending) (w' : World) : Prop := e = .returned (.string (strOf (pathB x))) ∧ DiceB w' b (pathR x).2 ∧ Upd [b] w w'
set_option maxRecDepth 100000 in
theorem dpath_nil (w : World) : Calls Try.prog 41 #[.pointer none] w fun e w' => e = .returned (.string .empty) ∧ w = w' := by
  go_enter Try.func41, Try.ntmps41
  go_wp2
  go_ret
  exact ⟨rfl, rfl⟩
set_option maxRecDepth 100000 in
set_option maxHeartbeats 1600000 in
theorem dpath_any (b x : Nat) (w : World) (h : DiceB w b x) : Calls Try.prog 41 #[.pointer (some ⟨b, 0, none⟩)] w fun e w' => PathP b x w e w' := by
  have HD := Lib.hid h
  have hbl := h.lt
  clear h
  go_enter Try.func41, Try.ntmps41
  have HBW := Lib.hid (dbelow_any b x 3 _ (HD.out.upd ((Upd.refl [] w).alloc (.cells nmCells.toArray 112)) (by simp)) (by omega))
  obtain ⟨i0, hi, hz0, hz1, hz2⟩ := info_parts infoStrE
  go_wp2_with fail
  refine HBW.out.mono ?_
  rintro e w1 ⟨rfl, hD1, hU1⟩
  have hc3 : belowI x 3 < 3 := belowI_lt3 x
  have HR : Hid (pathR x = pathS (nextB x 3) (1 + belowI x 3)) := Lib.hid rfl
  have HU0 := Lib.hid ((((Upd.refl [b] w).alloc (.cells nmCells.toArray 112))).then hU1)
  have HB1 : Hid (Blk w1 w.heap.size nmCells 112) := Lib.hid ((Blk.new w nmCells 112).upd hU1 (by simp; omega))
  have HD1 := Lib.hid hD1
  have hsz : w.heap.size + 1 ≤ w1.heap.size := by have := hU1.size; simp at this; exact this
  generalize nextB x 3 = y at *
  generalize belowI x 3 = d at *
  generalize hcnt : 1 + d = c at *
  have hc4 : c ≤ 3 := by omega
  have hw0 : IntKind.i64.wrap (1 + (d : Int)) = (c : Int) := by rw [IntWalk.i64_in _ (by omega)]; omega
  clear hD1 hU1 HBW HD
  have HP : Hid (∀ i, (pathS y i).1.length = i) := Lib.hid (pathS_len y)
  go_wp2
  clear hw0 hcnt hc3
  go_loopg [4, 11] 3 (fun gg s4 s11 wr => ∃ i : Nat, i ≤ c ∧ gg = 3 - i ∧ s11 = .int .i64 (i : Nat) ∧ Hid (OwnX w1 wr 9 s4 (strsV (pathS y i).1)) ∧ Hid (DiceB wr b (pathS y i).2) ∧ Hid (Upd [b] w1 wr))
  case atStart => exact ⟨0, by omega, by omega, rfl, Lib.hid (OwnX.nil _ _ _), HD1, Lib.hid (Upd.refl _ _)⟩
  case round =>
    obtain ⟨i, hic, rfl, rfl, HO, HD, HU⟩ := hrel
    obtain ⟨va, vc, rfl⟩ := HO.out.form
    have hfl : (strsV (pathS y i).1).length = i := by rw [strsV, List.length_map, HP.out]
    rw [hfl] at HO ⊢
    have HFL := Lib.hid hfl
    clear hfl
    by_cases hc : i < c
    · have hcz : (i : Int) < (c : Int) := by omega
      have hw1 : IntKind.i64.wrap ((i : Int) + 1) = ((i + 1 : Nat) : Int) := by rw [IntWalk.i64_in _ (by omega)]; rfl
      have HBW := Lib.hid (dbelow_any b (pathS y i).2 5 wr HD.out (by omega))
      have hk5 : belowI (pathS y i).2 5 < 5 := belowI_lt5 _
      have HS : Hid ((pathS y (i + 1)) = ((pathS y i).1 ++ [nmAt (belowI (pathS y i).2 5)], nextB (pathS y i).2 5)) := Lib.hid (pathS_succ y i)
      go_wp2_with fail
      refine HBW.out.mono ?_
      rintro e w2 ⟨rfl, hD2, hU2⟩
      have hcell := ((HB1.out.upd HU.out (by simp; omega)).upd hU2 (by simp; omega)).cell _ (nmCells_at _ hk5)
      have HD2 := Lib.hid hD2
      have HU2 := Lib.hid hU2
      generalize belowI (pathS y i).2 5 = k at *
      generalize nextB (pathS y i).2 5 = z at *
      generalize hnm : strOf (nmAt k) = S at *
      have hkz : (k : Int) < 5 := by omega
      have hkz0 : (0 : Int) ≤ (k : Int) := by omega
      have hRz := (HO.out.1.upd HU2.out (fun q hq => by have := HO.out.2 q hq; simp; omega)).alloc (.cells #[.string S] 9)
      rw [HFL.out] at hRz
      have HNM := Lib.hid hnm
      clear hD2 hU2 HBW hnm HD
      rcases (by omega : k = 0 ∨ k = 1 ∨ k = 2 ∨ k = 3 ∨ k = 4) with rfl | rfl | rfl | rfl | rfl
      all_goals
        clear hk5 hkz hkz0
        go_wp2_with (at_builtin; refine wpList_app _ rfl _ _ 83 rfl 9 i0 _ 1 16 Try.underlying83 hi hz0 hz1 hz2 rfl (by omega) (.slice va i vc) i _ rfl hRz ⟨w2.heap.size, 0, none⟩ 1 1 [.string S] rfl rfl (newsS _ _ _) (by simp [Value.oneCell']) (by unfold maxLen; omega) (by omega) ?_)
        intro v4 w4 hR4 hU4 hT4
        have hap := HO.out.appF HU.out (HU2.out.then ((Upd.refl [b] w2).alloc (.cells #[.string S] 9))) (ys := [.string S]) (by rw [HFL.out]; exact hR4) hU4 hT4
        have HAP := Lib.hid hap
        have HD4 : Hid (DiceB w4 b z) := Lib.hid ((HD2.out.upd ((Upd.refl [] w2).alloc (.cells #[.string S] 9)) (by simp)).upd hU4 (fun hm => by
          have h1 := HO.out.2 b (by simpa using hm)
          omega))
        clear hR4 hU4 hT4 hap hRz
        go_wp2
        go_roundg (3 - (i + 1))
        · exact ⟨i + 1, by omega, by first | rfl | omega, by first | rfl | go_num, Lib.hid (by rw [HS.out]; simp only [strsV, List.map_append, List.map_cons, List.map_nil]; rw [HNM.out]; exact HAP.out.1), Lib.hid (by rw [HS.out]; exact HD4.out), Lib.hid HAP.out.2⟩
        · omega
    · have hcz : ¬ (i : Int) < (c : Int) := by omega
      obtain rfl : i = c := by omega
      have htx : TextsAt wr (.slice va i vc) (pathS y i).1 := by
        refine Row.textsAt ?_
        have := HO.out.1
        rw [HFL.out] at this
        rw [HP.out]
        exact this
      have HJ := Lib.hid (joinC_any (pathS y i).1 47 _ wr htx (pathS_lt y i) (by rw [HP.out]; omega) (by have := pathS_tot y i; omega))
      have HU3 := Lib.hid (HU0.out.then HU.out)
      have HBB : Hid (pathB x = joinC 47 (pathS y i).1) := Lib.hid (by unfold pathB; rw [HR.out])
      clear htx HO HFL
      go_wp2_with fail
      refine HJ.out.mono ?_
      rintro e w5 ⟨rfl, hU5⟩
      have HU5 := Lib.hid hU5
      clear hU5 HJ
      go_wp2
      go_ret
      exact ⟨by rw [HBB.out]; rfl, by rw [HR.out]; exact HD.out.upd HU5.out (by simp), HU3.out.trans HU5.out (fun q hq => by simp at hq)⟩
end Go.Proofs.Ytdehkaknbmbieaa

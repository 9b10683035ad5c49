/- Package swingleref19: Right, of paths of up to a million bytes: its walk. -/
import Derived.Test.YtibmhadnfggmlaaDoorRRight
import Derived.Test.YtibmhadnfggmlaaDoorGG
namespace Go.Proofs.YtibmhadnfggmlaaDoor
set_option linter.unusedVariables false
set_option linter.unusedSimpArgs false
set_option linter.unusedSectionVars false
open Go.RowKit
set_option linter.unusedVariables false

theorem rname19_all (r : RecD) (w : World) (hp : r.p.size ≤ 1050000) : Calls Tryd.prog 39 #[r.v] w fun e w' => e = .returned (.string (strOf (nameP r.k r.p))) ∧ Upd [] w w' := by
  obtain ⟨p, m, sum, l, wh, k, md, t, pos⟩ := r
  dsimp only at hp
  unfold RecD.v
  dsimp only
  have HA := Lib.hid (add_slash p)
  have HB := Lib.hid (strOf_bytesOf p)
  by_cases hk : k = 2
  · subst hk
    have HN : Hid (nameP 2 p = bytesOf p ++ [47]) := Lib.hid rfl
    go_enter Tryd.func39, Tryd.ntmps39
    go_wp2
    go_ret
    exact ⟨by rw [HN.out, ← HA.out]; rfl, (Upd.refl _ _).alloc _⟩
  · have HN : Hid (nameP k p = bytesOf p) := Lib.hid (if_neg hk)
    have t1 : (k == 2) = false := by rw [beq_eq_false_iff_ne]; exact hk
    go_enter Tryd.func39, Tryd.ntmps39
    go_wp2
    go_ret
    exact ⟨by rw [HN.out, HB.out]; rfl, (Upd.refl _ _).alloc _⟩
theorem big_name (r : RecD) (h : 1000 < r.p.size) : (pathP (nameP r.k r.p)).2.2 = false ∧ recErr r = 5 := by
  have e : nameB r = false := by
    rw [← Bool.not_eq_true]
    intro hn
    obtain ⟨n1, n2, _⟩ := nameB_parts hn
    have := pathP_size n1
    rw [n2, length_bytesOf] at this
    omega
  refine ⟨?_, by unfold recErr; rw [if_pos e]⟩
  rw [← Bool.not_eq_true]
  intro hn
  have h1 := pathP_size hn
  unfold pathP at hn h1
  have hlen : r.p.size ≤ (nameP r.k r.p).length := by
    unfold nameP; split <;> simp [length_bytesOf]
  repeat' split at hn
  all_goals try (simp at hn; done)
  · rename_i a b
    rw [if_pos a, if_pos b] at h1
    simp only [List.length_take] at h1
    omega
  · rename_i a b
    rw [if_neg a, if_pos b] at h1
    dsimp only at h1
    omega
set_option maxRecDepth 100000 in
set_option maxHeartbeats 3200000 in
theorem rright19_all (r : RecD) (w : World) (hp : r.p.size ≤ 1050000) (hs : r.sum < 4294967296) (ht : r.t < 4294967296) : Calls Tryd.prog 35 #[r.v] w fun e w' => e = .returned (.int .i64 (recErr r : Nat)) ∧ Upd [] w w' := by
  by_cases h1 : r.p.size ≤ 1000
  · exact rright19_any r w ⟨h1, hs, ht⟩
  · obtain ⟨hb, he⟩ := big_name r (by omega)
    rw [he]
    have hsz : (strOf (nameP r.k r.p)).size ≤ 1100000 := by have := nameP_len r.k r.p; rw [size_strOf]; omega
    have HP := Lib.hid (fun w => rpath_any (strOf (nameP r.k r.p)) w hsz)
    rw [bytesOf_strOf _ (nameP_lt r.k r.p)] at HP
    have HN := Lib.hid (fun w => rname19_all r w hp)
    generalize strOf (nameP r.k r.p) = S at *
    generalize pathP (nameP r.k r.p) = pp at *
    obtain ⟨a, kk, okb⟩ := pp
    dsimp only at hb
    subst hb
    unfold pathV at HP
    dsimp only at HP
    obtain ⟨p, m, sum, l, wh, k, md, t, pos⟩ := r
    unfold RecD.v at *
    dsimp only at *
    clear hp hs ht h1 he hsz
    go_enter Tryd.func35, Tryd.ntmps35
    go_wp2_with fail
    refine (HN.out _).mono ?_
    rintro e w1 ⟨rfl, hU1⟩
    go_wp2_with fail
    refine (HP.out _).mono ?_
    rintro e w2 ⟨rfl, hU2⟩
    have HU := Lib.hid ((((Upd.refl [] w).alloc (.cells #[.string p, .int .i64 m, .int .u32 (sum : Nat), .int .i64 l, .int .i64 wh, .int .i64 k, .int .i64 md, .int .u32 (t : Nat), .int .i64 pos] 51)).then hU1).then hU2)
    clear hU1 hU2
    go_wp2
    go_ret
    exact ⟨rfl, HU.out⟩
end Go.Proofs.YtibmhadnfggmlaaDoor

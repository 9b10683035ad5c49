/- Package local: a header is read as it was written: plain. -/
import Derived.Test.YtibmhadnfggmlaaDoorLocL
namespace Go.Proofs.YtibmhadnfggmlaaDoor
open Go.RowKit
set_option linter.unusedVariables false

theorem name_ne {r : RecD} (hr : recErr r = 0) : nameP r.k r.p ≠ [] := by
  intro h
  have h1 := (nameB_parts (recErr_parts hr).1).1
  rw [h, pathP_nil] at h1
  cases h1
/-- The fields of a header that may be, with anything behind it, if it is there whole or its last byte lacks. -/
theorem head_gN (r : RecD) (x : ByteArray) (d : List Nat) (hx : bytesOf x = [80, 75, 3, 4, 20, 0, 0, 8] ++ (leP r.m.toNat 2 ++ (leP r.t 4 ++ (leP r.sum 4 ++ (leP r.l.toNat 4 ++ (leP r.wh.toNat 4 ++ (leP (nameP r.k r.p).length 2 ++ ([0, 0] ++ d)))))))) :
    gN x 0 4 = 67324752 ∧ gN x 6 2 = 2048 ∧ gN x 8 2 = r.m.toNat % 65536 ∧ gN x 10 4 = r.t % 4294967296 ∧ gN x 14 4 = r.sum % 4294967296 ∧ gN x 18 4 = r.l.toNat % 4294967296 ∧ gN x 22 4 = r.wh.toNat % 4294967296 ∧ gN x 26 2 = (nameP r.k r.p).length % 65536 ∧ gN x 28 2 = 0 := by
  have hz : ([0, 0] : List Nat) = leP 0 2 := rfl
  have hb : ([80, 75, 3, 4, 20, 0, 0, 8] : List Nat) = leP 67324752 4 ++ (leP 20 2 ++ leP 2048 2) := by decide
  rw [hz, hb] at hx
  refine ⟨?_, ?_, ?_, ?_, ?_, ?_, ?_, ?_, ?_⟩
  · rw [gN_mid (i := 0) (a := []) (k := 4) (n := 67324752) (c := _) (by rw [hx, List.nil_append, List.append_assoc]) rfl]
  · rw [gN_mid (a := leP 67324752 4 ++ leP 20 2) (k := 2) (n := 2048) (c := _) (by rw [hx]; simp only [List.append_assoc]; rfl) (by simp [leP_len])]
  · rw [gN_mid (a := leP 67324752 4 ++ (leP 20 2 ++ leP 2048 2)) (k := 2) (n := r.m.toNat) (c := _) (by rw [hx]) (by simp [leP_len])]
  · rw [gN_mid (a := leP 67324752 4 ++ (leP 20 2 ++ leP 2048 2) ++ leP r.m.toNat 2) (k := 4) (n := r.t) (c := _) (by rw [hx]; simp only [List.append_assoc]; rfl) (by simp [leP_len])]
  · rw [gN_mid (a := leP 67324752 4 ++ (leP 20 2 ++ leP 2048 2) ++ (leP r.m.toNat 2 ++ leP r.t 4)) (k := 4) (n := r.sum) (c := _) (by rw [hx]; simp only [List.append_assoc]; rfl) (by simp [leP_len])]
  · rw [gN_mid (a := leP 67324752 4 ++ (leP 20 2 ++ leP 2048 2) ++ (leP r.m.toNat 2 ++ (leP r.t 4 ++ leP r.sum 4))) (k := 4) (n := r.l.toNat) (c := _) (by rw [hx]; simp only [List.append_assoc]; rfl) (by simp [leP_len])]
  · rw [gN_mid (a := leP 67324752 4 ++ (leP 20 2 ++ leP 2048 2) ++ (leP r.m.toNat 2 ++ (leP r.t 4 ++ (leP r.sum 4 ++ leP r.l.toNat 4)))) (k := 4) (n := r.wh.toNat) (c := _) (by rw [hx]; simp only [List.append_assoc]; rfl) (by simp [leP_len])]
  · rw [gN_mid (a := leP 67324752 4 ++ (leP 20 2 ++ leP 2048 2) ++ (leP r.m.toNat 2 ++ (leP r.t 4 ++ (leP r.sum 4 ++ (leP r.l.toNat 4 ++ leP r.wh.toNat 4))))) (k := 2) (n := (nameP r.k r.p).length) (c := _) (by rw [hx]; simp only [List.append_assoc]; rfl) (by simp [leP_len])]
  · rw [gN_mid (a := leP 67324752 4 ++ (leP 20 2 ++ leP 2048 2) ++ (leP r.m.toNat 2 ++ (leP r.t 4 ++ (leP r.sum 4 ++ (leP r.l.toNat 4 ++ (leP r.wh.toNat 4 ++ leP (nameP r.k r.p).length 2)))))) (k := 2) (n := 0) (c := _) (by rw [hx]; simp only [List.append_assoc]; rfl) (by simp [leP_len])]
theorem head_eq (r : RecD) (c : List Nat) : headP r ++ c = [80, 75, 3, 4, 20, 0, 0, 8] ++ (leP r.m.toNat 2 ++ (leP r.t 4 ++ (leP r.sum 4 ++ (leP r.l.toNat 4 ++ (leP r.wh.toNat 4 ++ (leP (nameP r.k r.p).length 2 ++ ([0, 0] ++ (nameP r.k r.p ++ c)))))))) := by
  unfold headP; simp only [List.append_assoc]
theorem head_cut (r : RecD) (h : nameP r.k r.p ≠ []) : (headP r).dropLast = [80, 75, 3, 4, 20, 0, 0, 8] ++ (leP r.m.toNat 2 ++ (leP r.t 4 ++ (leP r.sum 4 ++ (leP r.l.toNat 4 ++ (leP r.wh.toNat 4 ++ (leP (nameP r.k r.p).length 2 ++ ([0, 0] ++ (nameP r.k r.p).dropLast))))))) := by
  have e : headP r = ([80, 75, 3, 4, 20, 0, 0, 8] ++ (leP r.m.toNat 2 ++ (leP r.t 4 ++ (leP r.sum 4 ++ (leP r.l.toNat 4 ++ (leP r.wh.toNat 4 ++ (leP (nameP r.k r.p).length 2 ++ [0, 0]))))))) ++ nameP r.k r.p := by unfold headP; simp only [List.append_assoc]
  rw [e, List.dropLast_append_of_ne_nil h]
  simp only [List.append_assoc]
theorem readX_cut (r : RecD) (x : ByteArray) (a : Nat) (hf : r.Fits) (hr : recErr r = 0) (hx : bytesOf x = (headP r).dropLast) : readX x a = (noneR, 0, false, 3) := by
  have hn := name_ne hr
  have hl := nameP_len r.k r.p
  have hp := hf.p
  have hs : x.size = 29 + (nameP r.k r.p).length := by
    rw [← length_bytesOf, hx, List.length_dropLast, headP_len]; omega
  rw [head_cut r hn] at hx
  obtain ⟨_, _, _, _, _, _, _, g26, g28⟩ := head_gN r x _ hx
  have hh : hdLen x = 30 + (nameP r.k r.p).length := by unfold hdLen; rw [g26, g28, Nat.mod_eq_of_lt (by omega), Nat.add_zero]
  exact if_pos (.inr (by omega))
theorem readX_head (r : RecD) (x : ByteArray) (c : List Nat) (a : Nat) (hf : r.Fits) (hr : recErr r = 0) (hx : bytesOf x = headP r ++ c) : readX x a = (⟨r.p, r.m, r.sum, r.l, r.wh, r.k, 0, r.t, a⟩, 30 + (nameP r.k r.p).length, false, 0) := by
  have hl := nameP_len r.k r.p
  have hp := hf.p
  obtain ⟨h1, h2, h3, h4⟩ := recErr_parts hr
  obtain ⟨n1, n2, n3⟩ := nameB_parts h1
  obtain ⟨pm, pl, pw, pa⟩ := laidB_parts h2
  have hs : x.size = 30 + (nameP r.k r.p).length + c.length := by rw [← length_bytesOf, hx, List.length_append, headP_len]
  have hx2 := hx
  rw [head_eq] at hx2
  obtain ⟨g0, g6, g8, g10, g14, g18, g22, g26, g28⟩ := head_gN r x _ hx2
  rw [Nat.mod_eq_of_lt (by omega)] at g8 g18 g22 g26
  rw [Nat.mod_eq_of_lt hf.t] at g10
  rw [Nat.mod_eq_of_lt hf.sum] at g14
  have hh : hdLen x = 30 + (nameP r.k r.p).length := by unfold hdLen; rw [g26, g28, Nat.add_zero]
  have hnm : ((bytesOf x).drop 30).take (gN x 26 2) = nameP r.k r.p := by
    rw [g26, hx]
    have e : headP r ++ c = ([80, 75, 3, 4, 20, 0, 0, 8] ++ (leP r.m.toNat 2 ++ (leP r.t 4 ++ (leP r.sum 4 ++ (leP r.l.toNat 4 ++ (leP r.wh.toNat 4 ++ (leP (nameP r.k r.p).length 2 ++ [0, 0]))))))) ++ (nameP r.k r.p ++ c) := by unfold headP; simp only [List.append_assoc]
    rw [e, List.drop_left' (by simp [leP_len]), List.take_left' rfl]
  have hd := hdP_fine x (by omega) (by omega)
  rw [hnm, g0, g6, g8, g10, g14, g18, g22] at hd
  unfold readX
  rw [if_neg (by omega), hd]
  dsimp only
  have hform : formB ⟨67324752, 2048, r.m.toNat, r.t, r.sum, r.l.toNat, r.wh.toNat, nameP r.k r.p⟩ = true := by
    unfold formB
    simp
    omega
  rw [hform, if_neg (by simp), n1, if_neg (by simp), n3, h4, if_neg (by simp), hh]
  unfold recOf
  dsimp only
  rw [n2, n3, strOf_bytesOf, Int.toNat_of_nonneg pl.1, Int.toNat_of_nonneg pw.1, Int.toNat_of_nonneg (by omega)]
  rfl
end Go.Proofs.YtibmhadnfggmlaaDoor

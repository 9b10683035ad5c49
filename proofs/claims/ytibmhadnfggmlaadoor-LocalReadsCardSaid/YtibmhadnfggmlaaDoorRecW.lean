/- Package local: Name, size, laidRight, time, Size: walks. -/
import Derived.Test.YtibmhadnfggmlaaDoorRecP
import Derived.Test.YtibmhadnfggmlaaDoorKit
namespace Go.Proofs.YtibmhadnfggmlaaDoor
open Go.RowKit
set_option linter.unusedVariables false

theorem add_slash (p : ByteArray) : p ++ ({ data := #[47] } : ByteArray) = strOf (bytesOf p ++ [47]) := by
  rw [← strOf_append, strOf_bytesOf]; rfl
theorem name_any (r : RecD) (w : World) (h : r.Fits) : Calls Tryd.prog 38 #[r.v] w fun e w' => e = .returned (.string (strOf (nameP r.k r.p))) ∧ Upd [] w w' := by
  have hp := h.p
  obtain ⟨p, m, sum, l, wh, k, md, t, pos⟩ := r
  dsimp only at hp
  unfold RecD.v
  dsimp only
  have HA := Lib.hid (add_slash p)
  have HB := Lib.hid (strOf_bytesOf p)
  by_cases hk : k = 2
  · subst hk
    have HN : Hid (nameP 2 p = bytesOf p ++ [47]) := Lib.hid rfl
    go_enter Tryd.func38, Tryd.ntmps38
    go_wp2
    go_ret
    exact ⟨by rw [HN.out, ← HA.out]; rfl, (Upd.refl _ _).alloc _⟩
  · have HN : Hid (nameP k p = bytesOf p) := Lib.hid (if_neg hk)
    have t1 : (k == 2) = false := by rw [beq_eq_false_iff_ne]; exact hk
    go_enter Tryd.func38, Tryd.ntmps38
    go_wp2
    go_ret
    exact ⟨by rw [HN.out, HB.out]; rfl, (Upd.refl _ _).alloc _⟩
theorem rname19_any (r : RecD) (w : World) (h : r.Fits) : Calls Tryd.prog 39 #[r.v] w fun e w' => e = .returned (.string (strOf (nameP r.k r.p))) ∧ Upd [] w w' := by
  have hp := h.p
  obtain ⟨p, m, sum, l, wh, k, md, t, pos⟩ := r
  dsimp only at hp
  unfold RecD.v
  dsimp only
  have HA := Lib.hid (add_slash p)
  have HB := Lib.hid (strOf_bytesOf p)
  by_cases hk : k = 2
  · subst hk
    have HN : Hid (nameP 2 p = bytesOf p ++ [47]) := Lib.hid rfl
    go_enter Tryd.func39, Tryd.ntmps39
    go_wp2
    go_ret
    exact ⟨by rw [HN.out, ← HA.out]; rfl, (Upd.refl _ _).alloc _⟩
  · have HN : Hid (nameP k p = bytesOf p) := Lib.hid (if_neg hk)
    have t1 : (k == 2) = false := by rw [beq_eq_false_iff_ne]; exact hk
    go_enter Tryd.func39, Tryd.ntmps39
    go_wp2
    go_ret
    exact ⟨by rw [HN.out, HB.out]; rfl, (Upd.refl _ _).alloc _⟩
theorem size_any (n : Int) (w : World) : Calls Tryd.prog 125 #[.int .i64 n] w fun e w' => e = .returned (.bool (sizeB n)) ∧ w = w' := by
  by_cases h : 0 ≤ n
  · have t1 : decide (0 ≤ n) = true := decide_eq_true h
    have HS : Hid (sizeB n = decide (n < 2147483648)) := Lib.hid (by unfold sizeB; rw [t1]; rfl)
    go_enter Tryd.func125, Tryd.ntmps125
    go_wp2
    go_returns
    exact ⟨by rw [HS.out]; rfl, rfl⟩
  · have t1 : decide (0 ≤ n) = false := decide_eq_false h
    have HS : Hid (sizeB n = false) := Lib.hid (by unfold sizeB; rw [t1]; rfl)
    go_enter Tryd.func125, Tryd.ntmps125
    go_wp2
    go_returns
    exact ⟨by rw [HS.out]; rfl, rfl⟩
set_option maxRecDepth 100000 in
set_option maxHeartbeats 4000000 in
theorem laid_any (r : RecD) (w : World) (h : r.Fits) : Calls Tryd.prog 78 #[r.v] w fun e w' => e = .returned (.bool (laidB r)) ∧ Upd [] w w' := by
  have hp := h.p
  have hs := h.sum
  have HL := Lib.hid (show laidB r = if (r.m ≠ 0 ∧ r.m ≠ 8) ∨ sizeB r.l = false ∨ sizeB r.wh = false ∨ sizeB r.pos = false then false
    else if r.k = 2 then decide (r.sum = 0) && decide (r.l = 0) && decide (r.wh = 0) && decide (r.m = 0) else decide (r.m = 8) || decide (r.l = r.wh) from rfl)
  obtain ⟨p, m, sum, l, wh, k, md, t, pos⟩ := r
  dsimp only at hp hs HL
  unfold RecD.v
  dsimp only
  rw [HL.out]
  clear HL
  go_enter Tryd.func78, Tryd.ntmps78
  go_wp2_with (go_at_call 125; refine (size_any _ _).mono ?_; rintro e w2 ⟨rfl, rfl⟩)
  all_goals go_returns
  all_goals (refine ⟨congrArg (fun z => Ending.returned (.bool z)) ?_, (Upd.refl _ _).alloc _⟩)
  all_goals (simp_all <;> rfl)
set_option maxRecDepth 100000 in
set_option maxHeartbeats 4000000 in
theorem time_any (r : RecD) (w : World) (h : r.Fits) : Calls Tryd.prog 79 #[r.v] w fun e w' => e = .returned (.bool (rtimeB r.k r.t)) ∧ Upd [] w w' := by
  have ht := h.t
  obtain ⟨p, m, sum, l, wh, k, md, t, pos⟩ := r
  dsimp only at ht
  unfold RecD.v
  dsimp only
  have HT := Lib.hid (fun w' => dosRight_any t w' ht)
  by_cases hk : k = 2
  · subst hk
    have HN : Hid (rtimeB 2 t = decide (t = 2162688)) := Lib.hid rfl
    have t1 : ((t : Int) == 2162688) = decide (t = 2162688) := by rw [Bool.eq_iff_iff, beq_iff_eq, decide_eq_true_eq]; omega
    go_enter Tryd.func79, Tryd.ntmps79
    go_wp2
    go_ret
    exact ⟨by rw [HN.out]; rfl, (Upd.refl _ _).alloc _⟩
  · have HN : Hid (rtimeB k t = timeB t) := Lib.hid (if_neg hk)
    have t1 : (k == 2) = false := by rw [beq_eq_false_iff_ne]; exact hk
    go_enter Tryd.func79, Tryd.ntmps79
    go_wp2_with fail
    refine (HT.out _).mono ?_
    rintro e w1 ⟨rfl, hU⟩
    go_wp2
    go_ret
    exact ⟨by rw [HN.out]; rfl, ((Upd.refl _ _).alloc _).then hU⟩
set_option maxRecDepth 100000 in
set_option maxHeartbeats 4000000 in
theorem rtime_any (r : RecD) (w : World) (h : r.Fits) : Calls Tryd.prog 80 #[r.v] w fun e w' => e = .returned (.bool (rtimeB r.k r.t)) ∧ Upd [] w w' := by
  have ht := h.t
  obtain ⟨p, m, sum, l, wh, k, md, t, pos⟩ := r
  dsimp only at ht
  unfold RecD.v
  dsimp only
  have HS := Lib.hid (fun w' => rsplit_any t w' ht)
  have HR := Lib.hid (fun w' => rright_any _ _ _ _ _ _ w' (parts_ok t))
  have HT := Lib.hid (show timeB t = rightB (1980 + (t : Int) / 33554432 % 128) ((t : Int) / 2097152 % 16) ((t : Int) / 65536 % 32) ((t : Int) / 2048 % 32) ((t : Int) / 32 % 64) (2 * ((t : Int) % 32)) from rfl)
  unfold partsL at HS
  by_cases hk : k = 2
  · subst hk
    have HN : Hid (rtimeB 2 t = decide (t = 2162688)) := Lib.hid rfl
    have t1 : ((t : Int) == 2162688) = decide (t = 2162688) := by rw [Bool.eq_iff_iff, beq_iff_eq, decide_eq_true_eq]; omega
    go_enter Tryd.func80, Tryd.ntmps80
    go_wp2
    go_ret
    exact ⟨by rw [HN.out]; rfl, (Upd.refl _ _).alloc _⟩
  · have HN : Hid (rtimeB k t = timeB t) := Lib.hid (if_neg hk)
    have t1 : (k == 2) = false := by rw [beq_eq_false_iff_ne]; exact hk
    go_enter Tryd.func80, Tryd.ntmps80
    go_wp2_with fail
    refine (HS.out _).mono ?_
    rintro e w1 ⟨rfl, hU⟩
    go_wp2_with fail
    refine (HR.out w1).mono ?_
    rintro e w2 ⟨rfl, hU2⟩
    go_wp2
    go_ret
    exact ⟨by rw [HN.out, HT.out]; rfl, (((Upd.refl _ _).alloc _).then hU).then hU2⟩
theorem size30_any (r : RecD) (w : World) (h : r.Fits) : Calls Tryd.prog 40 #[r.v] w fun e w' => e = .returned (.int .i64 (30 + (nameP r.k r.p).length : Nat)) ∧ Upd [] w w' := by
  have hl := nameP_len r.k r.p
  have hp := h.p
  have HNM := Lib.hid (fun w => name_any r w h)
  obtain ⟨p, m, sum, l, wh, k, md, t, pos⟩ := r
  dsimp only at hp hl HNM
  unfold RecD.v at *
  dsimp only at HNM ⊢
  have hsz := size_strOf (nameP k p)
  have HSZ := Lib.hid hsz
  have hb : (strOf (nameP k p)).size ≤ 1001 := by omega
  generalize strOf (nameP k p) = S at *
  generalize (nameP k p).length = n at *
  clear hsz
  go_enter Tryd.func40, Tryd.ntmps40
  go_wp2_with fail
  refine (HNM.out _).mono ?_
  rintro e w1 ⟨rfl, hU⟩
  go_wp2
  go_ret
  exact ⟨by rw [← HSZ.out]; show Ending.returned (.int .i64 (30 + (S.size : Int))) = _; simp, ((Upd.refl _ _).alloc _).then hU⟩
end Go.Proofs.YtibmhadnfggmlaaDoor

/- Package central: records are read as they were written: plain. -/
import Derived.Test.YtibmhadnfggmlaaDoorGG
import Derived.Test.YtibmhadnfggmlaaDoorCenK
namespace Go.Proofs.YtibmhadnfggmlaaDoor
set_option linter.unusedVariables false
set_option linter.unusedSimpArgs false
set_option linter.unusedSectionVars false
open Go.RowKit
set_option linter.unusedVariables false

theorem chead_gN (r : RecD) (x : ByteArray) (d : List Nat) (hx : bytesOf x = cheadP r ++ d) :
    gN x 0 4 = 33639248 ∧ gN x 8 2 = 2048 ∧ gN x 10 2 = r.m.toNat % 65536 ∧ gN x 12 4 = r.t % 4294967296 ∧ gN x 16 4 = r.sum % 4294967296 ∧ gN x 20 4 = r.l.toNat % 4294967296 ∧ gN x 24 4 = r.wh.toNat % 4294967296 ∧ gN x 28 2 = (nameP r.k r.p).length % 65536 ∧ gN x 30 2 = 0 ∧ gN x 32 2 = 0 ∧ gN x 34 2 = 0 ∧ gN x 38 4 = attrP r.k r.md.toNat % 4294967296 ∧ gN x 42 4 = r.pos.toNat % 4294967296 := by
  have hz : ([0, 0, 0, 0, 0, 0, 0, 0] : List Nat) = leP 0 2 ++ (leP 0 2 ++ (leP 0 2 ++ leP 0 2)) := rfl
  have hb2 : ([80, 75, 1, 2, 20, 3, 20, 0, 0, 8] : List Nat) = leP 33639248 4 ++ ([20, 3, 20, 0] ++ leP 2048 2) := by decide
  unfold cheadP at hx
  rw [hz, hb2] at hx
  simp only [List.append_assoc] at hx
  refine ⟨?_, ?_, ?_, ?_, ?_, ?_, ?_, ?_, ?_, ?_, ?_, ?_, ?_⟩
  · rw [gN_mid (i := 0) (a := []) (k := 4) (n := 33639248) (c := _) (by rw [hx, List.nil_append]) rfl]
  · rw [gN_mid (a := leP 33639248 4 ++ [20, 3, 20, 0]) (k := 2) (n := 2048) (c := _) (by rw [hx]; simp only [List.append_assoc]; rfl) (by simp [leP_len])]
  · rw [gN_mid (a := leP 33639248 4 ++ ([20, 3, 20, 0] ++ leP 2048 2)) (k := 2) (n := r.m.toNat) (c := _) (by rw [hx]; simp only [List.append_assoc]; rfl) (by simp [leP_len])]
  · rw [gN_mid (a := leP 33639248 4 ++ ([20, 3, 20, 0] ++ (leP 2048 2 ++ leP r.m.toNat 2))) (k := 4) (n := r.t) (c := _) (by rw [hx]; simp only [List.append_assoc]; rfl) (by simp [leP_len])]
  · rw [gN_mid (a := leP 33639248 4 ++ ([20, 3, 20, 0] ++ (leP 2048 2 ++ (leP r.m.toNat 2 ++ leP r.t 4)))) (k := 4) (n := r.sum) (c := _) (by rw [hx]; simp only [List.append_assoc]; rfl) (by simp [leP_len])]
  · rw [gN_mid (a := leP 33639248 4 ++ ([20, 3, 20, 0] ++ (leP 2048 2 ++ (leP r.m.toNat 2 ++ (leP r.t 4 ++ leP r.sum 4))))) (k := 4) (n := r.l.toNat) (c := _) (by rw [hx]; simp only [List.append_assoc]; rfl) (by simp [leP_len])]
  · rw [gN_mid (a := leP 33639248 4 ++ ([20, 3, 20, 0] ++ (leP 2048 2 ++ (leP r.m.toNat 2 ++ (leP r.t 4 ++ (leP r.sum 4 ++ leP r.l.toNat 4)))))) (k := 4) (n := r.wh.toNat) (c := _) (by rw [hx]; simp only [List.append_assoc]; rfl) (by simp [leP_len])]
  · rw [gN_mid (a := leP 33639248 4 ++ ([20, 3, 20, 0] ++ (leP 2048 2 ++ (leP r.m.toNat 2 ++ (leP r.t 4 ++ (leP r.sum 4 ++ (leP r.l.toNat 4 ++ leP r.wh.toNat 4))))))) (k := 2) (n := (nameP r.k r.p).length) (c := _) (by rw [hx]; simp only [List.append_assoc]; rfl) (by simp [leP_len])]
  · rw [gN_mid (a := leP 33639248 4 ++ ([20, 3, 20, 0] ++ (leP 2048 2 ++ (leP r.m.toNat 2 ++ (leP r.t 4 ++ (leP r.sum 4 ++ (leP r.l.toNat 4 ++ (leP r.wh.toNat 4 ++ leP (nameP r.k r.p).length 2)))))))) (k := 2) (n := 0) (c := _) (by rw [hx]; simp only [List.append_assoc]; rfl) (by simp [leP_len])]
  · rw [gN_mid (a := leP 33639248 4 ++ ([20, 3, 20, 0] ++ (leP 2048 2 ++ (leP r.m.toNat 2 ++ (leP r.t 4 ++ (leP r.sum 4 ++ (leP r.l.toNat 4 ++ (leP r.wh.toNat 4 ++ (leP (nameP r.k r.p).length 2 ++ leP 0 2))))))))) (k := 2) (n := 0) (c := _) (by rw [hx]; simp only [List.append_assoc]; rfl) (by simp [leP_len])]
  · rw [gN_mid (a := leP 33639248 4 ++ ([20, 3, 20, 0] ++ (leP 2048 2 ++ (leP r.m.toNat 2 ++ (leP r.t 4 ++ (leP r.sum 4 ++ (leP r.l.toNat 4 ++ (leP r.wh.toNat 4 ++ (leP (nameP r.k r.p).length 2 ++ (leP 0 2 ++ leP 0 2)))))))))) (k := 2) (n := 0) (c := _) (by rw [hx]; simp only [List.append_assoc]; rfl) (by simp [leP_len])]
  · rw [gN_mid (a := leP 33639248 4 ++ ([20, 3, 20, 0] ++ (leP 2048 2 ++ (leP r.m.toNat 2 ++ (leP r.t 4 ++ (leP r.sum 4 ++ (leP r.l.toNat 4 ++ (leP r.wh.toNat 4 ++ (leP (nameP r.k r.p).length 2 ++ (leP 0 2 ++ (leP 0 2 ++ (leP 0 2 ++ leP 0 2)))))))))))) (k := 4) (n := attrP r.k r.md.toNat) (c := _) (by rw [hx]; simp only [List.append_assoc]; rfl) (by simp [leP_len])]
  · rw [gN_mid (a := leP 33639248 4 ++ ([20, 3, 20, 0] ++ (leP 2048 2 ++ (leP r.m.toNat 2 ++ (leP r.t 4 ++ (leP r.sum 4 ++ (leP r.l.toNat 4 ++ (leP r.wh.toNat 4 ++ (leP (nameP r.k r.p).length 2 ++ (leP 0 2 ++ (leP 0 2 ++ (leP 0 2 ++ (leP 0 2 ++ leP (attrP r.k r.md.toNat) 4))))))))))))) (k := 4) (n := r.pos.toNat) (c := _) (by rw [hx]; simp only [List.append_assoc]; rfl) (by simp [leP_len])]
theorem creadX_head (r : RecD) (x : ByteArray) (c : List Nat) (hf : r.Fits) (hr : recErr r = 0) (hx : bytesOf x = cheadP r ++ c) : creadX x = (r, 46 + (nameP r.k r.p).length, 0) := by
  have hl := nameP_len r.k r.p
  have hp := hf.p
  obtain ⟨h1, h2, h3, h4⟩ := recErr_parts hr
  obtain ⟨n1, n2, n3⟩ := nameB_parts h1
  obtain ⟨pm, pl, pw, pa⟩ := laidB_parts h2
  have hs : x.size = 46 + (nameP r.k r.p).length + c.length := by rw [← length_bytesOf, hx, List.length_append, cheadP_len]
  obtain ⟨g0, g8, g10, g12, g16, g20, g24, g28, g30, g32, g34, g38, g42⟩ := chead_gN r x c hx
  have hk := pathP_kind12 n1
  have hat : attrP r.k r.md.toNat < 4294967296 := by unfold attrP; split <;> omega
  rw [Nat.mod_eq_of_lt (by omega)] at g10 g20 g24 g28 g38 g42
  rw [Nat.mod_eq_of_lt hf.t] at g12
  rw [Nat.mod_eq_of_lt hf.sum] at g16
  have hnm : ((bytesOf x).drop 46).take (gN x 28 2) = nameP r.k r.p := by
    rw [g28, hx]
    have e : cheadP r ++ c = ([80, 75, 1, 2, 20, 3, 20, 0, 0, 8] ++ (leP r.m.toNat 2 ++ (leP r.t 4 ++ (leP r.sum 4 ++ (leP r.l.toNat 4 ++ (leP r.wh.toNat 4 ++ (leP (nameP r.k r.p).length 2 ++ ([0, 0, 0, 0, 0, 0, 0, 0] ++ (leP (attrP r.k r.md.toNat) 4 ++ leP r.pos.toNat 4))))))))) ++ (nameP r.k r.p ++ c) := by unfold cheadP; simp only [List.append_assoc]
    rw [e, List.drop_left' (by simp [leP_len]), List.take_left' rfl]
  have h34 := (disk0 x (by omega)).1 g34
  have hh := gN_high x (by omega)
  have hpp : pathP (((bytesOf x).drop 46).take (gN x 28 2)) = ((pathP (nameP r.k r.p)).1, (pathP (nameP r.k r.p)).2.1, true) := by rw [hnm, ← n1]
  rw [creadX_good x (by omega) (by omega) ⟨g0, .inl g8, h34⟩ _ _ hpp]
  have hkk : ((pathP (nameP r.k r.p)).2.1 : Int) = r.k := n3
  have hc : cRec x (pathP (nameP r.k r.p)).1 (pathP (nameP r.k r.p)).2.1 = r := by
    unfold cRec
    rw [← hh, g38, g10, g12, g16, g20, g24, g42, n2, n3, strOf_bytesOf, Int.toNat_of_nonneg pl.1, Int.toNat_of_nonneg pw.1, Int.toNat_of_nonneg pa.1, Int.toNat_of_nonneg (by omega)]
    have e : ((attrP r.k r.md.toNat / 65536 % 512 : Nat) : Int) = r.md := by
      unfold attrP
      split <;> omega
    rw [e]
  have hki : gN x 40 2 / 4096 * 4096 = ckindN (pathP (nameP r.k r.p)).2.1 := by
    rw [← hh, g38]
    unfold attrP ckindN
    rcases hk with e | e
    · rw [e] at hkk ⊢; rw [if_neg (by omega), if_neg (by omega)]; omega
    · rw [e] at hkk ⊢; rw [if_pos (by omega), if_pos (by omega)]; omega
  rw [if_neg (show ¬ (gN x 40 2 / 4096 * 4096 ≠ ckindN _) from fun h => h hki), hc, if_neg (by omega), g28, g30, g32, Nat.add_zero]
/-- Records, as they are laid. -/
def cflat (l : List RecD) : List Nat := l.flatMap cheadP
theorem cflat_append (a b : List RecD) : cflat (a ++ b) = cflat a ++ cflat b := by simp [cflat]
theorem cflat_lt (l : List RecD) : ∀ x ∈ cflat l, x < 256 := by
  intro x hx
  obtain ⟨r, _, h⟩ := List.mem_flatMap.1 hx
  exact cheadP_lt r x h
theorem creadP_mid (s : ByteArray) (a b : List Nat) (r : RecD) (hf : r.Fits) (hr : recErr r = 0) (hs : bytesOf s = a ++ (cheadP r ++ b)) : creadP s (a.length : Nat) = (r, 46 + (nameP r.k r.p).length, 0) := by
  have hz : a.length ≤ s.size := by rw [← length_bytesOf, hs, List.length_append]; omega
  unfold creadP
  rw [if_neg (by omega), Int.toNat_natCast]
  refine creadX_head r _ b hf hr ?_
  rw [bytesOf_extract, hs, List.drop_left' rfl]
  refine List.take_of_length_le ?_
  have := congrArg List.length hs
  rw [length_bytesOf, List.length_append] at this
  omega
theorem crun_flat (l : List RecD) (s : ByteArray) (hs : bytesOf s = cflat l) (hl : ∀ r ∈ l, r.Fits ∧ recErr r = 0) : ∀ i, i ≤ l.length → crun s i = (0, l.take i, (cflat (l.take i)).length)
  | 0, _ => by simp [crun, cflat]
  | i + 1, hi => by
    have ih := crun_flat l s hs hl i (by omega)
    have hm := hl l[i] (List.getElem_mem (by omega))
    have hd : cflat l = cflat (l.take i) ++ (cheadP l[i] ++ cflat (l.drop (i + 1))) := by
      conv => lhs; rw [← List.take_append_drop i l, cflat_append, List.drop_eq_getElem_cons (show i < l.length by omega)]
      congr 1
    have hrd := creadP_mid s (cflat (l.take i)) (cflat (l.drop (i + 1))) l[i] hm.1 hm.2 (by rw [hs, hd])
    rw [crun_step s ih (by rw [hrd])]
    rw [hrd]
    dsimp only
    rw [List.take_succ_eq_append_getElem (show i < l.length by omega), cflat_append, List.length_append]
    congr 3
    simp [cflat, cheadP_len]
theorem crun_all (l : List RecD) (s : ByteArray) (hs : bytesOf s = cflat l) (hl : ∀ r ∈ l, r.Fits ∧ recErr r = 0) : crun s l.length = (0, l, s.size) := by
  rw [crun_flat l s hs hl l.length (Nat.le_refl _), List.take_of_length_le (Nat.le_refl _), ← hs, length_bytesOf]
theorem back_all (l : List RecD) (s : ByteArray) (hs : bytesOf s = cflat l) (hl : ∀ r ∈ l, r.Fits ∧ recErr r = 0) (ht : twiceB l = false) : callP s (l.length : Nat) = (l, 0) := by
  unfold callP
  rw [if_neg (by omega), Int.toNat_natCast, crun_all l s hs hl]
  dsimp only
  rw [if_neg (by omega), if_neg (by omega), ht, if_neg (by simp)]
theorem back_end (l : List RecD) (s : ByteArray) (hs : bytesOf s = cflat l) (hl : ∀ r ∈ l, r.Fits ∧ recErr r = 0) : (callP s ((l.length + 1 : Nat) : Int)).2 = 3 := by
  have h0 : creadP s (s.size : Nat) = (noneR, 0, 3) := by
    unfold creadP
    rw [if_neg (by omega)]
    exact if_pos (.inl (by rw [ByteArray.size_extract]; simp))
  have h := crun_stop s (crun_all l s hs hl) (by rw [h0]; simp) (l.length + 1) (by omega)
  rw [h0] at h
  unfold callP
  rw [if_neg (by omega), Int.toNat_natCast, h, if_pos (by simp)]
theorem cflat_pos (l : List RecD) (h : 0 < l.length) : 46 ≤ (cflat l).length := by
  cases l with
  | nil => simp at h
  | cons r l => simp [cflat, cheadP_len]; omega
theorem back_more (l : List RecD) (s : ByteArray) (hs : bytesOf s = cflat l) (hl : ∀ r ∈ l, r.Fits ∧ recErr r = 0) (h0 : 0 < l.length) : (callP s ((l.length - 1 : Nat) : Int)).2 = 14 := by
  have h := crun_flat l s hs hl (l.length - 1) (by omega)
  have hd : cflat l = cflat (l.take (l.length - 1)) ++ cflat (l.drop (l.length - 1)) := by rw [← cflat_append, List.take_append_drop]
  have hp := cflat_pos (l.drop (l.length - 1)) (by rw [List.length_drop]; omega)
  have hz := congrArg List.length hs
  rw [hd, List.length_append, length_bytesOf] at hz
  unfold callP
  rw [if_neg (by omega), Int.toNat_natCast, h]
  dsimp only
  rw [if_neg (by omega), if_pos (by omega)]
theorem twiceB_self (l : List RecD) (h0 : 0 < l.length) : twiceB (l ++ l) = true := by
  cases l with
  | nil => simp at h0
  | cons r l =>
    rw [List.cons_append, twiceB, Bool.or_eq_true]
    refine .inl (decide_eq_true ?_)
    rw [List.map_append]
    exact List.mem_append_right _ (by simp)
theorem back_twice (l : List RecD) (s : ByteArray) (hs : bytesOf s = cflat l) (hl : ∀ r ∈ l, r.Fits ∧ recErr r = 0) (h0 : 0 < l.length) : (callP (s ++ s) ((2 * l.length : Nat) : Int)).2 = 6 := by
  have hs2 : bytesOf (s ++ s) = cflat (l ++ l) := by rw [bytesOf_append, hs, cflat_append]
  have h := crun_all (l ++ l) (s ++ s) hs2 (fun r hr => hl r (by rcases List.mem_append.1 hr with h | h <;> exact h))
  rw [List.length_append, ← Nat.two_mul] at h
  unfold callP
  rw [if_neg (by omega), Int.toNat_natCast, h]
  dsimp only
  rw [if_neg (by omega), if_neg (by omega), if_pos (twiceB_self l h0)]
theorem cflat_size (l : List RecD) : (cflat l).length = (l.map fun r => 46 + (nameP r.k r.p).length).sum := by
  induction l with
  | nil => rfl
  | cons r l ih =>
    show (cheadP r ++ cflat l).length = _
    rw [List.length_append, cheadP_len, ih]; rfl
theorem recErr_len {r : RecD} (h : recErr r = 0) : r.p.size ≤ 200 := by
  obtain ⟨n1, n2, _⟩ := nameB_parts (recErr_parts h).1
  have := pathP_size n1
  rw [n2, length_bytesOf] at this
  exact this
end Go.Proofs.YtibmhadnfggmlaaDoor

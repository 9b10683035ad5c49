/- Packages local and swingleref19: Tail: plain, and walks. -/
import Derived.Test.YtibmhadnfggmlaaDoorHdW
import Derived.Test.YtibmhadnfggmlaaDoorRefA
namespace Go.Proofs.YtibmhadnfggmlaaDoor
open Go.RowKit
set_option linter.unusedVariables false

/-- What stands behind an entry: its sum, how many bytes laid and whole, how long it is. -/
def tailX (x : ByteArray) : Nat × Nat × Nat × Nat × Bool :=
  if x.size < 12 ∨ (gN x 0 4 = 134695760 ∧ x.size < 16) then (0, 0, 0, 0, false)
  else if gN x 0 4 = 134695760 then (gN x 4 4, gN x 8 4, gN x 12 4, 16, true) else (gN x 0 4, gN x 4 4, gN x 8 4, 12, true)
def tailP (s : ByteArray) (a : Int) : Nat × Nat × Nat × Nat × Bool := if a < 0 ∨ (s.size : Int) < a then (0, 0, 0, 0, false) else tailX (s.extract a.toNat s.size)
def tailV (t : Nat × Nat × Nat × Nat × Bool) : Value := .tuple #[.int .u32 (t.1 : Nat), .int .i64 (t.2.1 : Nat), .int .i64 (t.2.2.1 : Nat), .int .i64 (t.2.2.2.1 : Nat), .bool t.2.2.2.2]
theorem results_tmp5 {fn : Func} {t u v x y : Tmp} (h : fn.results = #[.tmp t, .tmp u, .tmp v, .tmp x, .tmp y]) (tmps : Array Value) (P : Program) (w : World) :
    (results fn tmps).run P w = .ok (.tuple #[tmps.getD t undef, tmps.getD u undef, tmps.getD v undef, tmps.getD x undef, tmps.getD y undef]) w := by
  simp [results, h]
theorem gN4_lt (x : ByteArray) (i : Nat) : gN x i 4 < 4294967296 := gN_lt x i 4
set_option maxRecDepth 100000 in
set_option maxHeartbeats 4000000 in
theorem rtail_any (s : ByteArray) (a : Int) (w : World) (hs : s.size ≤ 1000000) : Calls Tryd.prog 44 #[.string s, .int .i64 a] w fun e w' => e = .returned (tailV (tailP s a)) ∧ Upd [] w w' := by
  by_cases ha : a < 0 ∨ (s.size : Int) < a
  · have HV : Hid (tailP s a = (0, 0, 0, 0, false)) := Lib.hid (if_pos ha)
    rcases ha with ha | ha
    · go_enter Tryd.func44, Tryd.ntmps44
      go_wp2
      (try simp only [Exit.inBlock, Exit.then]); refine bodyPost_ret (results_tmp5 rfl _ _ _) rfl ⟨?_, Upd.refl _ _⟩
      rw [HV.out]; rfl
    · have ha0 : ¬ a < 0 := by omega
      go_enter Tryd.func44, Tryd.ntmps44
      go_wp2
      (try simp only [Exit.inBlock, Exit.then]); refine bodyPost_ret (results_tmp5 rfl _ _ _) rfl ⟨?_, Upd.refl _ _⟩
      rw [HV.out]; rfl
  · obtain ⟨i, rfl⟩ : ∃ i : Nat, a = i := ⟨a.toNat, by omega⟩
    have hi0 : (0 : Int) ≤ (i : Int) := by omega
    have hi1 : (i : Int) ≤ (s.size : Int) := by omega
    obtain ⟨x, hx⟩ : ∃ x, x = s.extract i s.size := ⟨_, rfl⟩
    have hxs : x.size = s.size - i := by rw [hx, ByteArray.size_extract]; omega
    have HV : Hid (tailP s i = tailX x) := Lib.hid (by unfold tailP; rw [if_neg ha, hx]; rfl)
    have HXD := Lib.hid hx
    clear ha hx
    by_cases h12 : x.size < 12
    · have HV2 : Hid (tailX x = (0, 0, 0, 0, false)) := Lib.hid (if_pos (.inl h12))
      have hz : (s.size : Int) - (i : Int) < 12 := by omega
      go_enter Tryd.func44, Tryd.ntmps44
      go_wp2
      (try simp only [Exit.inBlock, Exit.then]); refine bodyPost_ret (results_tmp5 rfl _ _ _) rfl ⟨?_, Upd.refl _ _⟩
      rw [HV.out, HV2.out]; rfl
    · have hz : ¬ (s.size : Int) - (i : Int) < 12 := by omega
      have hM2 : (((s.extract i s.size).extract 0 4).toList == [80, 75, 7, 8]) = decide (gN x 0 4 = 134695760) := by rw [← HXD.out]; exact magic4 x (by omega) [80, 75, 7, 8] 134695760 rfl (by decide)
      have hxm : x.size ≤ 1000000 := by omega
      have hx4 : (4 : Int) ≤ ((s.extract i s.size).size : Int) := by rw [← HXD.out]; omega
      have b0 := gN4_lt x 0
      have b4 := gN4_lt x 4
      have b8 := gN4_lt x 8
      have b12 := gN4_lt x 12
      have HA0 := Lib.hid (fun w h => rAt_any x 0 4 w h hxm (by omega))
      have HA4 := Lib.hid (fun w h => rAt_any x 4 4 w h hxm (by omega))
      have HA8 := Lib.hid (fun w h => rAt_any x 8 4 w h hxm (by omega))
      have HA12 := Lib.hid (fun w h => rAt_any x 12 4 w h hxm (by omega))
      by_cases hb : gN x 0 4 = 134695760
      · rw [decide_eq_true hb] at hM2
        by_cases h16 : x.size < 16
        · have HV2 : Hid (tailX x = (0, 0, 0, 0, false)) := Lib.hid (if_pos (.inr ⟨hb, h16⟩))
          have hz2 : ((s.extract i s.size).size : Int) < 16 := by rw [← HXD.out]; omega
          clear hb
          go_enter Tryd.func44, Tryd.ntmps44
          go_wp2
          (try simp only [Exit.inBlock, Exit.then]); refine bodyPost_ret (results_tmp5 rfl _ _ _) rfl ⟨?_, Upd.refl _ _⟩
          rw [HV.out, HV2.out]; rfl
        · have HV2 : Hid (tailX x = (gN x 4 4, gN x 8 4, gN x 12 4, 16, true)) := Lib.hid (by unfold tailX; rw [if_neg (by omega), if_pos hb])
          have hz2 : ¬ ((s.extract i s.size).size : Int) < 16 := by rw [← HXD.out]; omega
          clear hb
          generalize gN x 4 4 = va at *
          generalize gN x 8 4 = vb at *
          generalize gN x 12 4 = vc at *
          go_enter Tryd.func44, Tryd.ntmps44
          go_wp2_with fail
          rw [← HXD.out]
          refine (HA4.out _ (by omega)).mono ?_
          rintro e w1 ⟨rfl, hU1⟩
          go_wp2_with fail
          try rw [← HXD.out]
          refine (HA8.out _ (by omega)).mono ?_
          rintro e w2 ⟨rfl, hU2⟩
          go_wp2_with fail
          try rw [← HXD.out]
          refine (HA12.out _ (by omega)).mono ?_
          rintro e w3 ⟨rfl, hU3⟩
          go_wp2
          (try simp only [Exit.inBlock, Exit.then]); refine bodyPost_ret (results_tmp5 rfl _ _ _) rfl ⟨?_, (hU1.then hU2).then hU3⟩
          rw [HV.out, HV2.out]; rfl
      · rw [decide_eq_false hb] at hM2
        have HV2 : Hid (tailX x = (gN x 0 4, gN x 4 4, gN x 8 4, 12, true)) := Lib.hid (by unfold tailX; rw [if_neg (by omega), if_neg hb])
        have hz2 : ¬ ((s.extract i s.size).size : Int) < 12 := by rw [← HXD.out]; omega
        clear hb
        generalize gN x 0 4 = va at *
        generalize gN x 4 4 = vb at *
        generalize gN x 8 4 = vc at *
        go_enter Tryd.func44, Tryd.ntmps44
        go_wp2_with fail
        rw [← HXD.out]
        refine (HA0.out _ (by omega)).mono ?_
        rintro e w1 ⟨rfl, hU1⟩
        go_wp2_with fail
        try rw [← HXD.out]
        refine (HA4.out _ (by omega)).mono ?_
        rintro e w2 ⟨rfl, hU2⟩
        go_wp2_with fail
        try rw [← HXD.out]
        refine (HA8.out _ (by omega)).mono ?_
        rintro e w3 ⟨rfl, hU3⟩
        go_wp2
        (try simp only [Exit.inBlock, Exit.then]); refine bodyPost_ret (results_tmp5 rfl _ _ _) rfl ⟨?_, (hU1.then hU2).then hU3⟩
        rw [HV.out, HV2.out]; rfl
/-- Tail's run on a reader. -/
def tailR (r : RS) : Nat × Nat × Nat × RS :=
  let a := r.num 4
  let b := if a.1 = 134695760 then a.2.num 4 else a
  let c := b.2.num 4
  let d := c.2.num 4
  (b.1, c.1, d.1, d.2)
theorem tailR_eq (x : ByteArray) : if x.size < 12 ∨ (gN x 0 4 = 134695760 ∧ x.size < 16) then (tailR ⟨x, 0, false⟩).2.2.2.bad = true
    else tailR ⟨x, 0, false⟩ = ((tailX x).1, (tailX x).2.1, (tailX x).2.2.1, ⟨x, (tailX x).2.2.2.1, false⟩) ∧ (tailX x).2.2.2.2 = true := by
  have nbad : ∀ r : RS, r.bad = true → ∀ k, (r.num k).2.bad = true := fun r h k => by unfold RS.num; exact RS.text_isbad h k
  have nshort : ∀ p k, p ≤ x.size → x.size < p + k → ((⟨x, p, false⟩ : RS).num k).2.bad = true := fun p k h1 h2 => by unfold RS.num; exact RS.text_not ⟨x, p, false⟩ k h2 h1
  have nz : ∀ k, x.size < k → ((⟨x, 0, false⟩ : RS).num k).1 = 0 := fun k h => by unfold RS.num; rw [RS.text_short k (by omega)]; rfl
  unfold tailR tailX
  dsimp only
  by_cases h4 : x.size < 4
  · rw [if_pos (.inl (by omega)), nz 4 h4, if_neg (by decide)]
    exact nbad _ (nbad _ (nshort 0 4 (by omega) (by omega)) 4) 4
  · rw [num_fine 4 (by omega : 0 + 4 ≤ x.size)]
    dsimp only
    by_cases hb : gN x 0 4 = 134695760
    · rw [if_pos hb]
      by_cases h8 : x.size < 8
      · rw [if_pos (.inl (by omega))]
        exact nbad _ (nbad _ (nshort (0 + 4) 4 (by omega) (by omega)) 4) 4
      · rw [num_fine 4 (by omega : 0 + 4 + 4 ≤ x.size)]
        dsimp only
        by_cases h12 : x.size < 12
        · rw [if_pos (.inl h12)]
          exact nbad _ (nshort (0 + 4 + 4) 4 (by omega) (by omega)) 4
        · rw [num_fine 4 (by omega : 0 + 4 + 4 + 4 ≤ x.size)]
          dsimp only
          by_cases h16 : x.size < 16
          · rw [if_pos (.inr ⟨hb, h16⟩)]
            exact nshort (0 + 4 + 4 + 4) 4 (by omega) (by omega)
          · have hn : ¬ (x.size < 12 ∨ gN x 0 4 = 134695760 ∧ x.size < 16) := by omega
            rw [if_neg hn, num_fine 4 (by omega : 0 + 4 + 4 + 4 + 4 ≤ x.size), if_neg hn, if_pos hb]
            exact ⟨rfl, rfl⟩
    · rw [if_neg hb]
      dsimp only
      by_cases h8 : x.size < 8
      · rw [if_pos (.inl (by omega))]
        exact nbad _ (nshort (0 + 4) 4 (by omega) (by omega)) 4
      · rw [num_fine 4 (by omega : 0 + 4 + 4 ≤ x.size)]
        dsimp only
        by_cases h12 : x.size < 12
        · rw [if_pos (.inl h12)]
          exact nshort (0 + 4 + 4) 4 (by omega) (by omega)
        · have hn : ¬ (x.size < 12 ∨ gN x 0 4 = 134695760 ∧ x.size < 16) := by omega
          rw [if_neg hn, num_fine 4 (by omega : 0 + 4 + 4 + 4 ≤ x.size), if_neg hn, if_neg hb]
          exact ⟨rfl, rfl⟩
set_option maxRecDepth 100000 in
set_option maxHeartbeats 4000000 in
theorem tail_any (s : ByteArray) (a : Int) (w : World) (hs : s.size ≤ 1000000) : Calls Tryd.prog 43 #[.string s, .int .i64 a] w fun e w' => e = .returned (tailV (tailP s a)) ∧ Upd [] w w' := by
  by_cases ha : a < 0 ∨ (s.size : Int) < a
  · have HV : Hid (tailP s a = (0, 0, 0, 0, false)) := Lib.hid (if_pos ha)
    rcases ha with ha | ha
    · go_enter Tryd.func43, Tryd.ntmps43
      go_wp2
      (try simp only [Exit.inBlock, Exit.then]); refine bodyPost_ret (results_tmp5 rfl _ _ _) rfl ⟨?_, Upd.refl _ _⟩
      rw [HV.out]; rfl
    · have ha0 : ¬ a < 0 := by omega
      go_enter Tryd.func43, Tryd.ntmps43
      go_wp2
      (try simp only [Exit.inBlock, Exit.then]); refine bodyPost_ret (results_tmp5 rfl _ _ _) rfl ⟨?_, Upd.refl _ _⟩
      rw [HV.out]; rfl
  · obtain ⟨i, rfl⟩ : ∃ i : Nat, a = i := ⟨a.toNat, by omega⟩
    have hi0 : (0 : Int) ≤ (i : Int) := by omega
    have hi1 : (i : Int) ≤ (s.size : Int) := by omega
    obtain ⟨x, hx⟩ : ∃ x, x = s.extract i s.size := ⟨_, rfl⟩
    have hxs : x.size ≤ 1000000 := by rw [hx, ByteArray.size_extract]; omega
    have HV : Hid (tailP s i = tailX x) := Lib.hid (by unfold tailP; rw [if_neg ha, hx]; rfl)
    have HXD := Lib.hid hx
    have HEQ := Lib.hid (tailR_eq x)
    clear ha hx
    have HX0 : Hid (tailX x = if x.size < 12 ∨ (gN x 0 4 = 134695760 ∧ x.size < 16) then (0, 0, 0, 0, false) else tailX x) := Lib.hid (by
      by_cases h : x.size < 12 ∨ (gN x 0 4 = 134695760 ∧ x.size < 16)
      · rw [if_pos h]; unfold tailX; rw [if_pos h]
      · rw [if_neg h])
    unfold tailR at HEQ
    obtain ⟨va, ra, ha1⟩ : ∃ v r', (⟨x, 0, false⟩ : RS).num 4 = (v, r') := ⟨_, _, rfl⟩
    have oa : ra.Ok := by have := RS.num_ok (show (⟨x, 0, false⟩ : RS).Ok from Nat.zero_le _) 4; rw [ha1] at this; exact this
    have sa : ra.s.size ≤ 1000000 := by have := RS.num_s (⟨x, 0, false⟩ : RS) 4; rw [ha1] at this; dsimp only at this; rw [this]; exact hxs
    have ba : va < 4294967296 := by have := RS.num_lt (⟨x, 0, false⟩ : RS) 4; rw [ha1] at this; exact this
    rw [ha1] at HEQ
    dsimp only at HEQ
    have Ha1 := Lib.hid ha1
    clear ha1
    by_cases hb : va = 134695760
    · subst hb
      rw [if_pos rfl] at HEQ
      obtain ⟨vb, rb, hb1⟩ : ∃ v r', ra.num 4 = (v, r') := ⟨_, _, rfl⟩
      have ob : rb.Ok := by have := RS.num_ok oa 4; rw [hb1] at this; exact this
      have sb : rb.s.size ≤ 1000000 := by have := RS.num_s ra 4; rw [hb1] at this; dsimp only at this; rw [this]; exact sa
      have bb : vb < 4294967296 := by have := RS.num_lt ra 4; rw [hb1] at this; exact this
      rw [hb1] at HEQ
      dsimp only at HEQ
      have Hb1 := Lib.hid hb1
      clear hb1
      obtain ⟨vc, rc, hc1⟩ : ∃ v r', rb.num 4 = (v, r') := ⟨_, _, rfl⟩
      have oc : rc.Ok := by have := RS.num_ok ob 4; rw [hc1] at this; exact this
      have sc : rc.s.size ≤ 1000000 := by have := RS.num_s rb 4; rw [hc1] at this; dsimp only at this; rw [this]; exact sb
      have bc : vc < 4294967296 := by have := RS.num_lt rb 4; rw [hc1] at this; exact this
      rw [hc1] at HEQ
      dsimp only at HEQ
      have Hc1 := Lib.hid hc1
      clear hc1
      obtain ⟨vd, rd, hd1⟩ : ∃ v r', rc.num 4 = (v, r') := ⟨_, _, rfl⟩
      have od : rd.Ok := by have := RS.num_ok oc 4; rw [hd1] at this; exact this
      have sd : rd.s.size ≤ 1000000 := by have := RS.num_s rc 4; rw [hd1] at this; dsimp only at this; rw [this]; exact sc
      have bd : vd < 4294967296 := by have := RS.num_lt rc 4; rw [hd1] at this; exact this
      rw [hd1] at HEQ
      dsimp only at HEQ
      have Hd1 := Lib.hid hd1
      clear hd1
      by_cases hcond : x.size < 12 ∨ (gN x 0 4 = 134695760 ∧ x.size < 16)
      · rw [if_pos hcond] at HEQ HX0
        clear hcond
        go_enter Tryd.func43, Tryd.ntmps43
        go_wp2_with fail
        rw [← HXD.out]
        refine (rdRead_any x _).mono ?_
        rintro e y0 ⟨rfl, hR0, hv0⟩
        have HG0 := Lib.hid (Nat.le_refl w.heap.size)
        generalize hb0 : w.heap.size = b0 at *
        have HG : Hid (w.heap.size ≤ b0) := Lib.hid (by omega)
        clear HG0 hb0
        have HR0 := Lib.hid hR0
        have HU0 := Lib.hid hv0
        clear hR0 hv0
        go_wp2_with fail
        refine (rdNum_any b0 4 134695760 ⟨x, 0, false⟩ ra _ Ha1.out HR0.out hxs (Nat.zero_le _) (by omega)).mono ?_
        rintro e y1 ⟨rfl, hR1, hv1⟩
        have HR1 := Lib.hid hR1
        have HU1 := Lib.hid (HU0.out.trans hv1 (fun k hk => .inr (by simp at hk; have := HG.out; omega)))
        clear hR1 hv1 HR0 HU0
        go_wp2_with fail
        refine (rdNum_any b0 4 vb ra rb _ Hb1.out HR1.out sa oa (by omega)).mono ?_
        rintro e y2 ⟨rfl, hR2, hv2⟩
        have HR2 := Lib.hid hR2
        have HU2 := Lib.hid (HU1.out.trans hv2 (fun k hk => .inr (by simp at hk; have := HG.out; omega)))
        clear hR2 hv2 HR1 HU1
        go_wp2_with fail
        refine (rdNum_any b0 4 vc rb rc _ Hc1.out HR2.out sb ob (by omega)).mono ?_
        rintro e y3 ⟨rfl, hR3, hv3⟩
        have HR3 := Lib.hid hR3
        have HU3 := Lib.hid (HU2.out.trans hv3 (fun k hk => .inr (by simp at hk; have := HG.out; omega)))
        clear hR3 hv3 HR2 HU2
        go_wp2_with fail
        refine (rdNum_any b0 4 vd rc rd _ Hd1.out HR3.out sc oc (by omega)).mono ?_
        rintro e y4 ⟨rfl, hR4, hv4⟩
        have HR4 := Lib.hid hR4
        have HU4 := Lib.hid (HU3.out.trans hv4 (fun k hk => .inr (by simp at hk; have := HG.out; omega)))
        clear hR4 hv4 HR3 HU3
        go_wp2_with fail
        refine (rdFine_any b0 _ _ HR4.out).mono ?_
        rintro e y9 ⟨rfl, rfl⟩
        rw [HEQ.out]
        go_wp2
        (try simp only [Exit.inBlock, Exit.then]); refine bodyPost_ret (results_tmp5 rfl _ _ _) rfl ⟨?_, HU4.out⟩
        rw [HV.out, HX0.out]; rfl
      · rw [if_neg hcond] at HEQ
        clear hcond HX0
        have HE := HEQ.out
        clear HEQ
        generalize tailX x = TX at *
        obtain ⟨t1, t2, t3, t4, t5⟩ := TX
        dsimp only at HE
        obtain ⟨he, rfl⟩ := HE
        simp only [Prod.mk.injEq] at he
        obtain ⟨e1, e2, e3, e4⟩ := he
        subst e1 e2 e3
        have HB4 : Hid (rd.bad = false) := Lib.hid (by rw [e4])
        have HP4 : Hid (rd.p = t4) := Lib.hid (by rw [e4])
        clear e4
        go_enter Tryd.func43, Tryd.ntmps43
        go_wp2_with fail
        rw [← HXD.out]
        refine (rdRead_any x _).mono ?_
        rintro e y0 ⟨rfl, hR0, hv0⟩
        have HG0 := Lib.hid (Nat.le_refl w.heap.size)
        generalize hb0 : w.heap.size = b0 at *
        have HG : Hid (w.heap.size ≤ b0) := Lib.hid (by omega)
        clear HG0 hb0
        have HR0 := Lib.hid hR0
        have HU0 := Lib.hid hv0
        clear hR0 hv0
        go_wp2_with fail
        refine (rdNum_any b0 4 134695760 ⟨x, 0, false⟩ ra _ Ha1.out HR0.out hxs (Nat.zero_le _) (by omega)).mono ?_
        rintro e y1 ⟨rfl, hR1, hv1⟩
        have HR1 := Lib.hid hR1
        have HU1 := Lib.hid (HU0.out.trans hv1 (fun k hk => .inr (by simp at hk; have := HG.out; omega)))
        clear hR1 hv1 HR0 HU0
        go_wp2_with fail
        refine (rdNum_any b0 4 vb ra rb _ Hb1.out HR1.out sa oa (by omega)).mono ?_
        rintro e y2 ⟨rfl, hR2, hv2⟩
        have HR2 := Lib.hid hR2
        have HU2 := Lib.hid (HU1.out.trans hv2 (fun k hk => .inr (by simp at hk; have := HG.out; omega)))
        clear hR2 hv2 HR1 HU1
        go_wp2_with fail
        refine (rdNum_any b0 4 vc rb rc _ Hc1.out HR2.out sb ob (by omega)).mono ?_
        rintro e y3 ⟨rfl, hR3, hv3⟩
        have HR3 := Lib.hid hR3
        have HU3 := Lib.hid (HU2.out.trans hv3 (fun k hk => .inr (by simp at hk; have := HG.out; omega)))
        clear hR3 hv3 HR2 HU2
        go_wp2_with fail
        refine (rdNum_any b0 4 vd rc rd _ Hd1.out HR3.out sc oc (by omega)).mono ?_
        rintro e y4 ⟨rfl, hR4, hv4⟩
        have HR4 := Lib.hid hR4
        have HU4 := Lib.hid (HU3.out.trans hv4 (fun k hk => .inr (by simp at hk; have := HG.out; omega)))
        clear hR4 hv4 HR3 HU3
        go_wp2_with fail
        refine (rdFine_any b0 _ _ HR4.out).mono ?_
        rintro e y9 ⟨rfl, rfl⟩
        rw [HB4.out]
        go_wp2_with fail
        refine (rdAt_any b0 _ _ HR4.out).mono ?_
        rintro e y10 ⟨rfl, rfl⟩
        rw [HP4.out]
        go_wp2
        (try simp only [Exit.inBlock, Exit.then]); refine bodyPost_ret (results_tmp5 rfl _ _ _) rfl ⟨?_, HU4.out⟩
        rw [HV.out]; rfl
    · rw [if_neg hb] at HEQ
      dsimp only at HEQ
      have tb : ((va : Int) == 134695760) = false := by rw [beq_eq_false_iff_ne]; omega
      obtain ⟨vc, rc, hc1⟩ : ∃ v r', ra.num 4 = (v, r') := ⟨_, _, rfl⟩
      have oc : rc.Ok := by have := RS.num_ok oa 4; rw [hc1] at this; exact this
      have sc : rc.s.size ≤ 1000000 := by have := RS.num_s ra 4; rw [hc1] at this; dsimp only at this; rw [this]; exact sa
      have bc : vc < 4294967296 := by have := RS.num_lt ra 4; rw [hc1] at this; exact this
      rw [hc1] at HEQ
      dsimp only at HEQ
      have Hc1 := Lib.hid hc1
      clear hc1
      obtain ⟨vd, rd, hd1⟩ : ∃ v r', rc.num 4 = (v, r') := ⟨_, _, rfl⟩
      have od : rd.Ok := by have := RS.num_ok oc 4; rw [hd1] at this; exact this
      have sd : rd.s.size ≤ 1000000 := by have := RS.num_s rc 4; rw [hd1] at this; dsimp only at this; rw [this]; exact sc
      have bd : vd < 4294967296 := by have := RS.num_lt rc 4; rw [hd1] at this; exact this
      rw [hd1] at HEQ
      dsimp only at HEQ
      have Hd1 := Lib.hid hd1
      clear hd1
      by_cases hcond : x.size < 12 ∨ (gN x 0 4 = 134695760 ∧ x.size < 16)
      · rw [if_pos hcond] at HEQ HX0
        clear hcond
        go_enter Tryd.func43, Tryd.ntmps43
        go_wp2_with fail
        rw [← HXD.out]
        refine (rdRead_any x _).mono ?_
        rintro e y0 ⟨rfl, hR0, hv0⟩
        have HG0 := Lib.hid (Nat.le_refl w.heap.size)
        generalize hb0 : w.heap.size = b0 at *
        have HG : Hid (w.heap.size ≤ b0) := Lib.hid (by omega)
        clear HG0 hb0
        have HR0 := Lib.hid hR0
        have HU0 := Lib.hid hv0
        clear hR0 hv0
        go_wp2_with fail
        refine (rdNum_any b0 4 va ⟨x, 0, false⟩ ra _ Ha1.out HR0.out hxs (Nat.zero_le _) (by omega)).mono ?_
        rintro e y1 ⟨rfl, hR1, hv1⟩
        have HR1 := Lib.hid hR1
        have HU1 := Lib.hid (HU0.out.trans hv1 (fun k hk => .inr (by simp at hk; have := HG.out; omega)))
        clear hR1 hv1 HR0 HU0
        go_wp2_with fail
        refine (rdNum_any b0 4 vc ra rc _ Hc1.out HR1.out sa oa (by omega)).mono ?_
        rintro e y2 ⟨rfl, hR2, hv2⟩
        have HR2 := Lib.hid hR2
        have HU2 := Lib.hid (HU1.out.trans hv2 (fun k hk => .inr (by simp at hk; have := HG.out; omega)))
        clear hR2 hv2 HR1 HU1
        go_wp2_with fail
        refine (rdNum_any b0 4 vd rc rd _ Hd1.out HR2.out sc oc (by omega)).mono ?_
        rintro e y3 ⟨rfl, hR3, hv3⟩
        have HR3 := Lib.hid hR3
        have HU3 := Lib.hid (HU2.out.trans hv3 (fun k hk => .inr (by simp at hk; have := HG.out; omega)))
        clear hR3 hv3 HR2 HU2
        go_wp2_with fail
        refine (rdFine_any b0 _ _ HR3.out).mono ?_
        rintro e y9 ⟨rfl, rfl⟩
        rw [HEQ.out]
        go_wp2
        (try simp only [Exit.inBlock, Exit.then]); refine bodyPost_ret (results_tmp5 rfl _ _ _) rfl ⟨?_, HU3.out⟩
        rw [HV.out, HX0.out]; rfl
      · rw [if_neg hcond] at HEQ
        clear hcond HX0
        have HE := HEQ.out
        clear HEQ
        generalize tailX x = TX at *
        obtain ⟨t1, t2, t3, t4, t5⟩ := TX
        dsimp only at HE
        obtain ⟨he, rfl⟩ := HE
        simp only [Prod.mk.injEq] at he
        obtain ⟨e1, e2, e3, e4⟩ := he
        subst e1 e2 e3
        have HB4 : Hid (rd.bad = false) := Lib.hid (by rw [e4])
        have HP4 : Hid (rd.p = t4) := Lib.hid (by rw [e4])
        clear e4
        go_enter Tryd.func43, Tryd.ntmps43
        go_wp2_with fail
        rw [← HXD.out]
        refine (rdRead_any x _).mono ?_
        rintro e y0 ⟨rfl, hR0, hv0⟩
        have HG0 := Lib.hid (Nat.le_refl w.heap.size)
        generalize hb0 : w.heap.size = b0 at *
        have HG : Hid (w.heap.size ≤ b0) := Lib.hid (by omega)
        clear HG0 hb0
        have HR0 := Lib.hid hR0
        have HU0 := Lib.hid hv0
        clear hR0 hv0
        go_wp2_with fail
        refine (rdNum_any b0 4 va ⟨x, 0, false⟩ ra _ Ha1.out HR0.out hxs (Nat.zero_le _) (by omega)).mono ?_
        rintro e y1 ⟨rfl, hR1, hv1⟩
        have HR1 := Lib.hid hR1
        have HU1 := Lib.hid (HU0.out.trans hv1 (fun k hk => .inr (by simp at hk; have := HG.out; omega)))
        clear hR1 hv1 HR0 HU0
        go_wp2_with fail
        refine (rdNum_any b0 4 vc ra rc _ Hc1.out HR1.out sa oa (by omega)).mono ?_
        rintro e y2 ⟨rfl, hR2, hv2⟩
        have HR2 := Lib.hid hR2
        have HU2 := Lib.hid (HU1.out.trans hv2 (fun k hk => .inr (by simp at hk; have := HG.out; omega)))
        clear hR2 hv2 HR1 HU1
        go_wp2_with fail
        refine (rdNum_any b0 4 vd rc rd _ Hd1.out HR2.out sc oc (by omega)).mono ?_
        rintro e y3 ⟨rfl, hR3, hv3⟩
        have HR3 := Lib.hid hR3
        have HU3 := Lib.hid (HU2.out.trans hv3 (fun k hk => .inr (by simp at hk; have := HG.out; omega)))
        clear hR3 hv3 HR2 HU2
        go_wp2_with fail
        refine (rdFine_any b0 _ _ HR3.out).mono ?_
        rintro e y9 ⟨rfl, rfl⟩
        rw [HB4.out]
        go_wp2_with fail
        refine (rdAt_any b0 _ _ HR3.out).mono ?_
        rintro e y10 ⟨rfl, rfl⟩
        rw [HP4.out]
        go_wp2
        (try simp only [Exit.inBlock, Exit.then]); refine bodyPost_ret (results_tmp5 rfl _ _ _) rfl ⟨?_, HU3.out⟩
        rw [HV.out]; rfl
end Go.Proofs.YtibmhadnfggmlaaDoor

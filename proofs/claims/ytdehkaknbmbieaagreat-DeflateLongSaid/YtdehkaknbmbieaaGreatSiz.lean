/- Package block: Sizes: its walk. -/
import Derived.Test.YtdehkaknbmbieaaGreatMade
import Derived.Test.YtdehkaknbmbieaaGreatQAZ
namespace Go.Proofs.YtdehkaknbmbieaaGreat
set_option linter.unusedVariables false
set_option linter.unusedSimpArgs false
set_option linter.unusedSectionVars false
open Go.RowKit
attribute [local go_sem] Oper.semAt_some
set_option linter.unusedVariables false
set_option linter.unusedSimpArgs false

/-- How many bytes tokens make. -/
def tokLen (t : Tok) : Nat := if t.long ≤ 1 then 1 else t.long.toNat
def expLen (l : List Tok) : Nat := (l.map tokLen).sum
theorem expLen_snoc (l : List Tok) (t : Tok) : expLen (l ++ [t]) = expLen l + tokLen t := by unfold expLen; simp
theorem tokLen_le {t : Tok} (h : okTok t) : tokLen t ≤ 258 := by unfold tokLen; unfold okTok at h; split <;> omega
theorem expLen_le : ∀ (l : List Tok), (∀ t ∈ l, okTok t) → expLen l ≤ 258 * l.length
  | [], _ => by simp [expLen]
  | t :: l, h => by
    have ih := expLen_le l (fun x hx => h x (List.mem_cons_of_mem _ hx))
    have h1 := tokLen_le (h t List.mem_cons_self)
    unfold expLen at *
    rw [List.map_cons, List.sum_cons, List.length_cons]
    omega
theorem nextS_sym (r : List Int) (a : Int) (h : ∀ x ∈ r, 0 ≤ x ∧ x ≤ 15) : (nextS r a).1.sym < 19 ∧ (nextS r a).1.bits ≤ 7 := by
  unfold nextS
  split
  · exact ⟨show 18 < 19 by omega, show runBn 18 ≤ 7 by decide⟩
  · split
    · exact ⟨show 17 < 19 by omega, show runBn 17 ≤ 7 by decide⟩
    · split
      · exact ⟨show 16 < 19 by omega, show runBn 16 ≤ 7 by decide⟩
      · cases r with
        | nil => exact ⟨by decide, by decide⟩
        | cons x r => have := h x List.mem_cons_self; exact ⟨by show x.toNat < 19; omega, Nat.zero_le _⟩
theorem ofS_sym : ∀ (f : Nat) (r : List Int) (a : Int), (∀ x ∈ r, 0 ≤ x ∧ x ≤ 15) → ∀ s ∈ ofS f r a, s.sym < 19 ∧ s.bits ≤ 7
  | 0, _, _, _, s, hs => by cases hs
  | f + 1, r, a, h, s, hs => by
    rw [ofS_succ] at hs
    split at hs
    · cases hs
    · rcases List.mem_cons.1 hs with rfl | hs
      · exact nextS_sym r a h
      · exact ofS_sym f _ _ (fun x hx => h x (List.mem_of_mem_drop hx)) s hs
theorem getD_take_le {l : List Nat} {m b : Nat} (h : ∀ x ∈ l, x ≤ b) : ∀ x ∈ l.take m, x ≤ b := fun x hx => h x (List.mem_of_mem_take hx)
theorem MadeO.bd {l : List Tok} {lits backs lens : List Nat} {steps : List StpD} (h : MadeO l lits backs steps lens) (hl : (manyF l).1.length = 286 ∧ (manyF l).2.length = 30) :
    257 ≤ lits.length ∧ lits.length ≤ 286 ∧ 1 ≤ backs.length ∧ backs.length ≤ 30 ∧ (∀ x ∈ lits, x ≤ 15) ∧ (∀ x ∈ backs, x ≤ 15) ∧ (∀ s ∈ steps, s.sym < 19 ∧ s.bits ≤ 7) ∧ (∀ x ∈ lens, x ≤ 7) ∧ lens.length = 19 ∧ steps.length ≤ 316 := by
  obtain ⟨u1, m1, hu1, ht1, e1⟩ := h.a
  obtain ⟨u2, m2, hu2, ht2, e2⟩ := h.b
  obtain ⟨u3, hu3, e3⟩ := h.c
  have i1 : (ints (manyF l).1).length = 286 := by simp [ints, hl.1]
  have i2 : (ints (manyF l).2).length = 30 := by simp [ints, hl.2]
  have b1 := ofL_le i1 hu1 (L := 15) (by omega) (by omega) (by have := hu1.le; omega)
  have b2 := ofL_le i2 hu2 (L := 15) (by omega) (by omega) (by have := hu2.le; omega)
  have l1 : lits.length = m1 := by rw [e1, List.length_take, ofL_len]; exact Nat.min_eq_left ht1.le
  have l2 : backs.length = m2 := by rw [e2, List.length_take, ofL_len]; exact Nat.min_eq_left ht2.le
  have x1 : ∀ x ∈ lits, x ≤ 15 := by rw [e1]; exact getD_take_le b1
  have x2 : ∀ x ∈ backs, x ≤ 15 := by rw [e2]; exact getD_take_le b2
  have hs19 : (countS steps).length = 19 := by have := (countS_ok steps steps.length (Nat.le_refl _)).1; rwa [List.take_length] at this
  have hf1 := ht1.few
  have hf2 := ht2.few
  have hle1 := ht1.le
  have hle2 := ht2.le
  have hsl : steps.length ≤ lits.length + backs.length := by rw [h.s]; exact ofS_le _ _ _
  refine ⟨by omega, by omega, by omega, by omega, x1, x2, ?_, ?_, ?_, by omega⟩
  · rw [h.s]
    refine ofS_sym _ _ _ (fun x hx => ?_)
    obtain ⟨y, hy, rfl⟩ := List.mem_map.1 hx
    rcases List.mem_append.1 hy with hy | hy
    · have := x1 y hy; omega
    · have := x2 y hy; omega
  · rw [e3]
    exact ofL_le (by simp [ints, fixC_len, hs19]) hu3 (by omega) (by omega) (by have := hu3.le; omega)
  · rw [e3, ofL_len]
theorem StpIn.updF {w w' : World} {a : Option Addr} {len : Nat} {l : List StpD} {fp : List Nat} (h : StpIn w a len l) (hU : Upd fp w w') (hf : ∀ b off, a = some ⟨b, off, none⟩ → b ∉ fp) : StpIn w' a len l :=
  ⟨h.len, fun i hi => by
    obtain ⟨b, off, e, c1, c2, c3⟩ := h.cell i hi
    have hb : b < w.heap.size := World.block_lt_of_cell? w _ c1
    have hn := hf b off e
    exact ⟨b, off, e, (hU.at hb hn _).trans c1, (hU.at hb hn _).trans c2, (hU.at hb hn _).trans c3⟩⟩
theorem row_ne_blk {w : World} {e t : TypeId} {size n b : Nat} {v : Value} {xs cs : List Value} (h : Row w e size v n xs) (hB : Blk w b cs t) (ht : t ≠ e) : v.ownBlock ≠ some b := by
  rcases h.2 with ⟨rfl, rfl⟩ | ⟨g', cap, cur, rfl, hb, hh, _⟩
  · simp [Value.ownBlock]
  · intro e2
    simp [Value.ownBlock] at e2
    subst e2
    unfold Blk at hB
    rw [hB] at hh
    simp at hh
    exact ht hh.2
theorem info3 : (Tryz.prog.info? 39).map (·.size) = some 3 := by kernel_rfl
/-- What the three kinds have. -/
def SizesP (l : List Tok) (w : World) (e : Ending) (w' : World) : Prop := ∃ (lits backs lens : List Nat) (steps : List StpD) (t : Nat), MadeO l lits backs steps lens ∧ ToldO lens t ∧
  e = .returned (.agg #[.int .i64 ((35 + 8 * expLen l : Nat) : Int), .int .i64 (3 + bodyI (ints (fixP 4)) (ints (List.replicate 32 5)) (manyF l)), .int .i64 (((3 + (14 + 3 * t + szT lens steps) : Nat) : Int) + bodyI (ints lits) (ints backs) (manyF l))]) ∧ Upd [] w w'
theorem ints_in15 {l : List Nat} (h : ∀ x ∈ l, x ≤ 15) : ∀ v ∈ ints l, 0 ≤ v ∧ v ≤ 15 := fun v hv => by
  obtain ⟨y, hy, rfl⟩ := List.mem_map.1 hv
  have := h y hy
  omega
theorem bodyI_bd (x y : List Nat) (hx : ∀ v ∈ x, v ≤ 15) (hy : ∀ v ∈ y, v ≤ 15) (l : List Tok) (hn : l.length ≤ 100000) (hok : ∀ t ∈ l, okTok t) : 0 ≤ bodyI (ints x) (ints y) (manyF l) ∧ bodyI (ints x) (ints y) (manyF l) ≤ 6000015 := by
  rw [bodyI_bits _ _ (ints_in15 hx) (ints_in15 hy) l hn hok]
  have := bitsOf_bd _ _ (ints_in15 hx) (ints_in15 hy) l hok l.length (Nat.le_refl _)
  rw [List.take_length] at this
  omega
theorem fix15 : (∀ x ∈ fixP 4, x ≤ 15) ∧ (∀ x ∈ List.replicate 32 5, x ≤ 15) ∧ (fixP 4).length = 288 := by decide +kernel
set_option maxRecDepth 100000 in
set_option maxHeartbeats 12800000 in
theorem sizes_any (l : List Tok) (a : Option Addr) (n cap : Nat) (w : World) (hI : TokIn w a n l) (hn : n ≤ 100000) (hok : ∀ t ∈ l, okTok t) :
    Calls Tryz.prog 14 #[.slice a n cap] w fun e w' => SizesP l w e w' := by
  have hln := hI.len
  have HUo := Lib.hid ((Upd.refl [] w).alloc (.cells #[.int .i64 0, .int .i64 0, .int .i64 0] 39))
  have HBo := Lib.hid (Blk.new w [.int .i64 0, .int .i64 0, .int .i64 0] 39)
  have HMA := Lib.hid (fun w1 (h : Upd [] w w1) => made_any l a n cap w1 (hI.pure h) hn hok)
  have HBF := Lib.hid (fun w1 (h : Upd [] w w1) (x y : List Int) ax ay nx cx ny cy hX hY h1 h2 => body_any l x y a ax ay n cap nx cx ny cy w1 (hI.pure h) hn hok hX hY h1 h2)
  have HML := Lib.hid (by have := many_ok l l.length (Nat.le_refl _); rw [List.take_length] at this; exact And.intro this.la this.lb)
  have HEL := Lib.hid (fun i => expLen_le (l.take i) (fun t h => hok t (List.mem_of_mem_take h)))
  have HOK := Lib.hid hok
  have HBB := Lib.hid (fun x y hx hy => bodyI_bd x y hx hy l (by omega) hok)
  have HI := Lib.hid hI
  have HLN := Lib.hid hln
  clear hI hok hln
  go_enter Tryz.func14, Tryz.ntmps14
  go_upto_region 1 with fail
  change Code.wp _ _ _ _ (w.alloc (.cells #[.int .i64 0, .int .i64 0, .int .i64 0] 39))
  generalize w.alloc (.cells #[.int .i64 0, .int .i64 0, .int .i64 0] 39) = w1 at *
  obtain ⟨ob, hob⟩ : ∃ ob, w.heap.size = ob := ⟨_, rfl⟩
  rw [hob] at HBo ⊢
  have HOB := Lib.hid hob
  clear hob
  go_wp2
  go_loopg [3, 11] 200000 (fun gg s3 s11 wr => ∃ i : Nat, i ≤ n ∧ gg = 200000 - i ∧ s11 = .int .i64 (i : Nat) ∧ s3 = .int .i64 (expLen (l.take i) : Nat) ∧ Hid (Upd [] w1 wr))
  case atStart => exact ⟨0, by omega, by omega, rfl, rfl, Lib.hid (Upd.refl _ _)⟩
  case round =>
    obtain ⟨i, hin, rfl, rfl, rfl, HU⟩ := hrel
    have hms : expLen (l.take i) ≤ 258 * i := Nat.le_trans (HEL.out i) (Nat.mul_le_mul_left _ (List.length_take_le _ _))
    by_cases hc : i < n
    · have hcz : (i : Int) < (n : Int) := by omega
      have hil : i < l.length := by rw [HLN.out]; exact hc
      have hw1 : IntKind.i64.wrap ((i : Int) + 1) = ((i + 1 : Nat) : Int) := by rw [IntWalk.i64_in _ (by omega)]; rfl
      obtain ⟨b, off, rfl, ⟨hc1, hc2, hc3⟩, r1, r2, r3⟩ := (HI.out.pure (HUo.out.then HU.out)).cell i hil
      have HSM : Hid (expLen (l.take (i + 1)) = expLen (l.take i) + tokLen l[i]) := Lib.hid (by rw [List.take_succ_eq_append_getElem hil, expLen_snoc])
      have htl := tokLen_le (HOK.out _ (List.getElem_mem hil))
      have hmx : max 1 l[i].long = (tokLen l[i] : Int) := by unfold tokLen; split <;> omega
      generalize l[i] = t at *
      generalize tokLen t = mt at *
      obtain ⟨tb, tl, tk⟩ := t
      dsimp only at hc1 hc2 hc3 r1 r2 r3 hmx
      have HU4 := Lib.hid (HU.out.alloc (.cells #[.int .u8 (tb : Nat), .int .i64 tl, .int .i64 tk] 49))
      generalize expLen (l.take i) = ms at *
      have hws : IntKind.i64.wrap ((ms : Int) + (mt : Int)) = ((ms + mt : Nat) : Int) := by rw [IntWalk.i64_in _ (by omega)]; rfl
      clear hil
      go_wp2
      go_roundg (200000 - (i + 1))
      · exact ⟨i + 1, by omega, by first | rfl | omega, by first | rfl | go_num, by rw [HSM.out]; first | rfl | go_num, HU4⟩
      · omega
    · have hcz : ¬ (i : Int) < (n : Int) := by omega
      obtain rfl : i = n := by omega
      have htk : l.take i = l := List.take_of_length_le (by rw [HLN.out]; exact Nat.le_refl _)
      rw [htk] at hms ⊢
      clear htk
      have HU1 := Lib.hid (HUo.out.then HU.out)
      have HMM := Lib.hid (HMA.out wr HU1.out)
      clear HMA
      go_wp2_with fail
      refine HMM.out.mono ?_
      rintro e w3 ⟨g1, c1, g2, c2, g4, v3, lits, backs, lens, steps, rfl, hM, hR1, hR2, hR3, hB4, hU3⟩
      obtain ⟨va, vc, rfl⟩ := hR3.form
      obtain ⟨m1, m1', m2, m2', x15, y15, hsy, hl7, hl19, hsl⟩ := hM.bd HML.out
      have HMO := Lib.hid hM
      have HX15 := Lib.hid x15
      have HY15 := Lib.hid y15
      have HU3 := Lib.hid (HU1.out.then hU3)
      have HBo3 := Lib.hid (HBo.out.upd (HU.out.then hU3) (by simp))
      have hIl : IntsIn w3 (some ⟨g1, 0, none⟩) lits.length (ints lits) := IntsIn.row hR1 (fun x hx => by have := x15 x hx; omega)
      have hIb : IntsIn w3 (some ⟨g2, 0, none⟩) backs.length (ints backs) := IntsIn.row hR2 (fun x hx => by have := y15 x hx; omega)
      have hIn : IntsIn w3 (some ⟨g4, 0, none⟩) 19 (ints lens) := IntsIn.blk hB4 hl19 (fun x hx => by have := hl7 x hx; omega)
      have ng1 : g1 ≠ ob := fun e => row_ne_blk hR1 HBo3.out (by decide) (by simp [Value.ownBlock, e])
      have ng2 : g2 ≠ ob := fun e => row_ne_blk hR2 HBo3.out (by decide) (by simp [Value.ownBlock, e])
      have ng3 := row_ne_blk hR3 HBo3.out (by decide)
      have ng4 : g4 ≠ ob := fun e => by
        subst e
        have h1 := hB4
        have h2 := HBo3.out
        unfold Blk at h1 h2
        rw [h1] at h2
        simp at h2
      have HSZ0 := Lib.hid (fun w9 (h : Upd [ob] w3 w9) => size_any lens steps (some ⟨g1, 0, none⟩) (some ⟨g2, 0, none⟩) va (some ⟨g4, 0, none⟩) lits.length backs.length steps.length c1 c2 vc 19 w9 (hIn.upd h (fun b off e => by cases e; simpa using ng4)) ((StpIn.row hR3 rfl).updF h (fun b off e => by subst e; simp [Value.ownBlock] at ng3; simpa using ng3)) (by omega) (fun j => by have := getD_le hl7 j; omega) hsy)
      have HZB : Hid (szT lens steps ≤ 22 * 316) := Lib.hid (Nat.le_trans (szT_le lens (fun j => by have := getD_le hl7 j; omega) steps (fun s hs => (hsy s hs).2)) (Nat.mul_le_mul_left _ hsl))
      have HIL := Lib.hid hIl
      have HIB := Lib.hid hIb
      clear hM x15 y15 hIl hIb hIn hR1 hR2 hR3 hB4 hU3 hsy hl7 hl19 HMM
      have hP4 := Blk.new w3 [.slice (some ⟨g1, 0, none⟩) lits.length c1, .slice (some ⟨g2, 0, none⟩) backs.length c2, .slice va steps.length vc, .slice (some ⟨g4, 0, none⟩) 19 19] 61
      have hUp := (Upd.refl [] w3).alloc (.cells #[.slice (some ⟨g1, 0, none⟩) lits.length c1, .slice (some ⟨g2, 0, none⟩) backs.length c2, .slice va steps.length vc, .slice (some ⟨g4, 0, none⟩) 19 19] 61)
      go_upto_region 8 with fail
      change Code.wp _ _ _ _ (w3.alloc (.cells #[.slice (some ⟨g1, 0, none⟩) lits.length c1, .slice (some ⟨g2, 0, none⟩) backs.length c2, .slice va steps.length vc, .slice (some ⟨g4, 0, none⟩) 19 19] 61))
      generalize w3.alloc (.cells #[.slice (some ⟨g1, 0, none⟩) lits.length c1, .slice (some ⟨g2, 0, none⟩) backs.length c2, .slice va steps.length vc, .slice (some ⟨g4, 0, none⟩) 19 19] 61) = w4 at *
      have hpo : ob < w3.heap.size := HBo3.out.lt
      generalize w3.heap.size = pb at *
      have HP4 := Lib.hid hP4
      have HUp := Lib.hid hUp
      clear hP4 hUp
      go_wp2_with fail
      refine (fixed_any _).mono ?_
      rintro e w5 ⟨f1, d1, f2, rfl, hF1, hF2, hU5, hf1, hf2⟩
      have hIf1 : IntsIn w5 (some ⟨f1, 0, none⟩) 288 (ints (fixP 4)) := IntsIn.row hF1 (fun x hx => by have := fix15.1 x hx; omega)
      have hIf2 : IntsIn w5 (some ⟨f2, 0, none⟩) 32 (ints (List.replicate 32 5)) := IntsIn.row hF2 (fun x hx => by have := fix15.2.1 x hx; omega)
      have HP5 := Lib.hid (HP4.out.upd hU5 (by simp))
      have hBo5 := HBo3.out.upd (HUp.out.then hU5) (by simp)
      have hfo : f1 ≠ ob ∧ f2 ≠ ob := by have := HP4.out.lt; constructor <;> omega
      have HU35 := Lib.hid (HUp.out.then hU5)
      clear hF1 hF2 hU5 hf1 hf2
      have hel : expLen l ≤ 25800000 := by omega
      obtain ⟨N, hN⟩ : ∃ N, expLen l = N := ⟨_, rfl⟩
      rw [hN] at hel ⊢
      have HNE := Lib.hid hN
      have hBF := HBB.out (fixP 4) (List.replicate 32 5) fix15.1 fix15.2.1
      obtain ⟨BF, hBFe⟩ : ∃ B, bodyI (ints (fixP 4)) (ints (List.replicate 32 5)) (manyF l) = B := ⟨_, rfl⟩
      rw [hBFe] at hBF
      have HBFE := Lib.hid hBFe
      have hBV := HBB.out lits backs HX15.out HY15.out
      obtain ⟨BV, hBVe⟩ : ∃ B, bodyI (ints lits) (ints backs) (manyF l) = B := ⟨_, rfl⟩
      rw [hBVe] at hBV
      have HBVE := Lib.hid hBVe
      have o0 := hBo5.cell 0 rfl
      have of0 := hBo5.frz 0
      have hUS5 : Upd [ob] w5 (w5.setCell ⟨ob, 0, none⟩ (.int .i64 (35 + 8 * (N : Int)))) := (Upd.refl [ob] w5).setCell (.inl (by simp)) _
      have hBs5 := hBo5.set 0 (.int .i64 (35 + 8 * (N : Int)))
      simp only [List.set_cons_zero, List.set_cons_succ] at hBs5
      have hU5a : Upd [] w (w5.setCell ⟨ob, 0, none⟩ (.int .i64 (35 + 8 * (N : Int)))) := ((HU3.out.then HU35.out).trans hUS5 (fun k hk => .inr (by have := HOB.out; simp at hk; omega)))
      have HBC : Hid (Calls Tryz.prog 32 #[.slice a i cap, .slice (some ⟨f1, 0, none⟩) 288 d1, .slice (some ⟨f2, 0, none⟩) 32 32] (w5.setCell ⟨ob, 0, none⟩ (.int .i64 (35 + 8 * (N : Int)))) fun e w' => e = .returned (.int .i64 BF) ∧ Upd [] (w5.setCell ⟨ob, 0, none⟩ (.int .i64 (35 + 8 * (N : Int)))) w') :=
        Lib.hid ((HBF.out _ hU5a (ints (fixP 4)) (ints (List.replicate 32 5)) _ _ 288 d1 32 32 (hIf1.upd hUS5 (fun b off e => by cases e; simpa using hfo.1)) (hIf2.upd hUS5 (fun b off e => by cases e; simpa using hfo.2)) (by omega) (by omega)).mono (fun e w' ⟨h1, h2⟩ => ⟨by rw [h1, hBFe], h2⟩))
      have HUW0 := Lib.hid (HU35.out.mono (fp' := [ob]) (by simp) |>.then hUS5)
      have HU5a := Lib.hid hU5a
      have HBs5 := Lib.hid hBs5
      have HP5s := Lib.hid (HP5.out.upd hUS5 (by have := hfo; simp; omega))
      clear hIf1 hIf2 hBo5 hUS5 hBs5 hU5a hN hBFe hBVe HP4 HUp HP5 HBo3 HU3 hms
      go_wp2_with fail
      refine HBC.out.mono ?_
      rintro e w6 ⟨rfl, hU6⟩
      have hb6 := HBs5.out.upd hU6 (by simp)
      have o1 := hb6.cell 1 rfl
      have of1 := hb6.frz 1
      have hUS6 : Upd [ob] w6 (w6.setCell ⟨ob, 1, none⟩ (.int .i64 (3 + BF))) := (Upd.refl [ob] w6).setCell (.inl (by simp)) _
      have hBs6 := hb6.set 1 (.int .i64 (3 + BF))
      simp only [List.set_cons_zero, List.set_cons_succ] at hBs6
      have HBO1 := Lib.hid hBs6
      have HUW3 := Lib.hid ((HUW0.out.trans (fp' := []) hU6 (by simp)).then hUS6)
      have HUWw := Lib.hid ((HU5a.out.then hU6).trans hUS6 (fun k hk => .inr (by have := HOB.out; simp at hk; omega)))
      have HPW := Lib.hid ((HP5s.out.upd hU6 (by simp)).upd hUS6 (by simp; omega))
      clear hb6 hUS6 hBs6 hU6 HBC HUW0 HU5a HBs5 HP5s
      go_upto_region 11 with fail
      change Code.wp _ _ _ _ (w6.setCell ⟨ob, 1, none⟩ (.int .i64 (3 + BF)))
      generalize w6.setCell ⟨ob, 1, none⟩ (.int .i64 (3 + BF)) = W at *
      clear o0 of0 o1 of1
      have HSZ := Lib.hid (fun w9 (h : Upd [] W w9) => HSZ0.out w9 (HUW3.out.trans h (by simp)))
      have HBO : Hid (∀ w9, Upd [] W w9 → Calls Tryz.prog 32 #[.slice a i cap, .slice (some ⟨g1, 0, none⟩) lits.length c1, .slice (some ⟨g2, 0, none⟩) backs.length c2] w9 fun e w' => e = .returned (.int .i64 BV) ∧ Upd [] w9 w') :=
        Lib.hid (fun w9 h => (HBF.out _ (HUWw.out.then h) (ints lits) (ints backs) _ _ _ c1 _ c2 (HIL.out.upd (HUW3.out.trans (fp' := []) h (by simp)) (fun b off e => by cases e; simpa using ng1)) (HIB.out.upd (HUW3.out.trans (fp' := []) h (by simp)) (fun b off e => by cases e; simpa using ng2)) (by omega) (by omega)).mono (fun e w' ⟨h1, h2⟩ => ⟨by rw [h1, HBVE.out], h2⟩))
      have k0 := HPW.out.cell 0 rfl
      have k1 := HPW.out.cell 1 rfl
      have k2 := HPW.out.cell 2 rfl
      have k3 := HPW.out.cell 3 rfl
      clear HSZ0 HBF
      refine wp_region_held_drew (S := fun w' => HC [ob] W [(⟨pb, 0, none⟩, .slice (some ⟨g1, 0, none⟩) lits.length c1), (⟨pb, 1, none⟩, .slice (some ⟨g2, 0, none⟩) backs.length c2), (⟨pb, 2, none⟩, .slice va steps.length vc), (⟨pb, 3, none⟩, .slice (some ⟨g4, 0, none⟩) 19 19)] w') (by kernel_rfl) (HC.of (fp := [ob]) (W := W) (fs := [(⟨pb, 0, none⟩, .slice (some ⟨g1, 0, none⟩) lits.length c1), (⟨pb, 1, none⟩, .slice (some ⟨g2, 0, none⟩) backs.length c2), (⟨pb, 2, none⟩, .slice va steps.length vc), (⟨pb, 3, none⟩, .slice (some ⟨g4, 0, none⟩) 19 19)]) ⟨k0, k1, k2, k3, trivial⟩).drew (fun hHeld => ?_)
      change wpAnyH _ _ _ _ _ 12 #[false, false, false, false, false, false, false, false, false, false, false, false] _ _
      refine heldTake (i := 0) (d := some 37) (v := ?v0_1) rfl rfl (by kernel_rfl) (by kernel_rfl) (by kernel_rfl) (fun _ _ _ h => h) (by rfl) ?hy0_1 (by assumption) ?r0_1
      case hy0_1 => (intro w hSw; have q0 := hSw.cells.1; have q1 := hSw.cells.2.1; have q2 := hSw.cells.2.2.1; have q3 := hSw.cells.2.2.2.1; dsimp only at q0 q1 q2 q3; clear hSw; go_simp; try with_reducible rfl)
      try simp only [Act.put, List.setIfInBounds_toArray, List.set_cons_zero, List.set_cons_succ]
      change wpAnyH _ _ _ _ _ 11 #[true, false, false, false, false, false, false, false, false, false, false, false] _ _
      refine heldTake (i := 3) (d := some 40) (v := ?v3_2) rfl rfl (by kernel_rfl) (by kernel_rfl) (by kernel_rfl) (fun _ _ _ h => h) (by rfl) ?hy3_2 (by assumption) ?r3_2
      case hy3_2 => (intro w hSw; (try dsimp only at hSw); go_simp; try with_reducible rfl)
      try simp only [Act.put, List.setIfInBounds_toArray, List.set_cons_zero, List.set_cons_succ]
      change wpAnyH _ _ _ _ _ 10 #[true, false, false, true, false, false, false, false, false, false, false, false] _ _
      refine heldTake (i := 4) (d := some 41) (v := ?v4_3) rfl rfl (by kernel_rfl) (by kernel_rfl) (by kernel_rfl) (fun _ _ _ h => h) (by rfl) ?hy4_3 (by assumption) ?r4_3
      case hy4_3 => (intro w hSw; (try dsimp only at hSw); go_simp; try with_reducible rfl)
      try simp only [Act.put, List.setIfInBounds_toArray, List.set_cons_zero, List.set_cons_succ]
      change wpAnyH _ _ _ _ _ 9 #[true, false, false, true, true, false, false, false, false, false, false, false] _ _
      refine heldTake (i := 5) (d := some 42) (v := ?v5_4) rfl rfl (by kernel_rfl) (by kernel_rfl) (by kernel_rfl) (fun _ _ _ h => h) (by rfl) ?hy5_4 (by assumption) ?r5_4
      case hy5_4 => (intro w hSw; have q0 := hSw.cells.1; dsimp only at q0; clear hSw; go_simp; try with_reducible rfl)
      try simp only [Act.put, List.setIfInBounds_toArray, List.set_cons_zero, List.set_cons_succ]
      change wpAnyH _ _ _ _ _ 8 #[true, false, false, true, true, true, false, false, false, false, false, false] _ _
      refine heldTake (i := 6) (d := some 43) (v := ?v6_5) rfl rfl (by kernel_rfl) (by kernel_rfl) (by kernel_rfl) (fun _ _ _ h => h) (by rfl) ?hy6_5 (by assumption) ?r6_5
      case hy6_5 => (intro w hSw; (try dsimp only at hSw); go_simp; try with_reducible rfl)
      try simp only [Act.put, List.setIfInBounds_toArray, List.set_cons_zero, List.set_cons_succ]
      change wpAnyH _ _ _ _ _ 7 #[true, false, false, true, true, true, true, false, false, false, false, false] _ _
      refine heldTake (i := 7) (d := some 44) (v := ?v7_6) rfl rfl (by kernel_rfl) (by kernel_rfl) (by kernel_rfl) (fun _ _ _ h => h) (by rfl) ?hy7_6 (by assumption) ?r7_6
      case hy7_6 => (intro w hSw; have q0 := hSw.cells.2.1; dsimp only at q0; clear hSw; go_simp; try with_reducible rfl)
      try simp only [Act.put, List.setIfInBounds_toArray, List.set_cons_zero, List.set_cons_succ]
      change wpAnyH _ _ _ _ _ 6 #[true, false, false, true, true, true, true, true, false, false, false, false] _ _
      refine wpAnyH_ready (rs := [1]) (by kernel_rfl) (by simp) ?_
      refine AllReadyH.cons rfl (fun K hK => ?_) AllReadyH.nil
      go_simp
      refine (HSZ.out _ (Upd.drew (Upd.refl [] W))).mono ?_
      rintro e z1 ⟨t, rfl, ht, hU⟩
      have HT := Lib.hid ht
      have HUz1 := Lib.hid ((Upd.drew (Upd.refl [] W)).then hU)
      have hszb : 14 + 3 * t + szT lens steps ≤ 100000 := by have := ht.hi; have := HZB.out; omega
      obtain ⟨SZ, hSZ⟩ : ∃ SZ, 14 + 3 * t + szT lens steps = SZ := ⟨_, rfl⟩
      rw [hSZ] at hszb ⊢
      have HSZE := Lib.hid hSZ
      obtain ⟨S3, hS3⟩ : ∃ S3, 3 + SZ = S3 := ⟨_, rfl⟩
      have hws : IntKind.i64.wrap (3 + (SZ : Int)) = (S3 : Int) := by rw [IntWalk.i64_in _ (by omega)]; omega
      have hs3b : S3 ≤ 100003 := by omega
      have HS3 := Lib.hid hS3
      clear ht hSZ hS3
      go_wp2
      refine hK.out _ _ (hHeld.then hU) (fun hHeld => ?_)
      clear hK K
      try simp only [Act.put, List.setIfInBounds_toArray, List.set_cons_zero, List.set_cons_succ]
      clear hU
      change wpAnyH _ _ _ _ _ 5 #[true, true, false, true, true, true, true, true, false, false, false, false] _ _
      refine heldTake (i := 2) (d := some 39) (v := (.int .i64 (S3 : Int))) rfl rfl (by kernel_rfl) (by kernel_rfl) (by kernel_rfl) (fun _ _ _ h => h) (by rfl) ?hy2_8 (by assumption) ?r2_8
      case hy2_8 => (intro w hSw; clear hSw; go_simp; try with_reducible rfl)
      try simp only [Act.put, List.setIfInBounds_toArray, List.set_cons_zero, List.set_cons_succ]
      change wpAnyH _ _ _ _ _ 4 #[true, true, true, true, true, true, true, true, false, false, false, false] _ _
      refine wpAnyH_ready (rs := [8]) (by kernel_rfl) (by simp) ?_
      refine AllReadyH.cons rfl (fun K hK => ?_) AllReadyH.nil
      go_simp
      refine (HBO.out _ HUz1.out).mono ?_
      rintro e z2 ⟨rfl, hU⟩
      have hUz2 := HUz1.out.then hU
      have hb2 := HBO1.out.upd hUz2 (by simp)
      have o2 := hb2.cell 2 rfl
      have f2 := hb2.frz 2
      have HB2 := Lib.hid hb2
      have HUz2 := Lib.hid hUz2
      have hwt : IntKind.i64.wrap ((S3 : Int) + BV) = (S3 : Int) + BV := IntWalk.i64_in _ (by omega)
      clear hUz2 hb2
      go_wp2
      refine hK.out _ _ (hHeld.then hU) (fun hHeld => ?_)
      clear hK K
      try simp only [Act.put, List.setIfInBounds_toArray, List.set_cons_zero, List.set_cons_succ]
      clear hU
      change wpAnyH _ _ _ _ _ 3 #[true, true, true, true, true, true, true, true, true, false, false, false] _ _
      refine heldTake (i := 9) (d := some 46) (v := (.int .i64 ((S3 : Int) + BV))) rfl rfl (by kernel_rfl) (by kernel_rfl) (by kernel_rfl) (fun _ _ _ h => h) (by rfl) ?hy9_10 (by assumption) ?r9_10
      case hy9_10 => (intro w hSw; clear hSw; go_simp; try with_reducible rfl)
      try simp only [Act.put, List.setIfInBounds_toArray, List.set_cons_zero, List.set_cons_succ]
      change wpAnyH _ _ _ _ _ 2 #[true, true, true, true, true, true, true, true, true, true, false, false] _ _
      refine heldTake (i := 10) (d := some 47) (v := ?v10_11) rfl rfl (by kernel_rfl) (by kernel_rfl) (by kernel_rfl) (fun _ _ _ h => h) (by rfl) ?hy10_11 (by assumption) ?r10_11
      case hy10_11 => (intro w hSw; (try dsimp only at hSw); go_simp; try with_reducible rfl)
      try simp only [Act.put, List.setIfInBounds_toArray, List.set_cons_zero, List.set_cons_succ]
      change wpAnyH _ _ _ _ _ 1 #[true, true, true, true, true, true, true, true, true, true, true, false] _ _
      refine wpAnyH_ready (rs := [11]) (by kernel_rfl) (by simp) ?_
      refine AllReadyH.cons rfl (fun K hK => ?_) AllReadyH.nil
      go_simp
      skip
      go_wp2
      refine hK.out _ _ (hHeld.set _ _ (.inl (by simp)) (by simp; omega)) (fun hHeld => ?_)
      clear hK K
      try simp only [Act.put, List.setIfInBounds_toArray, List.set_cons_zero, List.set_cons_succ]
      change wpAnyH _ _ _ _ _ 0 #[true, true, true, true, true, true, true, true, true, true, true, true] _ _
      refine wpAnyH_done (by kernel_rfl) ?_ 0
      clear hHeld
      have hB9 := HB2.out.set 2 (.int .i64 ((S3 : Int) + BV))
      simp only [List.set_cons_zero, List.set_cons_succ] at hB9
      have HU9 := Lib.hid ((HUWw.out.then HUz2.out).setCell (p := ⟨ob, 2, none⟩) (.inr (by have := HOB.out; show w.heap.size ≤ ob; omega)) (.int .i64 ((S3 : Int) + BV)))
      clear o2 f2 k0 k1 k2 k3 hws hwt
      go_wp2_with (first
        | (refine wpList_loadBlk rfl 39 _ rfl ob rfl 39 _ hB9 _ Tryz.underlying39 rfl (by rw [info3]; rfl) ?_)
        | (refine wpList_storeBlk rfl 39 _ _ rfl ob rfl _ rfl 39 _ hB9 (by rw [info3]; rfl) rfl (by simp [Value.oneCell']) ?_; intro w14 hB14 hU14))
      refine bodyPost_ret (results_cell_row rfl _ _ _ _ _ _ _ rfl hB14 Tryz.underlying39 rfl (by rw [info3]; rfl)) rfl ?_
      refine ⟨lits, backs, lens, steps, t, HMO.out, HT.out, ?_, HU9.out.trans hU14 (fun k hk => .inr (by have := HOB.out; simp at hk; omega))⟩
      rw [HBFE.out, HBVE.out, HSZE.out, HNE.out, HS3.out, show ((35 + 8 * N : Nat) : Int) = 35 + 8 * (N : Int) by omega]
end Go.Proofs.YtdehkaknbmbieaaGreat

/- The law swinglelaw03.BitioBack: its walk. -/
import Derived.Test.YtcddlnmfdjfjfaaBkI
import Derived.Test.YtcddlnmfdjfjfaaLawBitW
import Derived.Test.YtcddlnmfdjfjfaaHeld
namespace Go.Proofs.Ytcddlnmfdjfjfaa
open Go.RowKit Go.Shelf
attribute [local go_sem] Oper.semAt_some
set_option linter.unusedVariables false

/-- A part of a function that leaves with a mark, which doesn't panic. -/
theorem wp_calmM {P : Program} {c : Code} {K : Act → World → Prop} {Q : Exit → Act → World → Prop} {a : Act} {w : World} (h : c.wp P (Exit.then K fun _ _ _ => False) a w) : c.wp P (Exit.then K Q) a w :=
  Code.wp_mono (fun e a w h => by cases e <;> first | exact h | exact h.elim) h
theorem inBlock_two {id : Nat} {R : Exit → Act → World → Prop} {e : Exit} {a : Act} {W : World} (he : e = .normal ∨ e = .exit id) (h : Exit.inBlock id R .normal a W) : Exit.inBlock id R e a W := by
  rcases he with rfl | rfl
  · exact h
  · simpa [Exit.inBlock] using h
theorem run_equalIn_func {P : Program} (d : Nat) (t : TypeId) {ps rs : Array TypeId} {va : Bool} (h : P.underlying t = some (.func ps rs va)) (fn : Fn) (fi ca : Array Value) (w : World) : (Op.equalIn (d + 1) t (.func fn fi ca) .nilFunc).run P w = .ok false w := by
  simp [Op.equalIn, run_underlying h]
theorem run_equal_seq32 (fn : Fn) (fi ca : Array Value) (w : World) : (Op.equal 51 (.func fn fi ca) .nilFunc).run Try.prog w = .ok false w :=
  run_equalIn_func 9999 _ Try.underlying51 fn fi ca w
theorem run_eql_seq32 (fn : Fn) (fi ca : Array Value) (w : World) : (binOp .eql 51 (.func fn fi ca) .nilFunc).run Try.prog w = .ok (.bool false) w := by
  simp only [binOp]
  simp [run_equal_seq32 fn fi ca w]
theorem pow_fit {K : Nat} (hK : K ≤ 32) : (0 : Int) < 2 ^ K ∧ (2 : Int) ^ K ≤ 4294967296 := by
  have h1 : (2 : Int) ^ K = ((2 ^ K : Nat) : Int) := by simp
  have h2 : 2 ^ K ≤ 2 ^ 32 := Nat.pow_le_pow_right (by omega) hK
  have h3 : 0 < 2 ^ K := Nat.pos_of_ne_zero (by simp)
  rw [h1]; omega
theorem wrap64_u {x : Int} (h0 : 0 ≤ x) (h1 : x < 18446744073709551616) : IntKind.u64.wrap x = x := by
  simp [IntKind.wrap, IntKind.signed, IntKind.bits]
  omega
theorem wp_act {P : Program} {c : Code} {Q : Exit → Act → World → Prop} {a : Act} {w : World} (h : ∀ fr, fr = a → c.wp P Q fr w) : c.wp P Q a w := h a rfl
theorem Upd.putObj' {fp : List Nat} {a w : World} (h : Upd fp a w) {D : Nat} (hD : a.heap.size ≤ D) (o : Obj) : Upd fp a (w.putObj D o) := h.grown (grownBy_putObj' w D o) (fun k e => by cases e; exact .inr hD)
/-- A Writer of the law's own. -/
structure OwnW (w0 w : World) (b : Nat) (v : Value) (L : List Bool) : Prop where
  wr : WrAt w b v L (L.length / 8)
  gb : w0.heap.size ≤ b
  gv : ∀ g, v.ownBlock = some g → w0.heap.size ≤ g
theorem OwnW.pure {w0 w w' : World} {b : Nat} {v : Value} {L : List Bool} (h : OwnW w0 w b v L) (hU : Upd [] w w') : OwnW w0 w' b v L := ⟨h.wr.upd hU (by simp) (by simp), h.gb, h.gv⟩
theorem OwnW.step {w0 w w' : World} {b : Nat} {v v' : Value} {L L' : List Bool} (h : OwnW w0 w b v L) (hu : w0.heap.size ≤ w.heap.size) (hW : WrAt w' b v' L' (L'.length / 8)) (hT : Later w v v') : OwnW w0 w' b v' L' :=
  ⟨hW, h.gb, fun g hg => by
    rcases hT with e | ⟨g', e1, e2⟩
    · exact h.gv g (by rw [← e]; exact hg)
    · rw [hg] at e1; simp at e1; omega⟩
theorem OwnW.far {w0 w w' : World} {b : Nat} {v : Value} {L : List Bool} {fp : List Nat} (h : OwnW w0 w b v L) (hU : Upd fp w w') (h1 : b ∉ fp) (h2 : ∀ k, v.ownBlock = some k → k ∉ fp) : OwnW w0 w' b v L := ⟨h.wr.upd hU h1 h2, h.gb, h.gv⟩
theorem OwnW.up {w0 w w' : World} {b : Nat} {v : Value} {L : List Bool} (h : OwnW w0 w b v L) (hu : Upd [] w0 w) (hU : Upd (wrFp b v) w w') : Upd [] w0 w' := hu.trans hU (fun k hk => by
  simp only [wrFp, List.mem_cons] at hk
  right
  rcases hk with rfl | hk
  · exact h.gb
  · exact h.gv k (by simpa using hk))

/-- Between two rounds of the last loop: the Writer that takes the bits, and how many have come. -/
def BkI (w2 W0 : World) (bv bn : Nat) (pre : List Bool) (W : World) : Prop := ∃ v, OwnW w2 W bv v pre ∧ (∀ g, v.ownBlock = some g → g ≠ bn ∧ (g < W0.heap.size ∨ W0.heap.size + 3 ≤ g)) ∧ Blk W bn [.int .u64 (pre.length : Nat)] 31 ∧ Upd [] w2 W
theorem BkI.own {w2 W0 : World} {bv bn B : Nat} (hB : w2.heap.size ≤ B) : OwnFrom B (BkI w2 W0 bv bn) := fun s A C row hs hg hr => by
  obtain ⟨v, h1, h2, h3, h4⟩ := hs
  exact ⟨v, ⟨⟨blk_ownF B bv (fun (_ : Unit) => _) _ () A C row h1.wr.blk hg hr, h1.wr.row.ownF hg hr, h1.wr.le, h1.wr.far⟩, h1.gb, h1.gv⟩, h2, blk_ownF B bn (fun (_ : Unit) => _) _ () A C row h3 hg hr, upd_ownF B [] w2 hB () A C row h4 hg hr⟩
theorem BkI.w2 {w2 W0 : World} {bv bn : Nat} (h1 : bv < W0.heap.size) (h2 : bn < W0.heap.size) (h3 : w2.heap.size ≤ W0.heap.size) : ∀ s A C, BkI w2 W0 bv bn s A → Own2 [W0.heap.size + 2] A C → BkI w2 W0 bv bn s C := fun s A C hs hAC => by
  obtain ⟨v, k1, k2, k3, k4⟩ := hs
  exact ⟨v, k1.far hAC.1 (by simp; omega) (fun k hk => by simp; have := (k2 k hk).2; omega), k2, k3.upd hAC.1 (by simp; omega), k4.trans hAC.1 (fun k hk => by simp at hk; right; omega)⟩
theorem low_one (b : Bool) : low 1 b.toNat = [b] := by cases b <;> rfl
set_option maxRecDepth 100000 in
set_option maxHeartbeats 12800000 in
theorem back_walk (a : Option Addr) (len cap : Nat) (st : Nat → Nat × Nat × Int × ByteArray) (s : ByteArray) (most : Nat) (w : World) (hlc : len ≤ cap) (hcap : cap ≤ 9223372036854775807) (hst : StepsIn w a len st) (hs : s.size ≤ 9223372036854775807) (hmost : most < 18446744073709551616) :
    Calls Try.prog 5 #[.slice a len cap, .string s, .int .u64 (most : Nat)] w fun e w' => e = .returned (.bool true) ∧ Upd [] w w' := by
  have HST := Lib.hid hst
  clear hst
  have hn40 : min len 40 ≤ 40 := Nat.min_le_right _ _
  have hnl : min len 40 ≤ len := Nat.min_le_left _ _
  have hmin : Hid (min (len : Int) 40 = ((min len 40 : Nat) : Int)) := Lib.hid (by omega)
  have hmin2 : Hid (min (s.size : Int) 200 = ((min s.size 200 : Nat) : Int)) := Lib.hid (by omega)
  have hq1 : min s.size 200 ≤ s.size := Nat.min_le_left _ _
  have hTs : (s.extract 0 (min s.size 200)).size ≤ 200 := by rw [ByteArray.size_extract]; omega
  refine (callsIn_wide (n := 9)).1 ?_
  refine callsIn_of_wp_marks Try.func5 rfl trivial ?_ rfl
  simp only [Try.ntmps5, List.size_toArray, List.length_cons, List.length_nil, Nat.reduceAdd, Nat.reduceSub, Array.replicate_succ, Array.replicate_zero, List.push_toArray, List.append_toArray, List.nil_append, List.cons_append]
  refine wpIn_wide.2 ?_
  let QQ : Exit → Act → World → Prop := bodyPost Try.prog Try.f5 (fun _ _ => True)
  go_upto_region 1 with fail
  have HMo := Lib.hid (Blk.new w [.int .u64 (most : Nat)] 31)
  have HU0 := Lib.hid ((Upd.refl [] w).alloc (.cells #[.int .u64 (most : Nat)] 31))
  change Code.wp _ _ _ _ (w.alloc (.cells #[.int .u64 (most : Nat)] 31))
  generalize w.alloc (.cells #[.int .u64 (most : Nat)] 31) = w1 at *
  go_cut [0, 1] (fun s0 s1 wx => s0 = .slice a (min len 40 : Nat) cap ∧ s1 = .string (s.extract 0 (min s.size 200)) ∧ Upd [] w1 wx)
  case first =>
    have hm1 := hmin.out
    have hm2 := hmin2.out
    generalize min len 40 = n at *
    generalize min s.size 200 = n2 at *
    go_quiet (fail)
    go_wp2
    go_meet
    exact ⟨rfl, rfl, (Upd.refl _ _).drewN _⟩
  case rest =>
    obtain ⟨rfl, rfl, hU1⟩ := hcut
    clear hmin hmin2 hq1
    generalize min len 40 = n at *
    generalize s.extract 0 (min s.size 200) = S at *
    generalize wc = w2 at *
    have HU2 := Lib.hid (HU0.out.then hU1)
    have HMo2 := Lib.hid (HMo.out.upd hU1 (by simp))
    clear HMo HU0 hU1 hs
    go_wp2
    have hW0 : OwnW w2 ((w2.alloc (.cells #[.slice none 0 0, .int .u64 0, .int .i64 0] 26)).alloc (.cells #[.slice none 0 0, .int .u64 0, .int .i64 0] 26)) w2.heap.size (.slice none 0 0) [] :=
      OwnW.pure (w := w2.alloc (.cells #[.slice none 0 0, .int .u64 0, .int .i64 0] 26)) ⟨wr_new w2, Nat.le_refl _, by simp [Value.ownBlock]⟩ ((Upd.refl _ _).alloc _)
    have hV0 : OwnW w2 ((w2.alloc (.cells #[.slice none 0 0, .int .u64 0, .int .i64 0] 26)).alloc (.cells #[.slice none 0 0, .int .u64 0, .int .i64 0] 26)) (w2.heap.size + 1) (.slice none 0 0) [] :=
      ⟨by have := wr_new (w2.alloc (.cells #[.slice none 0 0, .int .u64 0, .int .i64 0] 26))
          rw [World.size_alloc] at this; exact this, by omega, by simp [Value.ownBlock]⟩
    have hUV : Upd [] w2 ((w2.alloc (.cells #[.slice none 0 0, .int .u64 0, .int .i64 0] 26)).alloc (.cells #[.slice none 0 0, .int .u64 0, .int .i64 0] 26)) := ((Upd.refl _ _).alloc _).alloc _
    have HW0 := Lib.hid hW0
    have HV0 := Lib.hid hV0
    have HUV := Lib.hid hUV
    clear hW0 hV0 hUV
    go_loopg [33] n (fun g s33 wr => ∃ i : Nat, ∃ v1, i ≤ n ∧ g = n - i ∧ s33 = .int .i64 (i : Nat) ∧ Hid (OwnW w2 wr w2.heap.size v1 (bitsUpto st i) ∧ OwnW w2 wr (w2.heap.size + 1) (.slice none 0 0) [] ∧ v1.ownBlock ≠ some (w2.heap.size + 1) ∧ Upd [] w2 wr))
    case atStart => exact ⟨0, _, by omega, rfl, rfl, Lib.hid ⟨HW0.out, HV0.out, by simp [Value.ownBlock], HUV.out⟩⟩
    case round =>
      obtain ⟨i, v1, hin, rfl, rfl, HR⟩ := hrel
      clear HW0 HV0 HUV
      by_cases hc : i < n
      · have hcz : (i : Int) < (n : Int) := by omega
        obtain ⟨b, off, rfl, c0, c1, c2, c3, k1, k2, k3, k4, k5⟩ := ((HST.out.upd HU2.out).upd HR.out.2.2.2) i (by omega)
        have hbl := bitsUpto_len st i
        have hsb : bitsUpto st (i + 1) = stepBits (bitsUpto st i) (st i) := rfl
        have HSB := Lib.hid hsb
        obtain ⟨⟨kind, V, N, T⟩, hst⟩ : ∃ x, st i = x := ⟨_, rfl⟩
        rw [hst] at c0 c1 c2 c3 k1 k2 k3 k4 k5 HSB
        clear hst hsb
        dsimp only at c0 c1 c2 c3 k1 k2 k3 k4 k5
        go_upto_if 40 with fail
        have HP := Lib.hid (Blk.new wr [.int .u64 (kind : Nat), .int .u32 (V : Nat), .int .i64 N, .string T] 34)
        have hA : Upd [] wr (wr.alloc (.cells #[.int .u64 (kind : Nat), .int .u32 (V : Nat), .int .i64 N, .string T] 34)) := (Upd.refl _ _).alloc _
        have HR1 := Lib.hid (show OwnW w2 _ w2.heap.size v1 (bitsUpto st i) ∧ OwnW w2 _ (w2.heap.size + 1) (.slice none 0 0) [] ∧ v1.ownBlock ≠ some (w2.heap.size + 1) ∧ Upd [] w2 _ from ⟨HR.out.1.pure hA, HR.out.2.1.pure hA, HR.out.2.2.1, HR.out.2.2.2.then hA⟩)
        clear c0 c1 c2 c3 HR hA
        obtain ⟨L, hL⟩ : ∃ L, bitsUpto st i = L := ⟨_, rfl⟩
        rw [hL] at HR1 HSB hbl
        clear hL
        change Code.wp _ _ _ _ (wr.alloc (.cells #[.int .u64 (kind : Nat), .int .u32 (V : Nat), .int .i64 N, .string T] 34))
        obtain ⟨bp, hbp⟩ : ∃ bp, wr.heap.size = bp := ⟨_, rfl⟩
        rw [hbp] at HP ⊢
        clear hbp
        generalize wr.alloc (.cells #[.int .u64 (kind : Nat), .int .u32 (V : Nat), .int .i64 N, .string T] 34) = w4 at *
        have fin : ∀ w5 v2 L', WrAt w5 w2.heap.size v2 L' (L'.length / 8) → Upd (wrFp w2.heap.size v1) w4 w5 → Later w4 v1 v2 → L' = stepBits L (kind, V, N, T) →
            Hid (OwnW w2 w5 w2.heap.size v2 (bitsUpto st (i + 1)) ∧ OwnW w2 w5 (w2.heap.size + 1) (.slice none 0 0) [] ∧ v2.ownBlock ≠ some (w2.heap.size + 1) ∧ Upd [] w2 w5) := fun w5 v2 L' hW hU hT hL' => Lib.hid (by
          obtain ⟨q1, q2, q3, q4⟩ := HR1.out
          refine ⟨?_, q2.far hU ?_ (by simp [Value.ownBlock]), hT.ne q2.wr.blk.lt q3, q1.up q4 hU⟩
          · rw [HSB.out, ← hL']; exact q1.step q4.size hW hT
          · simp only [wrFp, List.mem_cons, not_or]; exact ⟨by omega, fun e => q3 (by simpa using e)⟩)
        have FIN := Lib.hid fin
        clear fin
        have p1 := HP.out.cell 1 rfl
        have p2 := HP.out.cell 2 rfl
        have p3 := HP.out.cell 3 rfl
        by_cases hk0 : kind % 3 = 2
        · have hk : ((kind : Int) % 3) = 2 := by omega
          have HST2 : Hid (alignL L ++ textBits (bytesOf (cutT T)) = stepBits L (kind, V, N, T)) := Lib.hid (by unfold stepBits; rw [if_pos hk0])
          have hcT := cutT_size T
          have hmn : Hid (min (T.size : Int) 50 = ((min T.size 50 : Nat) : Int)) := Lib.hid (by omega)
          have hm1 := hmn.out
          have hmT : min T.size 50 ≤ T.size := Nat.min_le_left _ _
          have HCT : Hid (T.extract 0 (min T.size 50) = cutT T) := Lib.hid rfl
          clear hk0
          generalize min T.size 50 = mT at *
          go_wp2_with fail
          rw [HCT.out]
          refine (text_any _ (cutT T) _ v1 L HR1.out.1.wr (by omega) (by omega)).mono ?_
          rintro e w5 ⟨rfl, v2, hW2, hU2, hT2⟩
          have hF := FIN.out w5 v2 _ hW2 hU2 hT2 HST2.out
          clear hW2 hU2 hT2 p1 p2 p3 hm1
          go_wp2
          go_roundg (n - (i + 1))
          all_goals first
            | omega
            | exact ⟨i + 1, v2, by omega, rfl, by go_num, hF⟩
        · have hk : ((kind : Int) % 3) ≠ 2 := by omega
          have HST2 : Hid (L ++ low (clampN N) V = stepBits L (kind, V, N, T)) := Lib.hid (by unfold stepBits; rw [if_neg hk0])
          have hkb : (((kind : Int) % 3) == 2) = false := by simp; omega
          clear hk0
          go_wp2_with fail
          refine (bits_any _ V _ _ (clampN N) _ v1 L rfl k2 HR1.out.1.wr (by omega) (clampN_le N) (Lib.hid (by unfold clampN; omega))).mono ?_
          rintro e w5 ⟨rfl, v2, hW2, hU2, hT2⟩
          have hF := FIN.out w5 v2 _ hW2 hU2 hT2 HST2.out
          clear hW2 hU2 hT2 p1 p2 p3
          go_wp2
          go_roundg (n - (i + 1))
          all_goals first
            | omega
            | exact ⟨i + 1, v2, by omega, rfl, by go_num, hF⟩
      · obtain rfl : i = n := by omega
        have hbl := bitsUpto_len st i
        have HPRE := Lib.hid (fun k (h : k ≤ i) => bitsUpto_pre st k i h)
        have HBY := Lib.hid (bytes_any _ wr v1 (bitsUpto st i) HR.out.1.wr (by omega))
        obtain ⟨F, hF⟩ : ∃ F, bitsUpto st i = F := ⟨_, rfl⟩
        rw [hF] at HBY HPRE hbl
        have HFE := Lib.hid hF
        clear hF
        have hPs : (strOf (pack F)).size ≤ 2501 := by rw [size_pack]; omega
        have HPS := Lib.hid (size_pack F)
        have HRB := Lib.hid (fun (A : List Bool) (K X : Nat) (h : A ++ low K X <+: F) (hK : K ≤ 32) => read_bits (F := F) h hK)
        have HRT := Lib.hid (fun (A : List Bool) (T : ByteArray) (h : alignL A ++ textBits (bytesOf T) <+: F) => read_text (F := F) h)
        obtain ⟨P, hP⟩ : ∃ P, strOf (pack F) = P := ⟨_, rfl⟩
        rw [hP] at HBY hPs HPS HRB HRT
        clear hP
        go_wp2_with fail
        refine HBY.out.mono ?_
        rintro e w5 ⟨rfl, hU5⟩
        have HV5 := Lib.hid (HR.out.2.1.pure hU5)
        have HUp5 := Lib.hid (HR.out.2.2.2.then hU5)
        clear HBY HR hU5
        go_wp2_with fail
        refine (read_any P w5).mono ?_
        rintro e w6 ⟨rfl, hw6⟩
        have HRd : Hid (RdAt w6 w5.heap.size 89 P 0 false) := Lib.hid (by rw [← hw6]; exact rd_new w5 P _)
        have hA6 : Upd [] w5 w6 := by rw [← hw6]; exact (Upd.refl _ _).alloc _
        have HV6 := Lib.hid (HV5.out.pure hA6)
        have HUp6 := Lib.hid (HUp5.out.then hA6)
        have hbr1 : w2.heap.size + 2 ≤ w5.heap.size := by have := HV5.out.wr.blk.lt; omega
        clear HV5 HUp5 hA6 hw6
        generalize w5.heap.size = br at *
        go_wp2
        go_loopg [59] i (fun g s59 wr => ∃ j : Nat, j ≤ i ∧ g = i - j ∧ s59 = .int .i64 (j : Nat) ∧ Hid (RdAt wr br 89 P (bitsUpto st j).length false ∧ OwnW w2 wr (w2.heap.size + 1) (.slice none 0 0) [] ∧ Upd [] w2 wr))
        case atStart => exact ⟨0, by omega, rfl, rfl, Lib.hid ⟨HRd.out, HV6.out, HUp6.out⟩⟩
        case round =>
          obtain ⟨j, hji, rfl, rfl, HJ⟩ := hrel
          clear HRd HV6 HUp6
          by_cases hc2 : j < i
          · have hcz2 : (j : Int) < (i : Int) := by omega
            obtain ⟨b, off, rfl, c0, c1, c2, c3, k1, k2, k3, k4, k5⟩ := ((HST.out.upd HU2.out).upd HJ.out.2.2) j (by omega)
            have HSB := Lib.hid (show bitsUpto st (j + 1) = stepBits (bitsUpto st j) (st j) from rfl)
            have HPJ := Lib.hid (HPRE.out (j + 1) (by omega))
            obtain ⟨⟨kind, V, N, T⟩, hst⟩ : ∃ x, st j = x := ⟨_, rfl⟩
            rw [hst] at c0 c1 c2 c3 k1 k2 k3 k4 k5 HSB
            clear hst
            dsimp only at c0 c1 c2 c3 k1 k2 k3 k4 k5
            go_upto_if 66 with fail
            have HP := Lib.hid (Blk.new wr [.int .u64 (kind : Nat), .int .u32 (V : Nat), .int .i64 N, .string T] 34)
            have hA : Upd [] wr (wr.alloc (.cells #[.int .u64 (kind : Nat), .int .u32 (V : Nat), .int .i64 N, .string T] 34)) := (Upd.refl _ _).alloc _
            have HJ1 := Lib.hid (show RdAt _ br 89 P (bitsUpto st j).length false ∧ OwnW w2 _ (w2.heap.size + 1) (.slice none 0 0) [] ∧ Upd [] w2 _ from ⟨HJ.out.1.upd hA (by simp), HJ.out.2.1.pure hA, HJ.out.2.2.then hA⟩)
            have hbrl := HJ.out.1.1.lt
            clear c0 c1 c2 c3 HJ hA
            obtain ⟨L, hL⟩ : ∃ L, bitsUpto st j = L := ⟨_, rfl⟩
            rw [hL] at HJ1 HSB
            clear hL
            change Code.wp _ _ _ _ (wr.alloc (.cells #[.int .u64 (kind : Nat), .int .u32 (V : Nat), .int .i64 N, .string T] 34))
            obtain ⟨bp, hbp⟩ : ∃ bp, wr.heap.size = bp := ⟨_, rfl⟩
            rw [hbp] at HP hbrl ⊢
            clear hbp
            generalize wr.alloc (.cells #[.int .u64 (kind : Nat), .int .u32 (V : Nat), .int .i64 N, .string T] 34) = w7 at *
            have fin : ∀ w8, RdAt w8 br 89 P (bitsUpto st (j + 1)).length false → Upd [br] w7 w8 → Hid (RdAt w8 br 89 P (bitsUpto st (j + 1)).length false ∧ OwnW w2 w8 (w2.heap.size + 1) (.slice none 0 0) [] ∧ Upd [] w2 w8) := fun w8 h1 h2 =>
              Lib.hid ⟨h1, HJ1.out.2.1.far h2 (by simp; omega) (by simp [Value.ownBlock]), HJ1.out.2.2.trans h2 (fun k hk => by simp at hk; right; omega)⟩
            have FIN := Lib.hid fin
            clear fin
            have p1 := HP.out.cell 1 rfl
            have p2 := HP.out.cell 2 rfl
            have p3 := HP.out.cell 3 rfl
            by_cases hk0 : kind % 3 = 2
            · have hk : ((kind : Int) % 3) = 2 := by omega
              have hse : stepBits L (kind, V, N, T) = alignL L ++ textBits (bytesOf (cutT T)) := by unfold stepBits; rw [if_pos hk0]
              have hcT := cutT_size T
              obtain ⟨mT, hmT⟩ : ∃ mT, min T.size 50 = mT := ⟨_, rfl⟩
              have HCT : Hid (T.extract 0 mT = cutT T) := Lib.hid (by rw [← hmT]; rfl)
              have hm1 : min (T.size : Int) 50 = (mT : Int) := by omega
              have hm2 : mT ≤ T.size := by omega
              have HT := Lib.hid (HRT.out L (cutT T) (by rw [← hse, ← HSB.out]; exact HPJ.out))
              have HLN : Hid ((bitsUpto st (j + 1)).length = (alignL L ++ textBits (bytesOf (cutT T))).length) := Lib.hid (by rw [HSB.out, hse])
              clear hk0 hse hmT
              go_upto_region 15 with fail
              go_cut [14] (fun s14 wx => s14 = .string (cutT T) ∧ wx = w7)
              case first =>
                go_wp2
                go_meet
                exact ⟨by rw [← HCT.out], rfl⟩
              case rest =>
                obtain ⟨rfl, rfl⟩ := hcut
                clear hm1 hm2 HCT
                generalize cutT T = TT at *
                obtain ⟨ht1, ht2, ht3⟩ := HT.out
                have htr := text_read br (TT.size : Int) wc P L.length false HJ1.out.1 (by omega)
                rw [ht1, ht2, ht3, ← HLN.out] at htr
                have HTR := Lib.hid htr
                clear htr ht1 ht2 ht3 p1 p2 p3
                go_wp2_with fail
                refine HTR.out.mono ?_
                rintro e w8 ⟨rfl, hR8, hU8⟩
                have hF := FIN.out w8 hR8 hU8
                clear hR8 hU8
                go_wp2
                go_roundg (i - (j + 1))
                all_goals first
                  | omega
                  | exact ⟨j + 1, by omega, rfl, by go_num, hF⟩
            · have hk : ((kind : Int) % 3) ≠ 2 := by omega
              have hkb : (((kind : Int) % 3) == 2) = false := by simp; omega
              have hse : stepBits L (kind, V, N, T) = L ++ low (clampN N) V := by unfold stepBits; rw [if_neg hk0]
              have hK := clampN_le N
              have hKN : max 0 (min N 32) = ((clampN N : Nat) : Int) := by unfold clampN; omega
              have HLN : Hid ((bitsUpto st (j + 1)).length = (L ++ low (clampN N) V).length) := Lib.hid (by rw [HSB.out, hse])
              have HB := Lib.hid (HRB.out L (clampN N) V (by rw [← hse, ← HSB.out]; exact HPJ.out) hK)
              clear hk0 hse
              generalize clampN N = K at *
              go_upto_region 18 with fail
              go_cut [15] (fun s15 wx => s15 = .int .i64 (K : Nat) ∧ wx = w7)
              case first =>
                go_wp2
                go_meet
                exact ⟨rfl, rfl⟩
              case rest =>
                obtain ⟨rfl, rfl⟩ := hcut
                clear hKN
                generalize wc = w9 at *
                go_upto_region 19 with fail
                go_cut [16] (fun s16 wx => s16 = .int .u64 ((V % 2 ^ K : Nat) : Int) ∧ Upd [] w9 wx)
                case first =>
                  refine wp_calmM ?_
                  refine wp_region_held_drew (S := fun w' => Upd [] w9 w') (by kernel_rfl) (Upd.refl _ _).drew (fun hHeld => ?_)
                  change wpAnyH _ _ _ _ _ 7 #[false, false, false, false, false, false, false] _ _
                  refine heldTake (i := 0) (d := some 84) (v := ?v0_1) rfl rfl (by kernel_rfl) (by kernel_rfl) (by kernel_rfl) (fun _ _ _ h => h) (by rfl) ?hy0_1 (by assumption) ?r0_1
                  case hy0_1 => (intro w hSw; (try dsimp only at hSw); go_simp; try with_reducible rfl)
                  try simp only [Act.put, List.setIfInBounds_toArray, List.set_cons_zero, List.set_cons_succ]
                  change wpAnyH _ _ _ _ _ 6 #[true, false, false, false, false, false, false] _ _
                  refine heldTake (i := 1) (d := some 85) (v := ?v1_2) rfl rfl (by kernel_rfl) (by kernel_rfl) (by kernel_rfl) (fun _ _ _ h => h) (by rfl) ?hy1_2 (by assumption) ?r1_2
                  case hy1_2 => (intro w hSw; have q0 := (HP.out.upd hSw (by simp)).cell 1 rfl; go_simp; try with_reducible rfl)
                  try simp only [Act.put, List.setIfInBounds_toArray, List.set_cons_zero, List.set_cons_succ]
                  change wpAnyH _ _ _ _ _ 5 #[true, true, false, false, false, false, false] _ _
                  refine heldTake (i := 2) (d := some 86) (v := ?v2_3) rfl rfl (by kernel_rfl) (by kernel_rfl) (by kernel_rfl) (fun _ _ _ h => h) (by rfl) ?hy2_3 (by assumption) ?r2_3
                  case hy2_3 => (intro w hSw; (try dsimp only at hSw); go_simp; try with_reducible rfl)
                  try simp only [Act.put, List.setIfInBounds_toArray, List.set_cons_zero, List.set_cons_succ]
                  change wpAnyH _ _ _ _ _ 4 #[true, true, true, false, false, false, false] _ _
                  refine heldTake (i := 3) (d := some 87) (v := ?v3_4) rfl rfl (by kernel_rfl) (by kernel_rfl) (by kernel_rfl) (fun _ _ _ h => h) (by rfl) ?hy3_4 (by assumption) ?r3_4
                  case hy3_4 => (intro w hSw; (try dsimp only at hSw); go_simp; try with_reducible rfl)
                  try simp only [Act.put, List.setIfInBounds_toArray, List.set_cons_zero, List.set_cons_succ]
                  change wpAnyH _ _ _ _ _ 3 #[true, true, true, true, false, false, false] _ _
                  refine heldTake (i := 4) (d := some 88) (v := (.int .u64 ((2 ^ K : Nat) : Int))) rfl rfl (by kernel_rfl) (by kernel_rfl) (by kernel_rfl) (fun _ _ _ h => h) (by rfl) ?hy4_5 (by assumption) ?r4_5
                  case hy4_5 => (intro w hSw; go_simp; exact wrap64_u (Int.le_of_lt (pow_fit hK).1) (by have := (pow_fit hK).2; omega))
                  try simp only [Act.put, List.setIfInBounds_toArray, List.set_cons_zero, List.set_cons_succ]
                  change wpAnyH _ _ _ _ _ 2 #[true, true, true, true, true, false, false] _ _
                  refine heldTake (i := 5) (d := some 89) (v := (.int .u64 ((V % 2 ^ K : Nat) : Int))) rfl rfl (by kernel_rfl) (by kernel_rfl) (by kernel_rfl) (fun _ _ _ h => h) (by rfl) ?hy5_6 (by assumption) ?r5_6
                  case hy5_6 => (intro w hSw; go_simp; rw [if_neg (Int.ne_of_gt (pow_fit hK).1), wrap64_u (by omega) (by omega), Int.tmod_eq_emod_of_nonneg (by omega)])
                  try simp only [Act.put, List.setIfInBounds_toArray, List.set_cons_zero, List.set_cons_succ]
                  change wpAnyH _ _ _ _ _ 1 #[true, true, true, true, true, true, false] _ _
                  refine heldTake (i := 6) (d := some 16) (v := ?v6_7) rfl rfl (by kernel_rfl) (by kernel_rfl) (by kernel_rfl) (fun _ _ _ h => h) (by rfl) ?hy6_7 (by assumption) ?r6_7
                  case hy6_7 => (intro w hSw; (try dsimp only at hSw); go_simp; try with_reducible rfl)
                  try simp only [Act.put, List.setIfInBounds_toArray, List.set_cons_zero, List.set_cons_succ]
                  change wpAnyH _ _ _ _ _ 0 #[true, true, true, true, true, true, true] _ _
                  refine wpAnyH_done (by kernel_rfl) ?_ 0
                  go_wp2
                  go_meet
                  exact ⟨rfl, hHeld⟩
                case rest =>
                  obtain ⟨rfl, hU8⟩ := hcut
                  have hR9 := HJ1.out.1.upd hU8 (by simp)
                  obtain ⟨hb1, hb2, hb3⟩ := HB.out
                  have hbrd := rbits_read br (K : Int) wc P L.length false hR9 (by omega)
                  rw [hb1, hb2, hb3, ← HLN.out] at hbrd
                  have HBR := Lib.hid hbrd
                  have hy : V % 2 ^ K < 4294967296 := Nat.lt_of_le_of_lt (Nat.mod_le _ _) k2
                  clear hbrd hb1 hb2 hb3 hR9 p1 p2 p3 HB HRB HRT
                  generalize V % 2 ^ K = y at *
                  have hyz : (y : Int) < 4294967296 := by omega
                  go_wp2_with fail
                  refine HBR.out.mono ?_
                  rintro e w10 ⟨rfl, hR10, hU10⟩
                  have hF := FIN.out w10 hR10 ((hU8.mono (by simp)).then hU10)
                  clear hR10 hU10 hU8
                  go_wp2
                  go_roundg (i - (j + 1))
                  all_goals first
                    | omega
                    | exact ⟨j + 1, by omega, rfl, by go_num, hF⟩
          · obtain rfl : j = i := by omega
            rw [HFE.out] at HJ
            clear HST HPRE HRB HRT
            have hle := HPS.out
            have HFI := Lib.hid (fine_any br wr _ P F.length false HJ.out.1)
            go_wp2_with fail
            refine (allBits_any S wr).mono ?_
            rintro e w7 ⟨rfl, hw7⟩
            have hfe := fun w' => run_eql_seq32 (.func 49) #[] #[.pointer (some ⟨wr.heap.size, 0, none⟩)] w'
            have hA7 : Upd [] wr w7 := by rw [hw7]; exact (Upd.refl _ _).alloc _
            have HBs : Hid (Blk w7 wr.heap.size [.string S] 9) := Lib.hid (by rw [hw7]; exact Blk.new wr _ _)
            have HR7 := Lib.hid (HJ.out.1.upd hA7 (by simp))
            have HV7 := Lib.hid (HJ.out.2.1.pure hA7)
            have HU7 := Lib.hid (HJ.out.2.2.then hA7)
            clear hw7 hA7 HJ HFI
            generalize wr.heap.size = bz at *
            go_wp2_with fail
            refine (fine_any br w7 _ P F.length false HR7.out).mono ?_
            rintro e w8 ⟨rfl, rfl⟩
            go_wp2_with fail
            refine (left_any br w7 _ P F.length false HR7.out (by omega)).mono ?_
            rintro e w8 ⟨rfl, n8, rfl⟩
            have hA8 : Upd [] w7 (w7.drewN n8) := (Upd.refl _ _).drewN n8
            have HBs8 := Lib.hid (HBs.out.upd hA8 (by simp))
            have HV8 := Lib.hid (HV7.out.pure hA8)
            have HU8 := Lib.hid (HU7.out.then hA8)
            have hl8 : ((8 * P.size - F.length : Nat) : Int) < 8 := by omega
            clear HR7 HV7 HU7 HBs hA8
            generalize w7.drewN n8 = w9 at *
            generalize 8 * P.size - F.length = left at *
            go_wp2_with fail
            have HBn := Lib.hid (Blk.new w9 [.int .u64 ((0 : Nat) : Int)] 31)
            have hA0 : Upd [] w9 (w9.alloc (.cells #[.int .u64 0] 31)) := (Upd.refl _ _).alloc _
            have hz9 : (w9.alloc (.cells #[.int .u64 0] 31)).heap.size = w9.heap.size + 1 := by simp
            have HV0 := Lib.hid (HV8.out.pure hA0)
            have HBs0 := Lib.hid (HBs8.out.upd hA0 (by simp))
            have HU0 := Lib.hid (HU8.out.then hA0)
            have HMM : Hid ((most : Int) % 2000 = ((most % 2000 : Nat) : Int) ∧ most % 2000 ≤ 1999) := Lib.hid ⟨by omega, by omega⟩
            have hbv9 := HV8.out.wr.blk.lt
            clear hA0 HV8 HBs8 HU8 hfe hle hl8
            change Code.wp _ _ _ _ (w9.alloc (.cells #[.int .u64 ((0 : Nat) : Int)] 31))
            change Hid (Blk (w9.alloc (.cells #[.int .u64 ((0 : Nat) : Int)] 31)) _ _ _) at HBn
            change Hid (OwnW _ (w9.alloc (.cells #[.int .u64 ((0 : Nat) : Int)] 31)) _ _ _) at HV0
            change Hid (Blk (w9.alloc (.cells #[.int .u64 ((0 : Nat) : Int)] 31)) _ _ _) at HBs0
            change Hid (Upd [] w2 (w9.alloc (.cells #[.int .u64 ((0 : Nat) : Int)] 31))) at HU0
            change (w9.alloc (.cells #[.int .u64 ((0 : Nat) : Int)] 31)).heap.size = _ at hz9
            generalize w9.alloc (.cells #[.int .u64 ((0 : Nat) : Int)] 31) = W0 at *
            generalize most % 2000 = M at *
            obtain ⟨bn, hbn⟩ : ∃ bn, w9.heap.size = bn := ⟨_, rfl⟩
            rw [hbn] at HBn hz9 hbv9 ⊢
            clear hbn
            have hw20 : w2.heap.size ≤ W0.heap.size := HU0.out.size
            refine wp_act ?_
            intro fr hfr
            refine Code.wp_mono (Q := fun e a' W => (e = .normal ∨ e = .exit 4) ∧ ∃ D pre, a' = { fr with defers := { target := .collected D, args := #[] } :: fr.defers } ∧ W0.heap.size ≤ D ∧ W.heap[D]? = some (.deferred (some [])) ∧ Hid ((pre = sbits S ∧ pre.length ≤ M) ∨ (pre <+: sbits S ∧ pre.length = M + 1)) ∧ BkI w2 W0 (w2.heap.size + 1) bn pre W) ?cont ((wpIn_wide (n := 9)).1 ?main)
            case main =>
              refine loopWA (gf := 49) (lb := #[.pointer (some ⟨bz, 0, none⟩)]) (by rw [hfr]; rfl) (enters_of Try.func49 (by kernel_rfl) rfl)
                (allBits_seq bz S W0 (HBs0.out.cell 0 rfl) (by omega)) (by intro k hk; simp at hk; omega) (fun _ => rfl)
                (fun pre W => BkI w2 W0 (w2.heap.size + 1) bn pre W ∧ Hid (pre.length ≤ M))
                (fun c pre W => (c = .exit 4 ∧ Hid (pre.length = M + 1)) ∧ BkI w2 W0 (w2.heap.size + 1) bn pre W)
                ?act
                (OwnFrom.and (BkI.own hw20) (ownFrom_pure _ _)) (fun c => OwnFrom.and (ownFrom_pure _ _) (BkI.own hw20))
                ?iw ?ixw ⟨⟨_, HV0.out, by simp [Value.ownBlock], HBn.out, HU0.out⟩, Lib.hid (by simp)⟩ ?assign ?body ?done ?stop
              case assign =>
                intro L1 x W K hK
                subst hfr
                gi_wp2
                exact hK
              case iw =>
                rintro s' A C ⟨h1, h2⟩ hAC
                exact ⟨BkI.w2 (by omega) (by omega) hw20 _ A C h1 hAC, h2⟩
              case ixw =>
                rintro c s' A C ⟨h1, h2⟩ hAC
                exact ⟨h1, BkI.w2 (by omega) (by omega) hw20 _ A C h2 hAC⟩
              case body =>
                rintro L1 pre x W hsz hfp ⟨⟨v, hO, hg, hn, hU⟩, hpl⟩ hlt
                have hW3 := hfp (W0.heap.size + 2) (by simp)
                subst hfr
                clear hfp
                have hpM := hpl.out
                have hM2 := HMM.out.2
                have hK1 : Hid (((1 : Nat) : Int) = max 0 (min 1 32)) := Lib.hid (by omega)
                have HO := Lib.hid hO
                have HN := Lib.hid hn
                have HG := Lib.hid hg
                have HU := Lib.hid hU
                clear hO hn hg hU
                gi_wp2_with fail
                refine ⟨trivial, (CallsIn.inRound L1 (callsIn_wide.2 (bits_any (w2.heap.size + 1) x.toNat _ 1 1 _ v pre rfl (by cases x <;> simp) HO.out.wr (by omega) (by omega) hK1))).mono ?_⟩
                rintro e W2 ⟨rfl, v2, hW2, hU2, hT2⟩
                rw [low_one] at hW2
                have hbnf : bn ∉ wrFp (w2.heap.size + 1) v := by simp only [wrFp, List.mem_cons, not_or]; exact ⟨by omega, fun e => (HG.out bn (by simpa using e)).1 rfl⟩
                have hrbf : W0.heap.size + 2 ∉ wrFp (w2.heap.size + 1) v := by simp only [wrFp, List.mem_cons, not_or]; exact ⟨by omega, fun e => by have := (HG.out _ (by simpa using e)).2; omega⟩
                have hN2 := HN.out.upd hU2 hbnf
                have hUp2 := HO.out.up HU.out hU2
                have hO2 := HO.out.step HU.out.size hW2 hT2
                have n0 := hN2.cell 0 rfl
                have n1 := hN2.frz 0
                have m0 := (HMo2.out.upd hUp2 (by simp)).cell 0 rfl
                have m1 : (W2.setCell ⟨bn, 0, none⟩ (.int .u64 ((pre.length : Int) + 1))).cell? ⟨w.heap.size, 0, none⟩ = some (.int .u64 (most : Nat)) := ((HMo2.out.upd hUp2 (by simp)).setFar (a := ⟨bn, 0, none⟩) _ (by have := HMo2.out.lt; simp; omega)).cell 0 rfl
                have hmod := HMM.out.1
                have hUn : Upd [bn] W2 (W2.setCell ⟨bn, 0, none⟩ (.int .u64 ((pre.length : Int) + 1))) := (Upd.refl _ _).setCell (.inl (by simp)) _
                have hkeep : KeepsFrom W0.heap.size W (W2.setCell ⟨bn, 0, none⟩ (.int .u64 ((pre.length : Int) + 1))) := ((hU2.others (fun k hk => by
                    simp only [wrFp, List.mem_cons] at hk
                    rcases hk with rfl | hk
                    · exact HO.out.wr.blk.cellsOnly
                    · exact HO.out.wr.row.cellsOnly k (by simpa using hk))).from _).trans ((hUn.others (fun k hk => by simp at hk; subst hk; exact hN2.cellsOnly)).from _)
                have hI2 : BkI w2 W0 (w2.heap.size + 1) bn (pre ++ [x]) (W2.setCell ⟨bn, 0, none⟩ (.int .u64 ((pre.length : Int) + 1))) := by
                  refine ⟨v2, hO2.far hUn (by simp; omega) (fun k hk => ?_), fun g hg => ?_, ?_, hUp2.trans hUn (fun k hk => by simp at hk; right; omega)⟩
                  · have := hT2.ne (b := bn) HN.out.lt (fun e => (HG.out bn e).1 rfl)
                    simp; intro e; exact this (by rw [hk, e])
                  · rcases hT2 with e | ⟨g', e1, e2⟩
                    · exact HG.out g (by rw [← e]; exact hg)
                    · rw [hg] at e1; simp at e1; exact ⟨by have := HN.out.lt; omega, .inr (by omega)⟩
                  · have := hN2.set 0 (.int .u64 ((pre.length : Int) + 1))
                    rw [List.length_append]
                    exact this
                have hkp : Keep [W0.heap.size + 2] W (W2.setCell ⟨bn, 0, none⟩ (.int .u64 ((pre.length : Int) + 1))) :=
                  (Keep.of_upd hU2 (fun k hk => by simp at hk; subst hk; exact ⟨by omega, hrbf⟩)).trans (Keep.of_upd hUn (fun k hk => by simp at hk; subst hk; exact ⟨by have := hU2.size; omega, by simp; omega⟩))
                have HKEEP := Lib.hid hkeep
                have HI2 := Lib.hid hI2
                have HKP := Lib.hid hkp
                clear hkeep hI2 hkp hN2 hUp2 hO2 hUn hW2 hU2 hT2 hbnf hrbf
                have hNl : (pre.length : Int) ≤ 1999 := by omega
                have hNn : (0 : Int) ≤ (pre.length : Int) := by omega
                obtain ⟨N, hN⟩ : ∃ N : Int, (pre.length : Int) = N := ⟨_, rfl⟩
                obtain ⟨MM, hMM⟩ : ∃ MM : Int, (M : Int) = MM := ⟨_, rfl⟩
                rw [hN] at n0 m1 HKEEP HI2 HKP hNl hNn
                rw [hMM] at hmod
                have HNN := Lib.hid hN
                have HMMM := Lib.hid hMM
                clear hN hMM hlt hTs hM2 hmost
                by_cases hgt : M < pre.length + 1
                · have hgz : MM < N + 1 := by have := HNN.out; have := HMMM.out; omega
                  have HGT := Lib.hid hgt
                  have HPM := Lib.hid hpM
                  clear hgt hpM
                  gi_wp2_with fail
                  exact ⟨HKEEP.out, ⟨rfl, Lib.hid (by rw [List.length_append]; have := HGT.out; have := HPM.out; simp; omega)⟩, HI2.out⟩
                · have hgz : N + 1 ≤ MM := by have := HNN.out; have := HMMM.out; omega
                  have HGT := Lib.hid hgt
                  clear hgt hpM
                  gi_wp2_with fail
                  exact ⟨HKEEP.out, HKP.out, HI2.out, Lib.hid (by rw [List.length_append]; have := HGT.out; simp; omega)⟩
              case done =>
                rintro D xs W hD rfl ⟨hi, hpl⟩ hK
                exact ⟨.inl rfl, D, _, rfl, hD, hK, Lib.hid (.inl ⟨rfl, hpl.out⟩), hi⟩
              case stop =>
                rintro D c pre W hD hpre ⟨⟨rfl, hpl⟩, hi⟩ hK
                refine wpIn_exit ?_
                exact ⟨.inr rfl, D, pre, rfl, hD, hK, Lib.hid (.inr ⟨hpre, hpl.out⟩), hi⟩
            case cont =>
              rintro e a' wz ⟨he, D, pre, rfl, hD, hDk, HP, hIz⟩
              subst hfr
              refine inBlock_two he ?_
              clear he
              obtain ⟨v, hO, hg, hn, hU⟩ := hIz
              have hlen : pre.length = min (8 * S.size) (M + 1) ∧ (8 * S.size ≤ M → pre = sbits S) := by
                rcases HP.out with ⟨h1, h2⟩ | ⟨h1, h2⟩
                · have : pre.length = 8 * S.size := by rw [h1, length_sbits]
                  exact ⟨by omega, fun _ => h1⟩
                · have := h1.length_le
                  rw [length_sbits] at this
                  exact ⟨by omega, fun _ => by omega⟩
              have HLE := Lib.hid hlen
              have n0 := hn.cell 0 rfl
              have m0 := (HMo2.out.upd hU (by simp)).cell 0 rfl
              have hmod := HMM.out.1
              have hM2 := HMM.out.2
              have HO := Lib.hid hO
              have HUz := Lib.hid (HU2.out.then hU)
              have HDz := Lib.hid hDk
              have hDlt : D < wz.heap.size := (Array.getElem?_eq_some_iff.1 hDk).1
              have hwD : w.heap.size ≤ D := by have := HU2.out.size; omega
              obtain ⟨MM, hMM⟩ : ∃ MM : Int, (M : Int) = MM := ⟨_, rfl⟩
              have HMMM := Lib.hid hMM
              rw [hMM] at hmod
              have hMM0 : 0 ≤ MM := by omega
              have hMM1 : MM ≤ 1999 := by omega
              obtain ⟨N, hN⟩ : ∃ N : Int, (pre.length : Int) = N := ⟨_, rfl⟩
              have HNN := Lib.hid hN
              rw [hN] at n0
              clear hO hg hn hU hlen hDk hmost hMM hN hbl hbr1
              by_cases hwh : 8 * S.size ≤ M
              · have hz1 : 8 * (S.size : Int) ≤ MM := by have := HMMM.out; omega
                have hNz : N = 8 * (S.size : Int) := by have := HNN.out; have := HLE.out.1; omega
                have hpre := HLE.out.2 hwh
                subst hpre
                have hpl : (sbits S).length ≤ 1099511627776 := by rw [length_sbits]; omega
                have HBY := Lib.hid (bytes_any (w2.heap.size + 1) wz v (sbits S) HO.out.wr hpl)
                rw [pack_sbits] at HBY
                have HWH := Lib.hid hwh
                have hNm : min (8 * (S.size : Int)) (MM + 1) = N := by omega
                have hNe : min N (MM + 1) = N := by omega
                subst hNz
                clear hwh hpl HLE HP HNN
                go_wp2_with fail
                refine HBY.out.mono ?_
                rintro e w7 ⟨rfl, hU7⟩
                go_wp2_with fail
                refine (lives3 _).mono ?_
                rintro e w8 ⟨rfl, hU8⟩
                go_wp2
                have hk9 := ((hU7.then hU8).block D hDlt (by simp)).trans HDz.out
                refine ⟨by simp, .inl ⟨_, _, rfl, run_takeDeferred hk9, ?_⟩⟩
                exact ⟨_, results_tmp rfl _ _ _, rfl, ((HUz.out.then hU7).then hU8).putObj' hwD _⟩
              · have hz1 : MM < 8 * (S.size : Int) := by have := HMMM.out; omega
                have hNz : N = MM + 1 := by have := HNN.out; have := HMMM.out; have := HLE.out.1; omega
                have hNm : min (8 * (S.size : Int)) (MM + 1) = MM + 1 := by omega
                subst hNz
                have HWH := Lib.hid hwh
                clear hwh HLE HP HNN
                go_wp2_with fail
                refine (lives3 _).mono ?_
                rintro e w8 ⟨rfl, hU8⟩
                go_wp2
                have hk9 := (hU8.block D hDlt (by simp)).trans HDz.out
                refine ⟨by simp, .inl ⟨_, _, rfl, run_takeDeferred hk9, ?_⟩⟩
                exact ⟨_, results_tmp rfl _ _ _, rfl, (HUz.out.then hU8).putObj' hwD _⟩
end Go.Proofs.Ytcddlnmfdjfjfaa

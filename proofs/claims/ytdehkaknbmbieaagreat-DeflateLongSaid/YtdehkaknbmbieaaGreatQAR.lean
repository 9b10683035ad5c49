/- The walks of package bitio's Writer, further: Align, Text, Len, Bytes; and all of them of nil. -/
import Derived.Handy
import Derived.Test.YtdehkaknbmbieaaGreatQAQ
import Derived.Lib.MinMax
import Derived.Test.YtdehkaknbmbieaaGreatQAD
namespace Go.Proofs.YtdehkaknbmbieaaGreat
set_option linter.unusedVariables false
set_option linter.unusedSimpArgs false
set_option linter.unusedSectionVars false
open Go.RowKit

set_option maxHeartbeats 800000 in
theorem align_any (b : Nat) (w : World) (v : Value) (L : List Bool) (hW : WrAt w b v L (L.length / 8)) (hL : L.length ≤ 1099511627776) :
    Calls Tryz.prog 43 #[.pointer (some ⟨b, 0, none⟩)] w (BitsPost w b v (alignL L)) := by
  have h2 := hW.blk.cell 2 rfl
  by_cases hz : L.length % 8 = 0
  · have hn : L.length - 8 * (L.length / 8) = 0 := by omega
    rw [hn] at h2
    rw [alignL_of _ hz]
    clear hn
    go_enter Tryz.func43, Tryz.ntmps43
    go_wp2
    go_returns
    exact ⟨rfl, v, hW, .refl _ _, .refl _ _⟩
  · have hn1 : (1 : Int) ≤ ((L.length - 8 * (L.length / 8) : Nat) : Int) := by omega
    have hn7 : ((L.length - 8 * (L.length / 8) : Nat) : Int) ≤ 7 := by omega
    have hK : Hid (((8 - (L.length - 8 * (L.length / 8)) : Nat) : Int) = max 0 (min (8 - ((L.length - 8 * (L.length / 8) : Nat) : Int)) 32)) := Lib.hid (by omega)
    have hc := bits_any b 0 0 (8 - ((L.length - 8 * (L.length / 8) : Nat) : Int)) (8 - (L.length - 8 * (L.length / 8))) w v L rfl (by omega) hW hL (by omega) hK
    have e : L ++ low (8 - (L.length - 8 * (L.length / 8))) 0 = alignL L := by
      rw [low_zero, alignL]; congr 2; omega
    rw [e] at hc
    have HC := Lib.hid hc
    clear hc e hK
    generalize L.length - 8 * (L.length / 8) = r at *
    go_enter Tryz.func43, Tryz.ntmps43
    go_wp2_with fail
    refine HC.out.mono ?_
    rintro e w' ⟨rfl, hp⟩
    go_wp2
    go_returns
    exact ⟨rfl, hp⟩
set_option maxHeartbeats 1600000 in
theorem text_any (b : Nat) (s : ByteArray) (w : World) (v : Value) (L : List Bool) (hW : WrAt w b v L (L.length / 8)) (hL : L.length ≤ 1099511627776) (hs : s.size ≤ 1099511627776) :
    Calls Tryz.prog 44 #[.pointer (some ⟨b, 0, none⟩), .string s] w (BitsPost w b v (alignL L ++ textBits (bytesOf s))) := by
  obtain ⟨i0, hi, hz0, hz1, hz2⟩ := info_parts infoU8
  have HC := Lib.hid (align_any b w v L hW hL)
  have hlen : Hid ((alignL L).length = 8 * ((alignL L).length / 8)) := Lib.hid (by rw [length_alignL]; omega)
  have hle : (alignL L).length ≤ 1099511627790 := by rw [length_alignL]; omega
  generalize alignL L = L' at *
  go_enter Tryz.func44, Tryz.ntmps44
  go_wp2_with fail
  refine HC.out.mono ?_
  rintro e w1 ⟨rfl, v1, hW1, hU1, hT1⟩
  have h0 := hW1.blk.cell 0 rfl
  go_wp2_with (at_builtin; refine wpList_app_str _ rfl _ _ 28 9 rfl 5 i0 Tryz.underlying28 Tryz.underlying9 hi hz0 hz1 hz2 v1 _ _ rfl hW1.row s rfl (by unfold maxLen; omega) (by omega) ?_)
  intro v2 w2 hR2 hU2 hT2
  obtain ⟨a2, c2, rfl⟩ := hR2.form
  have hB2 := hW1.blk.upd hU2 (by have := hW1.far; simpa using this)
  have f0 := hB2.frz 0
  have k0 := hB2.cell 0 rfl
  go_wp2
  go_returns
  have hm : (L' ++ textBits (bytesOf s)).length / 8 = L'.length / 8 + s.size := by
    rw [List.length_append, length_textBits, length_bytesOf]; have := hlen.out; omega
  have hfar := hT2.ne hW1.blk.lt hW1.far
  refine ⟨rfl, _, ⟨?_, ?_, by omega, hfar⟩, ?_, hT1.trans hU1.size hT2⟩
  · have h := hB2.set 0 (.slice a2 (L'.length / 8 + s.size) c2)
    rw [rest_nil _ _ (by have := hlen.out; omega)] at h
    rw [rest_nil _ _ (by rw [hm, List.length_append, length_textBits, length_bytesOf]; have := hlen.out; omega)]
    have e1 : L'.length - 8 * (L'.length / 8) = 0 := by have := hlen.out; omega
    have e2 : (L' ++ textBits (bytesOf s)).length - 8 * ((L' ++ textBits (bytesOf s)).length / 8) = 0 := by rw [hm, List.length_append, length_textBits, length_bytesOf]; have := hlen.out; omega
    rw [e1] at h
    rw [e2]
    exact h
  · rw [hm]
    have e3 : outs (L' ++ textBits (bytesOf s)) (L'.length / 8 + s.size) = outs L' (L'.length / 8) ++ bytesOf s := by
      rw [← length_bytesOf s]; exact outs_text L' _ hlen.out _ (bytesOf_lt s)
    rw [e3, u8s_append, ← strCells_eq]
    exact hR2.setFar _ hfar
  · refine (hU1.trans hU2 (fun k hk => ?_)).setCell (.inl (by simp [wrFp])) _
    exact (hT1.fp k hk).imp (fun h => by simp [wrFp]; right; simpa using h) id

set_option maxHeartbeats 1600000 in
theorem bytes_any (b : Nat) (w : World) (v : Value) (L : List Bool) (hW : WrAt w b v L (L.length / 8)) (hL : L.length ≤ 1099511627776) :
    Calls Tryz.prog 13 #[.pointer (some ⟨b, 0, none⟩)] w fun e w' => e = .returned (.string (strOf (pack L))) ∧ Upd [] w w' := by
  have h0 := hW.blk.cell 0 rfl
  have h1 := hW.blk.cell 1 rfl
  have h2 := hW.blk.cell 2 rfl
  have hc := fun W' h => run_conv_row (P := Tryz.prog) W' 28 9 5 Tryz.underlying28 Tryz.underlying5 Tryz.underlying9 (v := v) (n := L.length / 8) (l := outs L (L.length / 8)) h
  have hlo := length_outs L (L.length / 8)
  by_cases hz : L.length % 8 = 0
  · have hn : L.length - 8 * (L.length / 8) = 0 := by omega
    have hp : pack L = outs L (L.length / 8) := by unfold pack; congr 1; omega
    have HP := Lib.hid hp
    have h2' : w.cell? ⟨b, 2, none⟩ = some (.int .i64 0) := by rw [h2, hn]; rfl
    clear hp hn hz h2
    have hcw := hc w hW.row
    clear hc
    go_enter Tryz.func13, Tryz.ntmps13
    go_wp2
    go_returns
    exact ⟨by rw [HP.out]; rfl, .refl _ _⟩
  · have hn1 : (1 : Int) ≤ ((L.length - 8 * (L.length / 8) : Nat) : Int) := by omega
    have hp : pack L = outs L (L.length / 8) ++ [rest L (L.length / 8)] := by
      unfold pack
      rw [show (L.length + 7) / 8 = L.length / 8 + 1 by omega, outs_succ, chunk_last _ _ (by omega)]
    have hr : rest L (L.length / 8) < 256 := Nat.lt_of_lt_of_le (rest_lt L _) (Nat.le_trans (Nat.pow_le_pow_right (by omega) (show L.length - 8 * (L.length / 8) ≤ 8 by omega)) (by decide))
    have HP := Lib.hid hp
    clear hp hz
    go_enter Tryz.func13, Tryz.ntmps13
    go_wp2
    have hcw := hc w.drew hW.row.drew
    have k0 : ∀ o, (w.alloc o).cell? ⟨b, 0, none⟩ = some v := fun o => (hW.blk.alloc o).cell 0 rfl
    have k1 : ∀ o, (w.alloc o).cell? ⟨b, 1, none⟩ = some (.int .u64 (rest L (L.length / 8) : Nat)) := fun o => (hW.blk.alloc o).cell 1 rfl
    have hc1 := run_conv_row (P := Tryz.prog) (w.alloc (.cells #[.int .u8 (rest L (L.length / 8) : Nat)] 5)).drew 28 9 5 Tryz.underlying28 Tryz.underlying5 Tryz.underlying9 (l := [rest L (L.length / 8)]) (Row.new w [.int .u8 (rest L (L.length / 8) : Nat)] 5 1 1 (by decide) rfl).drew
    have hcw2 := fun o => hc (w.alloc o).drew (hW.row.alloc o).drew
    have hadd : ∀ W', (Op.stringOp .add (strOf (outs L (L.length / 8))) (strOf [rest L (L.length / 8)])).run Tryz.prog W' = .ok (.string (strOf (outs L (L.length / 8)) ++ strOf [rest L (L.length / 8)])) W' := fun W' =>
      run_string_add_sum _ _ _ (by rw [size_strOf, size_strOf, hlo]; simp; omega)
    clear hc hW
    go_region
    all_goals go_wp2
    all_goals go_returns
    all_goals exact ⟨by rw [HP.out, ← strOf_append]; rfl, ((Upd.refl _ _).alloc _).drew⟩
end Go.Proofs.YtdehkaknbmbieaaGreat
namespace Go.Proofs.YtdehkaknbmbieaaGreat
set_option linter.unusedVariables false
set_option linter.unusedSimpArgs false
set_option linter.unusedSectionVars false
open Go.RowKit
set_option linter.unusedVariables false

/-- How many bits a code of a scale has; -1: it is none. -/
def sbitsI (G F M : Nat) (k : Int) : Int := if k < 0 ∨ (M : Int) ≤ k then -1 else if k < (F : Int) then 0 else (k - F) / G + 1
def sbeg (B G F M : Nat) : Nat → Nat
  | 0 => B
  | k + 1 => sbeg B G F M k + 2 ^ (sbitsI G F M (k : Nat)).toNat
def scaleV (B G F M : Nat) : Value := .agg #[.int .i64 (B : Nat), .int .i64 (G : Nat), .int .i64 (F : Nat), .int .i64 (M : Nat)]

set_option maxHeartbeats 1600000 in
theorem scale_bits (B G F M : Nat) (k : Int) (w : World) (hG : 1 ≤ G) (hG2 : G ≤ 100) (hF : F ≤ 100) (hM : M ≤ 100) :
    Calls Tryz.prog 100 #[scaleV B G F M, .int .i64 k] w fun e w' => e = .returned (.int .i64 (sbitsI G F M k)) ∧ Upd [] w w' := by
  unfold scaleV
  have hU := (Upd.refl [] w).alloc (.cells #[.int .i64 (B : Nat), .int .i64 (G : Nat), .int .i64 (F : Nat), .int .i64 (M : Nat)] 128)
  by_cases h0 : k < 0
  · have hs := Lib.hid (show sbitsI G F M k = -1 by unfold sbitsI; rw [if_pos (.inl h0)])
    have h0f : decide (k < 0) = true := decide_eq_true h0
    go_enter Tryz.func100, Tryz.ntmps100
    go_wp2
    go_returns
    exact ⟨by rw [hs.out]; rfl, hU⟩
  · have h0f : decide (k < 0) = false := decide_eq_false h0
    have h00 : 0 ≤ k := by omega
    by_cases hm : (M : Int) ≤ k
    · have hs := Lib.hid (show sbitsI G F M k = -1 by unfold sbitsI; rw [if_pos (.inr hm)])
      have hmf : decide ((M : Int) ≤ k) = true := decide_eq_true hm
      go_enter Tryz.func100, Tryz.ntmps100
      go_wp2
      go_returns
      exact ⟨by rw [hs.out]; rfl, hU⟩
    · have hmf : decide ((M : Int) ≤ k) = false := decide_eq_false hm
      have hkM : k < (M : Int) := by omega
      by_cases hf : k < (F : Int)
      · have hs := Lib.hid (show sbitsI G F M k = 0 by unfold sbitsI; rw [if_neg (by omega), if_pos hf])
        go_enter Tryz.func100, Tryz.ntmps100
        go_wp2
        go_returns
        exact ⟨by rw [hs.out]; rfl, hU⟩
      · have hs := Lib.hid (show sbitsI G F M k = (k - F) / G + 1 by unfold sbitsI; rw [if_neg (by omega), if_neg hf])
        have hGz : ¬ (G : Int) = 0 := by omega
        have hkF : (F : Int) ≤ k := by omega
        have hd : (k - (F : Int)).tdiv (G : Int) = (k - F) / G := Int.tdiv_eq_ediv_of_nonneg (by omega)
        have hq1 : 0 ≤ (k - (F : Int)) / G := Int.ediv_nonneg (by omega) (by omega)
        have hq2 : (k - (F : Int)) / G ≤ 100 := Int.le_trans (Int.ediv_le_self _ (by omega)) (by omega)
        clear hf h0 hm
        go_enter Tryz.func100, Tryz.ntmps100
        go_wp2
        go_returns
        exact ⟨by rw [hs.out]; rfl, hU⟩
theorem sbitsI_nn (G F M k : Nat) (h : k < M) : 0 ≤ sbitsI G F M (k : Nat) := by
  unfold sbitsI
  rw [if_neg (by omega)]
  split
  · omega
  · have : 0 ≤ ((k : Int) - F) / G := Int.ediv_nonneg (by omega) (by omega)
    omega
theorem sbeg_le (B G F M : Nat) (hb : ∀ j : Nat, j < M → sbitsI G F M (j : Nat) ≤ 13) (k : Nat) (hk : k ≤ M) : sbeg B G F M k ≤ B + k * 8192 := by
  induction k with
  | zero => simp [sbeg]
  | succ k ih =>
    have h1 := hb k (by omega)
    have h2 : 2 ^ (sbitsI G F M (k : Nat)).toNat ≤ 2 ^ 13 := Nat.pow_le_pow_right (by omega) (by omega)
    have := ih (by omega)
    simp only [sbeg]; omega

set_option maxRecDepth 100000 in
set_option maxHeartbeats 1600000 in
theorem scale_begin (B G F M k : Nat) (w : World) (hG : 1 ≤ G) (hG2 : G ≤ 100) (hF : F ≤ 100) (hM : M ≤ 100) (hB : B ≤ 100) (hb : ∀ j : Nat, j < M → sbitsI G F M (j : Nat) ≤ 13) (hk : k ≤ M) :
    Calls Tryz.prog 121 #[scaleV B G F M, .int .i64 (k : Nat)] w fun e w' => e = .returned (.int .i64 (sbeg B G F M k : Nat)) ∧ Upd [] w w' := by
  have HB := Lib.hid (fun j w' => scale_bits B G F M j w' hG hG2 hF hM)
  have HBD := Lib.hid hb
  unfold scaleV
  have hU := (Upd.refl [] w).alloc (.cells #[.int .i64 (B : Nat), .int .i64 (G : Nat), .int .i64 (F : Nat), .int .i64 (M : Nat)] 128)
  have hP := Blk.new w [.int .i64 (B : Nat), .int .i64 (G : Nat), .int .i64 (F : Nat), .int .i64 (M : Nat)] 128
  unfold scaleV at HB
  clear hb
  go_enter Tryz.func121, Tryz.ntmps121
  go_wp2
  go_loopg [5, 10] k (fun g s5 s10 wr => ∃ i, i ≤ k ∧ g = k - i ∧ s10 = .int .i64 (i : Nat) ∧ s5 = .int .i64 (sbeg B G F M i : Nat) ∧ Upd [] w wr ∧ Blk wr w.heap.size [.int .i64 (B : Nat), .int .i64 (G : Nat), .int .i64 (F : Nat), .int .i64 (M : Nat)] 128)
  case atStart => exact ⟨0, by omega, rfl, rfl, rfl, hU, hP⟩
  case round =>
    obtain ⟨i, hi, rfl, rfl, rfl, hUr, hPr⟩ := hrel
    have hle := sbeg_le B G F M HBD.out i (by omega)
    have hle2 : i * 8192 ≤ 100 * 8192 := Nat.mul_le_mul_right _ (by omega)
    clear hU hP
    by_cases hc : i < k
    · have hcz : (i : Int) < (k : Int) := by omega
      have hbi := HB.out (i : Nat)
      have hnn := sbitsI_nn G F M i (by omega)
      have hb13 := HBD.out i (by omega)
      have hst := Lib.hid (show sbeg B G F M (i + 1) = sbeg B G F M i + 2 ^ (sbitsI G F M (i : Nat)).toNat by rfl)
      generalize sbeg B G F M i = q at *
      obtain ⟨t, ht⟩ : ∃ t : Nat, sbitsI G F M (i : Nat) = (t : Int) := ⟨(sbitsI G F M (i : Nat)).toNat, by omega⟩
      rw [ht] at hbi hst hb13 hnn
      rw [Int.toNat_natCast] at hst
      have ht13 : t ≤ 13 := by omega
      have hp : 2 ^ t ≤ 2 ^ 13 := Nat.pow_le_pow_right (by omega) ht13
      have HBI := Lib.hid hbi
      clear hbi ht hb13
      go_wp2_with (refine wpList_loadBlk rfl 128 _ rfl w.heap.size rfl 128 _ hPr _ Tryz.underlying128 rfl (by kernel_rfl) ?_)
      refine (HBI.out wr).mono ?_
      rintro e w1 ⟨rfl, hU1⟩
      go_wp2
      go_roundg (k - (i + 1))
      case measure => omega
      case rel =>
        refine ⟨i + 1, by omega, rfl, by go_num, ?_, hUr.then hU1, hPr.upd hU1 (by simp)⟩
        have e : (2 : Int) ^ t = ((2 ^ t : Nat) : Int) := by simp
        have e3 : wrap64 ((2 ^ t : Nat) : Int) = ((2 ^ t : Nat) : Int) := by
          clear e
          generalize 2 ^ t = p at *
          exact IntWalk.wrap64_in _ (by omega)
        rw [hst.out, e, e3, ← Int.natCast_add]
        clear e e3
        generalize 2 ^ t = p at *
        rw [IntWalk.wrap64_in _ (by omega)]
    · have hik : i = k := by omega
      have hcz : ¬ (i : Int) < (k : Int) := by omega
      subst hik
      generalize hq : sbeg B G F M i = q at *
      have HQ := Lib.hid hq
      clear hq
      go_wp2
      go_returns
      exact ⟨by rw [HQ.out]; rfl, hUr⟩

/-- The number of a code and of what is in its bits. -/
def numS (B G F M : Nat) (k more : Int) : Option Nat := if sbitsI G F M k = -1 ∨ more < 0 ∨ (2 : Int) ^ (sbitsI G F M k).toNat ≤ more then none else some (sbeg B G F M k.toNat + more.toNat)
def optVal (o : Option Nat) : Value := .tuple #[.int .i64 (o.getD 0 : Nat), .bool o.isSome]

set_option maxRecDepth 100000 in
set_option maxHeartbeats 1600000 in
theorem scale_number (B G F M : Nat) (k more : Int) (w : World) (hG : 1 ≤ G) (hG2 : G ≤ 100) (hF : F ≤ 100) (hM : M ≤ 100) (hB : B ≤ 100) (hb : ∀ j : Nat, j < M → sbitsI G F M (j : Nat) ≤ 13) :
    Calls Tryz.prog 150 #[scaleV B G F M, .int .i64 k, .int .i64 more] w fun e w' => e = .returned (optVal (numS B G F M k more)) ∧ Upd [] w w' := by
  have HS := Lib.hid (fun w' => scale_bits B G F M k w' hG hG2 hF hM)
  have HBE := Lib.hid (fun kn w' hk => scale_begin B G F M kn w' hG hG2 hF hM hB hb hk)
  have HBD := Lib.hid (fun kn hk => sbeg_le B G F M hb kn hk)
  have HB := Lib.hid hb
  unfold scaleV at HS HBE ⊢
  have hU := (Upd.refl [] w).alloc (.cells #[.int .i64 (B : Nat), .int .i64 (G : Nat), .int .i64 (F : Nat), .int .i64 (M : Nat)] 128)
  have hP := Blk.new w [.int .i64 (B : Nat), .int .i64 (G : Nat), .int .i64 (F : Nat), .int .i64 (M : Nat)] 128
  clear hb
  by_cases h1 : sbitsI G F M k = -1
  · have hs := Lib.hid (show numS B G F M k more = none by unfold numS; rw [if_pos (.inl h1)])
    rw [h1] at HS
    clear h1
    go_enter Tryz.func150, Tryz.ntmps150
    go_wp2_with (refine wpList_loadBlk rfl 128 _ rfl w.heap.size rfl 128 _ hP _ Tryz.underlying128 rfl (by kernel_rfl) ?_)
    refine (HS.out _).mono ?_
    rintro e w1 ⟨rfl, hU1⟩
    go_wp2
    go_returns
    exact ⟨by rw [hs.out]; rfl, hU.then hU1⟩
  · have hk : 0 ≤ k ∧ k < M := by
      unfold sbitsI at h1
      split at h1
      · exact absurd rfl h1
      · omega
    obtain ⟨K, rfl⟩ : ∃ K : Nat, k = (K : Int) := ⟨k.toNat, by omega⟩
    have hnn := sbitsI_nn G F M K (by omega)
    have h13 := HB.out K (by omega)
    obtain ⟨t, ht⟩ : ∃ t : Nat, sbitsI G F M (K : Nat) = (t : Int) := ⟨(sbitsI G F M (K : Nat)).toNat, by omega⟩
    have hnum : numS B G F M (K : Int) more = if more < 0 ∨ ((2 ^ t : Nat) : Int) ≤ more then none else some (sbeg B G F M K + more.toNat) := by
      unfold numS; rw [ht]
      have e : (2 : Int) ^ t = ((2 ^ t : Nat) : Int) := by simp
      rw [Int.toNat_natCast, Int.toNat_natCast, e]
      have : ((t : Int) = -1) = False := by simp
      simp only [this, false_or]
    rw [ht] at HS h13
    have hp : 2 ^ t ≤ 2 ^ 13 := Nat.pow_le_pow_right (by omega) (by omega)
    have ht13 : (t : Int) ≤ 13 := h13
    have e2 : (2 : Int) ^ t = ((2 ^ t : Nat) : Int) := by simp
    have htf : ((t : Int) == -1) = false := by simp
    clear ht hnn h1 h13
    by_cases hm : more < 0
    · have hmf : decide (more < 0) = true := decide_eq_true hm
      rw [if_pos (.inl hm)] at hnum
      have hs := Lib.hid hnum
      clear hnum
      go_enter Tryz.func150, Tryz.ntmps150
      go_wp2_with (refine wpList_loadBlk rfl 128 _ rfl w.heap.size rfl 128 _ hP _ Tryz.underlying128 rfl (by kernel_rfl) ?_)
      refine (HS.out _).mono ?_
      rintro e w1 ⟨rfl, hU1⟩
      go_wp2
      go_returns
      exact ⟨by rw [hs.out]; rfl, hU.then hU1⟩
    · have hmf : decide (more < 0) = false := decide_eq_false hm
      have hsh : wrap64 ((2 : Int) ^ t) = ((2 ^ t : Nat) : Int) := by
        rw [e2]
        clear e2 hnum
        generalize 2 ^ t = p at *
        exact IntWalk.wrap64_in _ (by omega)
      have HSH := Lib.hid hsh
      have E2 := Lib.hid e2
      have h0t : (0 : Int) ≤ (t : Int) := by omega
      have ht13n : t ≤ 13 := by omega
      clear hsh e2
      by_cases hg : ((2 ^ t : Nat) : Int) ≤ more
      · rw [if_pos (.inr hg)] at hnum
        have hs := Lib.hid hnum
        have hgf : decide (wrap64 ((2 : Int) ^ t) ≤ more) = true := by rw [HSH.out]; exact decide_eq_true hg
        clear hnum hg
        go_enter Tryz.func150, Tryz.ntmps150
        go_wp2_with (refine wpList_loadBlk rfl 128 _ rfl w.heap.size rfl 128 _ hP _ Tryz.underlying128 rfl (by kernel_rfl) ?_)
        refine (HS.out _).mono ?_
        rintro e w1 ⟨rfl, hU1⟩
        go_wp2
        go_returns
        exact ⟨by rw [hs.out]; rfl, hU.then hU1⟩
      · rw [if_neg (by omega)] at hnum
        have hs := Lib.hid hnum
        have hgf : decide (wrap64 ((2 : Int) ^ t) ≤ more) = false := by rw [HSH.out]; exact decide_eq_false hg
        obtain ⟨MR, rfl⟩ : ∃ MR : Nat, more = (MR : Int) := ⟨more.toNat, by omega⟩
        have hmr : (MR : Int) ≤ 8192 := by
          have h1 : ¬ ((2 ^ t : Nat) : Int) ≤ (MR : Int) := hg
          clear hgf
          generalize 2 ^ t = p at *
          omega
        have hle := HBD.out K (by omega)
        have hle2 : K * 8192 ≤ 100 * 8192 := Nat.mul_le_mul_right _ (by omega)
        have HBK := Lib.hid (fun w' => HBE.out K w' (by omega))
        clear hnum hg
        generalize hq : sbeg B G F M K = q at *
        clear hq
        go_enter Tryz.func150, Tryz.ntmps150
        go_wp2_with (refine wpList_loadBlk rfl 128 _ rfl w.heap.size rfl 128 _ hP _ Tryz.underlying128 rfl (by kernel_rfl) ?_)
        refine (HS.out _).mono ?_
        rintro e w1 ⟨rfl, hU1⟩
        have hP1 := hP.upd hU1 (by simp)
        go_wp2_with (refine wpList_loadBlk rfl 128 _ rfl w.heap.size rfl 128 _ hP1 _ Tryz.underlying128 rfl (by kernel_rfl) ?_)
        refine (HBK.out _).mono ?_
        rintro e w2 ⟨rfl, hU2⟩
        go_wp2
        go_returns
        exact ⟨by rw [hs.out]; simp [optVal], (hU.then hU1).then hU2⟩
end Go.Proofs.YtdehkaknbmbieaaGreat

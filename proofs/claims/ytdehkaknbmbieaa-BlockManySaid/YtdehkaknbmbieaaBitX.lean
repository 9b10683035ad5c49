/- The walks of package bitio's Writer, further: Align, Text, Len, Bytes; and all of them of nil. -/
import Derived.Test.YtdehkaknbmbieaaBitW
import Derived.Handy
namespace Go.Proofs.Ytdehkaknbmbieaa
set_option linter.unusedVariables false
set_option linter.unusedSimpArgs false
set_option linter.unusedSectionVars false
open Go.RowKit

theorem bits_nil (x k : Int) (w : World) : Calls Try.prog 138 #[.pointer none, .int .u32 x, .int .i64 k] w fun e w' => e = .returned (.tuple #[]) ∧ w = w' := by
  go_enter Try.func138, Try.ntmps138
  go_wp2
  go_returns
  exact ⟨rfl, rfl⟩
theorem align_nil (w : World) : Calls Try.prog 149 #[.pointer none] w fun e w' => e = .returned (.tuple #[]) ∧ w = w' := by
  go_enter Try.func149, Try.ntmps149
  go_wp2
  go_returns
  exact ⟨rfl, rfl⟩
theorem text_nil (s : ByteArray) (w : World) : Calls Try.prog 150 #[.pointer none, .string s] w fun e w' => e = .returned (.tuple #[]) ∧ w = w' := by
  go_enter Try.func150, Try.ntmps150
  go_wp2
  go_returns
  exact ⟨rfl, rfl⟩
theorem bytes_nil (w : World) : Calls Try.prog 121 #[.pointer none] w fun e w' => e = .returned (.string ⟨#[]⟩) ∧ w = w' := by
  go_enter Try.func121, Try.ntmps121
  go_wp2
  go_returns
  exact ⟨rfl, rfl⟩

set_option maxHeartbeats 800000 in
theorem align_any (b : Nat) (w : World) (v : Value) (L : List Bool) (hW : WrAt w b v L (L.length / 8)) (hL : L.length ≤ 1099511627776) :
    Calls Try.prog 149 #[.pointer (some ⟨b, 0, none⟩)] w (BitsPost w b v (alignL L)) := by
  have h2 := hW.blk.cell 2 rfl
  by_cases hz : L.length % 8 = 0
  · have hn : L.length - 8 * (L.length / 8) = 0 := by omega
    rw [hn] at h2
    rw [alignL_of _ hz]
    clear hn
    go_enter Try.func149, Try.ntmps149
    go_wp2
    go_returns
    exact ⟨rfl, v, hW, .refl _ _, .refl _ _⟩
  · have hn1 : (1 : Int) ≤ ((L.length - 8 * (L.length / 8) : Nat) : Int) := by omega
    have hn7 : ((L.length - 8 * (L.length / 8) : Nat) : Int) ≤ 7 := by omega
    have hK : Hid (((8 - (L.length - 8 * (L.length / 8)) : Nat) : Int) = max 0 (min (8 - ((L.length - 8 * (L.length / 8) : Nat) : Int)) 32)) := Lib.hid (by omega)
    have hc := bits_any b 0 0 (8 - ((L.length - 8 * (L.length / 8) : Nat) : Int)) (8 - (L.length - 8 * (L.length / 8))) w v L rfl (by omega) hW hL (by omega) hK
    have e : L ++ low (8 - (L.length - 8 * (L.length / 8))) 0 = alignL L := by
      rw [low_zero, alignL]; congr 2; omega
    rw [e] at hc
    have HC := Lib.hid hc
    clear hc e hK
    generalize L.length - 8 * (L.length / 8) = r at *
    go_enter Try.func149, Try.ntmps149
    go_wp2_with fail
    refine HC.out.mono ?_
    rintro e w' ⟨rfl, hp⟩
    go_wp2
    go_returns
    exact ⟨rfl, hp⟩
set_option maxHeartbeats 1600000 in
theorem text_any (b : Nat) (s : ByteArray) (w : World) (v : Value) (L : List Bool) (hW : WrAt w b v L (L.length / 8)) (hL : L.length ≤ 1099511627776) (hs : s.size ≤ 1099511627776) :
    Calls Try.prog 150 #[.pointer (some ⟨b, 0, none⟩), .string s] w (BitsPost w b v (alignL L ++ textBits (bytesOf s))) := by
  obtain ⟨i0, hi, hz0, hz1, hz2⟩ := info_parts infoU8
  have HC := Lib.hid (align_any b w v L hW hL)
  have hlen : Hid ((alignL L).length = 8 * ((alignL L).length / 8)) := Lib.hid (by rw [length_alignL]; omega)
  have hle : (alignL L).length ≤ 1099511627790 := by rw [length_alignL]; omega
  generalize alignL L = L' at *
  go_enter Try.func150, Try.ntmps150
  go_wp2_with fail
  refine HC.out.mono ?_
  rintro e w1 ⟨rfl, v1, hW1, hU1, hT1⟩
  have h0 := hW1.blk.cell 0 rfl
  go_wp2_with (at_builtin; refine wpList_app_str _ rfl _ _ 102 9 rfl 5 i0 Try.underlying102 Try.underlying9 hi hz0 hz1 hz2 v1 _ _ rfl hW1.row s rfl (by unfold maxLen; omega) (by omega) ?_)
  intro v2 w2 hR2 hU2 hT2
  obtain ⟨a2, c2, rfl⟩ := hR2.form
  have hB2 := hW1.blk.upd hU2 (by have := hW1.far; simpa using this)
  have f0 := hB2.frz 0
  have k0 := hB2.cell 0 rfl
  go_wp2
  go_returns
  have hm : (L' ++ textBits (bytesOf s)).length / 8 = L'.length / 8 + s.size := by
    rw [List.length_append, length_textBits, length_bytesOf]; have := hlen.out; omega
  have hfar := hT2.ne hW1.blk.lt hW1.far
  refine ⟨rfl, _, ⟨?_, ?_, by omega, hfar⟩, ?_, hT1.trans hU1.size hT2⟩
  · have h := hB2.set 0 (.slice a2 (L'.length / 8 + s.size) c2)
    rw [rest_nil _ _ (by have := hlen.out; omega)] at h
    rw [rest_nil _ _ (by rw [hm, List.length_append, length_textBits, length_bytesOf]; have := hlen.out; omega)]
    have e1 : L'.length - 8 * (L'.length / 8) = 0 := by have := hlen.out; omega
    have e2 : (L' ++ textBits (bytesOf s)).length - 8 * ((L' ++ textBits (bytesOf s)).length / 8) = 0 := by rw [hm, List.length_append, length_textBits, length_bytesOf]; have := hlen.out; omega
    rw [e1] at h
    rw [e2]
    exact h
  · rw [hm]
    have e3 : outs (L' ++ textBits (bytesOf s)) (L'.length / 8 + s.size) = outs L' (L'.length / 8) ++ bytesOf s := by
      rw [← length_bytesOf s]; exact outs_text L' _ hlen.out _ (bytesOf_lt s)
    rw [e3, u8s_append, ← strCells_eq]
    exact hR2.setFar _ hfar
  · refine (hU1.trans hU2 (fun k hk => ?_)).setCell (.inl (by simp [wrFp])) _
    exact (hT1.fp k hk).imp (fun h => by simp [wrFp]; right; simpa using h) id

set_option maxHeartbeats 1600000 in
theorem bytes_any (b : Nat) (w : World) (v : Value) (L : List Bool) (hW : WrAt w b v L (L.length / 8)) (hL : L.length ≤ 1099511627776) :
    Calls Try.prog 121 #[.pointer (some ⟨b, 0, none⟩)] w fun e w' => e = .returned (.string (strOf (pack L))) ∧ Upd [] w w' := by
  have h0 := hW.blk.cell 0 rfl
  have h1 := hW.blk.cell 1 rfl
  have h2 := hW.blk.cell 2 rfl
  have hc := fun W' h => run_conv_row (P := Try.prog) W' 102 9 5 Try.underlying102 Try.underlying5 Try.underlying9 (v := v) (n := L.length / 8) (l := outs L (L.length / 8)) h
  have hlo := length_outs L (L.length / 8)
  by_cases hz : L.length % 8 = 0
  · have hn : L.length - 8 * (L.length / 8) = 0 := by omega
    have hp : pack L = outs L (L.length / 8) := by unfold pack; congr 1; omega
    have HP := Lib.hid hp
    have h2' : w.cell? ⟨b, 2, none⟩ = some (.int .i64 0) := by rw [h2, hn]; rfl
    clear hp hn hz h2
    have hcw := hc w hW.row
    clear hc
    go_enter Try.func121, Try.ntmps121
    go_wp2
    go_returns
    exact ⟨by rw [HP.out]; rfl, .refl _ _⟩
  · have hn1 : (1 : Int) ≤ ((L.length - 8 * (L.length / 8) : Nat) : Int) := by omega
    have hp : pack L = outs L (L.length / 8) ++ [rest L (L.length / 8)] := by
      unfold pack
      rw [show (L.length + 7) / 8 = L.length / 8 + 1 by omega, outs_succ, chunk_last _ _ (by omega)]
    have hr : rest L (L.length / 8) < 256 := Nat.lt_of_lt_of_le (rest_lt L _) (Nat.le_trans (Nat.pow_le_pow_right (by omega) (show L.length - 8 * (L.length / 8) ≤ 8 by omega)) (by decide))
    have HP := Lib.hid hp
    clear hp hz
    go_enter Try.func121, Try.ntmps121
    go_wp2
    have hcw := hc w.drew hW.row.drew
    have k0 : ∀ o, (w.alloc o).cell? ⟨b, 0, none⟩ = some v := fun o => (hW.blk.alloc o).cell 0 rfl
    have k1 : ∀ o, (w.alloc o).cell? ⟨b, 1, none⟩ = some (.int .u64 (rest L (L.length / 8) : Nat)) := fun o => (hW.blk.alloc o).cell 1 rfl
    have hc1 := run_conv_row (P := Try.prog) (w.alloc (.cells #[.int .u8 (rest L (L.length / 8) : Nat)] 5)).drew 102 9 5 Try.underlying102 Try.underlying5 Try.underlying9 (l := [rest L (L.length / 8)]) (Row.new w [.int .u8 (rest L (L.length / 8) : Nat)] 5 1 1 (by decide) rfl).drew
    have hcw2 := fun o => hc (w.alloc o).drew (hW.row.alloc o).drew
    have hadd : ∀ W', (Op.stringOp .add (strOf (outs L (L.length / 8))) (strOf [rest L (L.length / 8)])).run Try.prog W' = .ok (.string (strOf (outs L (L.length / 8)) ++ strOf [rest L (L.length / 8)])) W' := fun W' =>
      run_string_add_sum _ _ _ (by rw [size_strOf, size_strOf, hlo]; simp; omega)
    clear hc hW
    go_region
    all_goals go_wp2
    all_goals go_returns
    all_goals exact ⟨by rw [HP.out, ← strOf_append]; rfl, ((Upd.refl _ _).alloc _).drew⟩
end Go.Proofs.Ytdehkaknbmbieaa

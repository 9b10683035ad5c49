/- The walks of package bitio's Writer, further: Align, Text, Len, Bytes; and all of them of nil. -/
import Derived.Handy
import Derived.Test.YtdehkaknbmbieaaGreatQAO
import Derived.Deep.CutBlock
import Derived.Test.YtdehkaknbmbieaaGreatQAC
import Derived.Test.YtdehkaknbmbieaaGreatQAB
namespace Go.Proofs.YtdehkaknbmbieaaGreat
set_option linter.unusedVariables false
set_option linter.unusedSimpArgs false
set_option linter.unusedSectionVars false
open Go.RowKit

set_option maxHeartbeats 800000 in
theorem len_any (b : Nat) (w : World) (v : Value) (L : List Bool) (hW : WrAt w b v L (L.length / 8)) (hL : L.length ≤ 2199023255552) :
    Calls Tryz.prog 11 #[.pointer (some ⟨b, 0, none⟩)] w fun e w' => e = .returned (.int .i64 (L.length : Nat)) ∧ ∃ n, w' = w.drewN n := by
  obtain ⟨a, cap, rfl⟩ := hW.row.form
  have h0 := hW.blk.cell 0 rfl
  have h2 := hW.blk.cell 2 rfl
  have hb1 : (0 : Int) ≤ ((L.length / 8 : Nat) : Int) := by omega
  have hb2 : ((L.length / 8 : Nat) : Int) ≤ 2199023255552 := by omega
  have hb3 : (0 : Int) ≤ ((L.length - 8 * (L.length / 8) : Nat) : Int) := by omega
  have hb4 : ((L.length - 8 * (L.length / 8) : Nat) : Int) ≤ 7 := by omega
  have e : ((8 * (L.length / 8 : Nat) + (L.length - 8 * (L.length / 8) : Nat) : Nat) : Int) = (L.length : Int) := by omega
  generalize L.length / 8 = q at *
  generalize L.length - 8 * q = r at *
  have he := Lib.hid e
  clear e hW
  go_enter Tryz.func11, Tryz.ntmps11
  go_wp2
  go_quiet (fail)
  go_wp2
  go_returns
  refine ⟨?_, _, rfl⟩
  rw [← he.out]
  simp

set_option maxHeartbeats 800000 in
theorem align_any (b : Nat) (w : World) (v : Value) (L : List Bool) (hW : WrAt w b v L (L.length / 8)) (hL : L.length ≤ 1099511627776) :
    Calls Tryz.prog 43 #[.pointer (some ⟨b, 0, none⟩)] w (BitsPost w b v (alignL L)) := by
  have h2 := hW.blk.cell 2 rfl
  by_cases hz : L.length % 8 = 0
  · have hn : L.length - 8 * (L.length / 8) = 0 := by omega
    rw [hn] at h2
    rw [alignL_of _ hz]
    clear hn
    go_enter Tryz.func43, Tryz.ntmps43
    go_wp2
    go_returns
    exact ⟨rfl, v, hW, .refl _ _, .refl _ _⟩
  · have hn1 : (1 : Int) ≤ ((L.length - 8 * (L.length / 8) : Nat) : Int) := by omega
    have hn7 : ((L.length - 8 * (L.length / 8) : Nat) : Int) ≤ 7 := by omega
    have hK : Hid (((8 - (L.length - 8 * (L.length / 8)) : Nat) : Int) = max 0 (min (8 - ((L.length - 8 * (L.length / 8) : Nat) : Int)) 32)) := Lib.hid (by omega)
    have hc := bits_any b 0 0 (8 - ((L.length - 8 * (L.length / 8) : Nat) : Int)) (8 - (L.length - 8 * (L.length / 8))) w v L rfl (by omega) hW hL (by omega) hK
    have e : L ++ low (8 - (L.length - 8 * (L.length / 8))) 0 = alignL L := by
      rw [low_zero, alignL]; congr 2; omega
    rw [e] at hc
    have HC := Lib.hid hc
    clear hc e hK
    generalize L.length - 8 * (L.length / 8) = r at *
    go_enter Tryz.func43, Tryz.ntmps43
    go_wp2_with fail
    refine HC.out.mono ?_
    rintro e w' ⟨rfl, hp⟩
    go_wp2
    go_returns
    exact ⟨rfl, hp⟩
set_option maxHeartbeats 1600000 in
theorem text_any (b : Nat) (s : ByteArray) (w : World) (v : Value) (L : List Bool) (hW : WrAt w b v L (L.length / 8)) (hL : L.length ≤ 1099511627776) (hs : s.size ≤ 1099511627776) :
    Calls Tryz.prog 44 #[.pointer (some ⟨b, 0, none⟩), .string s] w (BitsPost w b v (alignL L ++ textBits (bytesOf s))) := by
  obtain ⟨i0, hi, hz0, hz1, hz2⟩ := info_parts infoU8
  have HC := Lib.hid (align_any b w v L hW hL)
  have hlen : Hid ((alignL L).length = 8 * ((alignL L).length / 8)) := Lib.hid (by rw [length_alignL]; omega)
  have hle : (alignL L).length ≤ 1099511627790 := by rw [length_alignL]; omega
  generalize alignL L = L' at *
  go_enter Tryz.func44, Tryz.ntmps44
  go_wp2_with fail
  refine HC.out.mono ?_
  rintro e w1 ⟨rfl, v1, hW1, hU1, hT1⟩
  have h0 := hW1.blk.cell 0 rfl
  go_wp2_with (at_builtin; refine wpList_app_str _ rfl _ _ 28 9 rfl 5 i0 Tryz.underlying28 Tryz.underlying9 hi hz0 hz1 hz2 v1 _ _ rfl hW1.row s rfl (by unfold maxLen; omega) (by omega) ?_)
  intro v2 w2 hR2 hU2 hT2
  obtain ⟨a2, c2, rfl⟩ := hR2.form
  have hB2 := hW1.blk.upd hU2 (by have := hW1.far; simpa using this)
  have f0 := hB2.frz 0
  have k0 := hB2.cell 0 rfl
  go_wp2
  go_returns
  have hm : (L' ++ textBits (bytesOf s)).length / 8 = L'.length / 8 + s.size := by
    rw [List.length_append, length_textBits, length_bytesOf]; have := hlen.out; omega
  have hfar := hT2.ne hW1.blk.lt hW1.far
  refine ⟨rfl, _, ⟨?_, ?_, by omega, hfar⟩, ?_, hT1.trans hU1.size hT2⟩
  · have h := hB2.set 0 (.slice a2 (L'.length / 8 + s.size) c2)
    rw [rest_nil _ _ (by have := hlen.out; omega)] at h
    rw [rest_nil _ _ (by rw [hm, List.length_append, length_textBits, length_bytesOf]; have := hlen.out; omega)]
    have e1 : L'.length - 8 * (L'.length / 8) = 0 := by have := hlen.out; omega
    have e2 : (L' ++ textBits (bytesOf s)).length - 8 * ((L' ++ textBits (bytesOf s)).length / 8) = 0 := by rw [hm, List.length_append, length_textBits, length_bytesOf]; have := hlen.out; omega
    rw [e1] at h
    rw [e2]
    exact h
  · rw [hm]
    have e3 : outs (L' ++ textBits (bytesOf s)) (L'.length / 8 + s.size) = outs L' (L'.length / 8) ++ bytesOf s := by
      rw [← length_bytesOf s]; exact outs_text L' _ hlen.out _ (bytesOf_lt s)
    rw [e3, u8s_append, ← strCells_eq]
    exact hR2.setFar _ hfar
  · refine (hU1.trans hU2 (fun k hk => ?_)).setCell (.inl (by simp [wrFp])) _
    exact (hT1.fp k hk).imp (fun h => by simp [wrFp]; right; simpa using h) id

set_option maxHeartbeats 1600000 in
theorem bytes_any (b : Nat) (w : World) (v : Value) (L : List Bool) (hW : WrAt w b v L (L.length / 8)) (hL : L.length ≤ 1099511627776) :
    Calls Tryz.prog 13 #[.pointer (some ⟨b, 0, none⟩)] w fun e w' => e = .returned (.string (strOf (pack L))) ∧ Upd [] w w' := by
  have h0 := hW.blk.cell 0 rfl
  have h1 := hW.blk.cell 1 rfl
  have h2 := hW.blk.cell 2 rfl
  have hc := fun W' h => run_conv_row (P := Tryz.prog) W' 28 9 5 Tryz.underlying28 Tryz.underlying5 Tryz.underlying9 (v := v) (n := L.length / 8) (l := outs L (L.length / 8)) h
  have hlo := length_outs L (L.length / 8)
  by_cases hz : L.length % 8 = 0
  · have hn : L.length - 8 * (L.length / 8) = 0 := by omega
    have hp : pack L = outs L (L.length / 8) := by unfold pack; congr 1; omega
    have HP := Lib.hid hp
    have h2' : w.cell? ⟨b, 2, none⟩ = some (.int .i64 0) := by rw [h2, hn]; rfl
    clear hp hn hz h2
    have hcw := hc w hW.row
    clear hc
    go_enter Tryz.func13, Tryz.ntmps13
    go_wp2
    go_returns
    exact ⟨by rw [HP.out]; rfl, .refl _ _⟩
  · have hn1 : (1 : Int) ≤ ((L.length - 8 * (L.length / 8) : Nat) : Int) := by omega
    have hp : pack L = outs L (L.length / 8) ++ [rest L (L.length / 8)] := by
      unfold pack
      rw [show (L.length + 7) / 8 = L.length / 8 + 1 by omega, outs_succ, chunk_last _ _ (by omega)]
    have hr : rest L (L.length / 8) < 256 := Nat.lt_of_lt_of_le (rest_lt L _) (Nat.le_trans (Nat.pow_le_pow_right (by omega) (show L.length - 8 * (L.length / 8) ≤ 8 by omega)) (by decide))
    have HP := Lib.hid hp
    clear hp hz
    go_enter Tryz.func13, Tryz.ntmps13
    go_wp2
    have hcw := hc w.drew hW.row.drew
    have k0 : ∀ o, (w.alloc o).cell? ⟨b, 0, none⟩ = some v := fun o => (hW.blk.alloc o).cell 0 rfl
    have k1 : ∀ o, (w.alloc o).cell? ⟨b, 1, none⟩ = some (.int .u64 (rest L (L.length / 8) : Nat)) := fun o => (hW.blk.alloc o).cell 1 rfl
    have hc1 := run_conv_row (P := Tryz.prog) (w.alloc (.cells #[.int .u8 (rest L (L.length / 8) : Nat)] 5)).drew 28 9 5 Tryz.underlying28 Tryz.underlying5 Tryz.underlying9 (l := [rest L (L.length / 8)]) (Row.new w [.int .u8 (rest L (L.length / 8) : Nat)] 5 1 1 (by decide) rfl).drew
    have hcw2 := fun o => hc (w.alloc o).drew (hW.row.alloc o).drew
    have hadd : ∀ W', (Op.stringOp .add (strOf (outs L (L.length / 8))) (strOf [rest L (L.length / 8)])).run Tryz.prog W' = .ok (.string (strOf (outs L (L.length / 8)) ++ strOf [rest L (L.length / 8)])) W' := fun W' =>
      run_string_add_sum _ _ _ (by rw [size_strOf, size_strOf, hlo]; simp; omega)
    clear hc hW
    go_region
    all_goals go_wp2
    all_goals go_returns
    all_goals exact ⟨by rw [HP.out, ← strOf_append]; rfl, ((Upd.refl _ _).alloc _).drew⟩
end Go.Proofs.YtdehkaknbmbieaaGreat
namespace Go.Proofs.YtdehkaknbmbieaaGreat
set_option linter.unusedVariables false
set_option linter.unusedSimpArgs false
set_option linter.unusedSectionVars false
open Go.RowKit

theorem infoCounts : (Tryz.prog.info? 160).map (·.size) = some 16 := by kernel_rfl

def CountPost (w : World) (l : List Int) (e : Ending) (w' : World) : Prop :=
  Upd [] w w' ∧ ((okLens l = true ∧ e = .returned (.tuple #[.agg (i64s (cl (nats l))).toArray, .bool true])) ∨
    (okLens l = false ∧ ∃ c, c.length = 16 ∧ e = .returned (.tuple #[.agg (i64s c).toArray, .bool false])))

def CountRel (w : World) (l : List Int) (i : Nat) (wr : World) : Prop := okLens (l.take i) = true ∧ Blk wr w.heap.size (i64s (cl0 (nats (l.take i)))) 160 ∧ Upd [] w wr

theorem count_res {w : World} {fn : Func} {p u : Tmp} {b : Nat} {cs : List Value} {tmps : Array Value} (h : fn.results = #[.cell p 160, .tmp u]) (hp : tmps.getD p undef = .pointer (some ⟨b, 0, none⟩)) {t : TypeId} (hB : Blk w b cs t) (hl : cs.length = 16) :
    (results fn tmps).run Tryz.prog w = .ok (.tuple #[.agg cs.toArray, tmps.getD u undef]) w := by
  have hp' : tmps[p]?.getD undef = .pointer (some ⟨b, 0, none⟩) := by simpa using hp
  have hr := run_loadVar_row (P := Tryz.prog) w b t 160 cs.toArray (0, 0) _ hB Tryz.underlying160 rfl (by rw [infoCounts]; simp [hl])
  simp [results, h, hp', asAddr, hr]

set_option maxRecDepth 100000 in
set_option maxHeartbeats 3200000 in
theorem qcount_any (a : Option Addr) (len cap : Nat) (l : List Int) (w : World) (hlen : len ≤ 9223372036854775807) (hI : IntsIn w a len l) :
    Calls Tryz.prog 119 #[.slice a len cap] w (CountPost w l) := by
  have hll := hI.len
  have HI := Lib.hid hI
  clear hI
  subst hll
  by_cases hlong : 300 < l.length
  · have hnz : ((l.length : Nat) : Int) > 300 := by omega
    have hok := okLens_long hlong
    have HOK := Lib.hid hok
    clear hok hlong
    go_enter Tryz.func119, Tryz.ntmps119
    have hB := Blk.new w (i64s (List.replicate 16 0)) 160
    go_wp2_with (first
      | (refine wpList_loadBlk rfl 160 _ rfl w.heap.size rfl 160 (i64s (List.replicate 16 0)) hB _ Tryz.underlying160 rfl (by kernel_rfl) ?_)
      | (refine wpList_storeBlk rfl 160 _ _ rfl w.heap.size rfl (i64s (List.replicate 16 0)) rfl 160 _ hB (by kernel_rfl) rfl (i64s_one _) ?_; intro w2 hB2 hU2))
    exact bodyPost_ret (count_res rfl rfl hB2 rfl) rfl ⟨((Upd.refl _ _).alloc _).trans hU2 (fun k hk => by simp at hk; right; omega), .inr ⟨HOK.out, _, rfl, rfl⟩⟩
  · have hnz : ¬ ((l.length : Nat) : Int) > 300 := by omega
    go_enter Tryz.func119, Tryz.ntmps119
    go_wp2
    go_loopg [12] l.length (fun g s12 wr => ∃ i, i ≤ l.length ∧ g = l.length - i ∧ s12 = .int .i64 (i : Nat) ∧ CountRel w l i wr)
    case atStart => exact ⟨0, by omega, rfl, rfl, okLens_mk (by simp) (by simp), Blk.new w (i64s (List.replicate 16 0)) 160, (Upd.refl _ _).alloc _⟩
    case round =>
      obtain ⟨i, hin, rfl, rfl, hok, hB, hU⟩ := hrel
      by_cases hc : i < l.length
      · have hcz : (i : Int) < (l.length : Int) := by omega
        obtain ⟨b, off, rfl, c0, r1, r2⟩ := (HI.out.pure hU).cell i hc
        by_cases hb : 0 ≤ l[i] ∧ l[i] ≤ 15
        · obtain ⟨hb0, hb15⟩ := hb
          have hok2 := Lib.hid (okLens_take hc hok (by omega) hb0 hb15)
          obtain ⟨k, hk⟩ : ∃ k : Nat, l[i] = (k : Int) := ⟨l[i].toNat, by omega⟩
          have hn2 := Lib.hid (show nats (l.take (i + 1)) = nats (l.take i) ++ [k] by rw [take_snoc' l i hc]; simp [nats, hk])
          rw [hk] at c0 hb0 hb15
          have hcl := Lib.hid (cl0_snoc (nats (l.take i)) k (by omega))
          have hcc : (nats (l.take i)).count k ≤ 300 := Nat.le_trans List.count_le_length (by rw [length_nats, List.length_take]; omega)
          have hk16 : k < 16 := by omega
          have d0 := hB.cell k (i64s_get _ _ _ (cl0_get (nats (l.take i)) k hk16))
          have f0 := hB.frz k
          clear hk r1 r2
          generalize (nats (l.take i)).count k = C at *
          go_wp2
          go_roundg (l.length - (i + 1))
          case measure => omega
          case rel =>
            refine ⟨i + 1, by omega, rfl, by go_num, hok2.out, ?_, hU.setCell (.inr (Nat.le_refl _)) _⟩
            rw [hn2.out, hcl.out, i64s_set]
            exact hB.set k _
        · have hokF := Lib.hid (okLens_not hc hb)
          have hlen0 : (i64s (cl0 (nats (l.take i)))).length = 16 := by rw [length_i64s, length_cl0]
          have hlc := length_cl0 (nats (l.take i))
          generalize cl0 (nats (l.take i)) = c at *
          by_cases hb0 : l[i] < 0
          · generalize l[i] = x at *
            go_wp2_with (first
              | (refine wpList_loadBlk rfl 160 _ rfl w.heap.size rfl 160 _ hB _ Tryz.underlying160 rfl (by rw [hlen0]; kernel_rfl) ?_)
              | (refine wpList_storeBlk rfl 160 _ _ rfl w.heap.size rfl _ rfl 160 _ hB (by rw [hlen0]; kernel_rfl) rfl (i64s_one _) ?_; intro w2 hB2 hU2))
            exact bodyPost_ret (count_res rfl rfl hB2 hlen0) rfl ⟨hU.trans hU2 (fun k hk => by simp at hk; right; omega), .inr ⟨hokF.out, _, hlc, rfl⟩⟩
          · have hb15 : 15 < l[i] := by omega
            generalize l[i] = x at *
            clear hb
            go_wp2_with (first
              | (refine wpList_loadBlk rfl 160 _ rfl w.heap.size rfl 160 _ hB _ Tryz.underlying160 rfl (by rw [hlen0]; kernel_rfl) ?_)
              | (refine wpList_storeBlk rfl 160 _ _ rfl w.heap.size rfl _ rfl 160 _ hB (by rw [hlen0]; kernel_rfl) rfl (i64s_one _) ?_; intro w2 hB2 hU2))
            exact bodyPost_ret (count_res rfl rfl hB2 hlen0) rfl ⟨hU.trans hU2 (fun k hk => by simp at hk; right; omega), .inr ⟨hokF.out, _, hlc, rfl⟩⟩
      · have hcz : ¬ (i : Int) < (l.length : Int) := by omega
        have hi : i = l.length := by omega
        rw [hi, List.take_length] at hok hB
        have hcl := Lib.hid (cl0_cl (nats l))
        have d0 := hB.cell 0 (i64s_get _ _ _ (cl0_get (nats l) 0 (by omega)))
        have f0 := hB.frz 0
        have hB1 := hB.set 0 (.int .i64 0)
        have hB1' : Blk (wr.setCell ⟨w.heap.size, 0, none⟩ (.int .i64 0)) w.heap.size (i64s (cl (nats l))) 160 := by
          rw [← hcl.out, i64s_set]; exact hB1
        clear hB1 hi
        have hlen0 : (i64s (cl (nats l))).length = 16 := by rw [length_i64s, length_cl]
        generalize hgc : cl (nats l) = c at *
        have HGC := Lib.hid hgc
        clear hgc
        go_wp2_with (first
          | (refine wpList_loadBlk rfl 160 _ rfl w.heap.size rfl 160 _ hB1' _ Tryz.underlying160 rfl (by rw [hlen0]; kernel_rfl) ?_)
          | (refine wpList_storeBlk rfl 160 _ _ rfl w.heap.size rfl _ rfl 160 _ hB1' (by rw [hlen0]; kernel_rfl) rfl (i64s_one _) ?_; intro w2 hB2 hU2))
        exact bodyPost_ret (count_res rfl rfl hB2 hlen0) rfl ⟨(hU.setCell (.inr (Nat.le_refl _)) _).trans hU2 (fun k hk => by simp at hk; right; omega), .inl ⟨hok, by rw [HGC.out]; rfl⟩⟩

theorem kind_step (p c k : Nat) (hp : p ≤ 200000000) (hc : c ≤ 300) : wrap64 ((p : Int) + wrap64 ((c : Int) * 2 ^ (15 - k))) = ((p + c * 2 ^ (15 - k) : Nat) : Int) := by
  have h1 : 2 ^ (15 - k) ≤ 2 ^ 15 := Nat.pow_le_pow_right (by omega) (by omega)
  have h2 : c * 2 ^ (15 - k) ≤ 300 * 2 ^ 15 := Nat.mul_le_mul hc h1
  have e : (2 : Int) ^ (15 - k) = ((2 ^ (15 - k) : Nat) : Int) := by simp
  have h3 : wrap64 ((c * 2 ^ (15 - k) : Nat) : Int) = ((c * 2 ^ (15 - k) : Nat) : Int) := IntWalk.wrap64_in _ (by omega)
  rw [e, ← Int.natCast_mul, h3, ← Int.natCast_add]
  exact IntWalk.wrap64_in _ (by omega)
set_option maxRecDepth 100000 in
set_option maxHeartbeats 3200000 in
theorem kind_any (a : Option Addr) (len cap : Nat) (l : List Int) (w : World) (hlen : len ≤ 9223372036854775807) (hI : IntsIn w a len l) :
    Calls Tryz.prog 114 #[.slice a len cap] w fun e w' => e = .returned (.int .i64 (kindOf l : Nat)) ∧ Upd [] w w' := by
  have HC := Lib.hid (qcount_any a len cap l w hlen hI)
  clear hI
  go_enter Tryz.func114, Tryz.ntmps114
  go_wp2_with fail
  refine HC.out.mono ?_
  rintro e w1 ⟨hU1, ⟨hok, rfl⟩ | ⟨hok, c, hlc, rfl⟩⟩
  · have HOK := Lib.hid hok
    clear hok
    have hlen0 : (i64s (cl (nats l))).length = 16 := by rw [length_i64s, length_cl]
    have hidx : ∀ i : Nat, i < 16 → ∀ W, (Instr.index 160 (.agg (i64s (cl (nats l))).toArray) (.int .i64 (i : Int))).run Tryz.prog W = .ok (.int .i64 (cnt (nats l) i : Nat)) W := fun i hi W => by
      rw [run_indexAgg (P := Tryz.prog) 160 3 16 Tryz.underlying160 .i64 Tryz.underlying3 (by kernel_rfl) (i64s (cl (nats l))) hlen0 .i64 i hi]
      rw [List.getD, i64s_get _ _ _ (cl_get (nats l) i hi)]; rfl
    have HX := Lib.hid hidx
    clear hidx
    have hpl := Lib.hid (fun k hk => psum_le (nats l) k hk (by rw [length_nats]; exact (okLens_spec HOK.out).1))
    have hcl := Lib.hid (fun k => Nat.le_trans (cnt_le (nats l) k) (by rw [length_nats]; exact (okLens_spec HOK.out).1))
    have hkind := Lib.hid (show kindOf l = kindN (nats l) by unfold kindOf; rw [if_pos HOK.out])
    have hps := Lib.hid (psum_wsum (nats l) (fun x hx => by
      simp only [nats, List.mem_map] at hx
      obtain ⟨y, hy, rfl⟩ := hx
      have := (okLens_spec HOK.out).2 y hy; omega))
    generalize nats l = n at *
    go_wp2_with (first
      | (refine wpList_storeBlk rfl 160 _ _ rfl w1.heap.size rfl _ rfl 160 _ (Blk.new w1 (i64s (List.replicate 16 0)) 160) (by kernel_rfl) hlen0 (i64s_one _) ?_; intro w2 hB2 hU2)
      | (refine wpList_loadBlk rfl 160 _ rfl w1.heap.size rfl 160 _ hB2 _ Tryz.underlying160 rfl (by rw [hlen0]; kernel_rfl) ?_))
    have hU3 : Upd [] w w2 := (hU1.alloc _).trans hU2 (fun k hk => by simp at hk; right; have := hU1.size; omega)
    go_loopg [5, 16] 16 (fun g s5 s16 wr => ∃ k, k ≤ 16 ∧ g = 16 - k ∧ s16 = .int .i64 (k : Nat) ∧ s5 = .int .i64 (psum n k : Nat) ∧ w2 = wr)
    case atStart => exact ⟨0, by omega, rfl, rfl, rfl, rfl⟩
    case round =>
      obtain ⟨k, hk, rfl, rfl, rfl, rfl⟩ := hrel
      have hle := hpl.out k hk
      by_cases hc : k < 16
      · have hcz : (k : Int) < 16 := by omega
        have hx := HX.out k hc
        have hcle := hcl.out k
        have hsn := Lib.hid (show psum n (k + 1) = psum n k + cnt n k * 2 ^ (15 - k) by rfl)
        generalize psum n k = p at *
        generalize cnt n k = c at *
        go_wp2
        go_roundg (16 - (k + 1))
        case measure => omega
        case rel =>
          refine ⟨k + 1, by omega, rfl, by go_num, ?_, rfl⟩
          rw [hsn.out, kind_step _ _ _ (by omega) hcle]
      · have hk16 : k = 16 := by omega
        have hcz : ¬ (k : Int) < 16 := by omega
        rw [hk16, hps.out] at hle ⊢
        have hkc := kindN_cases n
        clear hk16
        generalize wsum n = s at *
        rcases hkc with ⟨h0, hkn⟩ | ⟨h0, h1, hkn⟩ | ⟨h0, hkn⟩ | ⟨h0, hkn⟩
        · have HK := Lib.hid hkn
          have hs : (s : Int) = 0 := by omega
          clear hkn
          go_wp2
          go_returns
          exact ⟨by rw [hkind.out, HK.out]; rfl, hU3⟩
        · have HK := Lib.hid hkn
          have hs1 : ((s : Int) == 0) = false := by simp; omega
          have hs2 : decide ((s : Int) < 32768) = true := by simp; omega
          clear hkn h0 h1 hle
          go_wp2
          go_returns
          exact ⟨by rw [hkind.out, HK.out]; rfl, hU3⟩
        · have HK := Lib.hid hkn
          have hs : (s : Int) = 32768 := by omega
          clear hkn
          go_wp2
          go_returns
          exact ⟨by rw [hkind.out, HK.out]; rfl, hU3⟩
        · have HK := Lib.hid hkn
          have hs1 : ((s : Int) == 0) = false := by simp; omega
          have hs2 : decide ((s : Int) < 32768) = false := by simp; omega
          have hs3 : ((s : Int) == 32768) = false := by simp; omega
          clear hkn h0 hle
          go_wp2
          go_returns
          exact ⟨by rw [hkind.out, HK.out]; rfl, hU3⟩
  · have hlen0 : (i64s c).length = 16 := by rw [length_i64s, hlc]
    have hkind := Lib.hid (show kindOf l = 3 by unfold kindOf; rw [if_neg (by rw [hok]; decide)])
    clear hok
    go_wp2_with (first
      | (refine wpList_storeBlk rfl 160 _ _ rfl w1.heap.size rfl _ rfl 160 _ (Blk.new w1 (i64s (List.replicate 16 0)) 160) (by kernel_rfl) hlen0 (i64s_one _) ?_; intro w2 hB2 hU2))
    go_returns
    exact ⟨by rw [hkind.out]; rfl, (hU1.alloc _).trans hU2 (fun k hk => by simp at hk; right; have := hU1.size; omega)⟩
end Go.Proofs.YtdehkaknbmbieaaGreat
namespace Go.Proofs.YtdehkaknbmbieaaGreat
set_option linter.unusedVariables false
set_option linter.unusedSimpArgs false
set_option linter.unusedSectionVars false
open Go.RowKit

theorem infoU32 : (Tryz.prog.info? 53).map (fun i => (i.zero, i.size, i.bytes)) = some (some (.int .u32 0), 1, 4) := by kernel_rfl

end Go.Proofs.YtdehkaknbmbieaaGreat

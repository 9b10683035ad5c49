/- The walks of package huff: count, Kind. -/
import Derived.Deep.CutBlock
import Derived.Handy
import Derived.Test.YtdehkaknbmbieaaGreatQBB
import Derived.Test.YtdehkaknbmbieaaGreatQAE
import Derived.Test.YtdehkaknbmbieaaGreatQAR
import Derived.Test.YtdehkaknbmbieaaGreatQAD
namespace Go.Proofs.YtdehkaknbmbieaaGreat
set_option linter.unusedVariables false
set_option linter.unusedSimpArgs false
set_option linter.unusedSectionVars false
open Go.RowKit

theorem infoCounts : (Tryz.prog.info? 160).map (·.size) = some 16 := by kernel_rfl

def CountPost (w : World) (l : List Int) (e : Ending) (w' : World) : Prop :=
  Upd [] w w' ∧ ((okLens l = true ∧ e = .returned (.tuple #[.agg (i64s (cl (nats l))).toArray, .bool true])) ∨
    (okLens l = false ∧ ∃ c, c.length = 16 ∧ e = .returned (.tuple #[.agg (i64s c).toArray, .bool false])))

def CountRel (w : World) (l : List Int) (i : Nat) (wr : World) : Prop := okLens (l.take i) = true ∧ Blk wr w.heap.size (i64s (cl0 (nats (l.take i)))) 160 ∧ Upd [] w wr

theorem count_res {w : World} {fn : Func} {p u : Tmp} {b : Nat} {cs : List Value} {tmps : Array Value} (h : fn.results = #[.cell p 160, .tmp u]) (hp : tmps.getD p undef = .pointer (some ⟨b, 0, none⟩)) {t : TypeId} (hB : Blk w b cs t) (hl : cs.length = 16) :
    (results fn tmps).run Tryz.prog w = .ok (.tuple #[.agg cs.toArray, tmps.getD u undef]) w := by
  have hp' : tmps[p]?.getD undef = .pointer (some ⟨b, 0, none⟩) := by simpa using hp
  have hr := run_loadVar_row (P := Tryz.prog) w b t 160 cs.toArray (0, 0) _ hB Tryz.underlying160 rfl (by rw [infoCounts]; simp [hl])
  simp [results, h, hp', asAddr, hr]

set_option maxRecDepth 100000 in
set_option maxHeartbeats 3200000 in
theorem qcount_any (a : Option Addr) (len cap : Nat) (l : List Int) (w : World) (hlen : len ≤ 9223372036854775807) (hI : IntsIn w a len l) :
    Calls Tryz.prog 119 #[.slice a len cap] w (CountPost w l) := by
  have hll := hI.len
  have HI := Lib.hid hI
  clear hI
  subst hll
  by_cases hlong : 300 < l.length
  · have hnz : ((l.length : Nat) : Int) > 300 := by omega
    have hok := okLens_long hlong
    have HOK := Lib.hid hok
    clear hok hlong
    go_enter Tryz.func119, Tryz.ntmps119
    have hB := Blk.new w (i64s (List.replicate 16 0)) 160
    go_wp2_with (first
      | (refine wpList_loadBlk rfl 160 _ rfl w.heap.size rfl 160 (i64s (List.replicate 16 0)) hB _ Tryz.underlying160 rfl (by kernel_rfl) ?_)
      | (refine wpList_storeBlk rfl 160 _ _ rfl w.heap.size rfl (i64s (List.replicate 16 0)) rfl 160 _ hB (by kernel_rfl) rfl (i64s_one _) ?_; intro w2 hB2 hU2))
    exact bodyPost_ret (count_res rfl rfl hB2 rfl) rfl ⟨((Upd.refl _ _).alloc _).trans hU2 (fun k hk => by simp at hk; right; omega), .inr ⟨HOK.out, _, rfl, rfl⟩⟩
  · have hnz : ¬ ((l.length : Nat) : Int) > 300 := by omega
    go_enter Tryz.func119, Tryz.ntmps119
    go_wp2
    go_loopg [12] l.length (fun g s12 wr => ∃ i, i ≤ l.length ∧ g = l.length - i ∧ s12 = .int .i64 (i : Nat) ∧ CountRel w l i wr)
    case atStart => exact ⟨0, by omega, rfl, rfl, okLens_mk (by simp) (by simp), Blk.new w (i64s (List.replicate 16 0)) 160, (Upd.refl _ _).alloc _⟩
    case round =>
      obtain ⟨i, hin, rfl, rfl, hok, hB, hU⟩ := hrel
      by_cases hc : i < l.length
      · have hcz : (i : Int) < (l.length : Int) := by omega
        obtain ⟨b, off, rfl, c0, r1, r2⟩ := (HI.out.pure hU).cell i hc
        by_cases hb : 0 ≤ l[i] ∧ l[i] ≤ 15
        · obtain ⟨hb0, hb15⟩ := hb
          have hok2 := Lib.hid (okLens_take hc hok (by omega) hb0 hb15)
          obtain ⟨k, hk⟩ : ∃ k : Nat, l[i] = (k : Int) := ⟨l[i].toNat, by omega⟩
          have hn2 := Lib.hid (show nats (l.take (i + 1)) = nats (l.take i) ++ [k] by rw [take_snoc' l i hc]; simp [nats, hk])
          rw [hk] at c0 hb0 hb15
          have hcl := Lib.hid (cl0_snoc (nats (l.take i)) k (by omega))
          have hcc : (nats (l.take i)).count k ≤ 300 := Nat.le_trans List.count_le_length (by rw [length_nats, List.length_take]; omega)
          have hk16 : k < 16 := by omega
          have d0 := hB.cell k (i64s_get _ _ _ (cl0_get (nats (l.take i)) k hk16))
          have f0 := hB.frz k
          clear hk r1 r2
          generalize (nats (l.take i)).count k = C at *
          go_wp2
          go_roundg (l.length - (i + 1))
          case measure => omega
          case rel =>
            refine ⟨i + 1, by omega, rfl, by go_num, hok2.out, ?_, hU.setCell (.inr (Nat.le_refl _)) _⟩
            rw [hn2.out, hcl.out, i64s_set]
            exact hB.set k _
        · have hokF := Lib.hid (okLens_not hc hb)
          have hlen0 : (i64s (cl0 (nats (l.take i)))).length = 16 := by rw [length_i64s, length_cl0]
          have hlc := length_cl0 (nats (l.take i))
          generalize cl0 (nats (l.take i)) = c at *
          by_cases hb0 : l[i] < 0
          · generalize l[i] = x at *
            go_wp2_with (first
              | (refine wpList_loadBlk rfl 160 _ rfl w.heap.size rfl 160 _ hB _ Tryz.underlying160 rfl (by rw [hlen0]; kernel_rfl) ?_)
              | (refine wpList_storeBlk rfl 160 _ _ rfl w.heap.size rfl _ rfl 160 _ hB (by rw [hlen0]; kernel_rfl) rfl (i64s_one _) ?_; intro w2 hB2 hU2))
            exact bodyPost_ret (count_res rfl rfl hB2 hlen0) rfl ⟨hU.trans hU2 (fun k hk => by simp at hk; right; omega), .inr ⟨hokF.out, _, hlc, rfl⟩⟩
          · have hb15 : 15 < l[i] := by omega
            generalize l[i] = x at *
            clear hb
            go_wp2_with (first
              | (refine wpList_loadBlk rfl 160 _ rfl w.heap.size rfl 160 _ hB _ Tryz.underlying160 rfl (by rw [hlen0]; kernel_rfl) ?_)
              | (refine wpList_storeBlk rfl 160 _ _ rfl w.heap.size rfl _ rfl 160 _ hB (by rw [hlen0]; kernel_rfl) rfl (i64s_one _) ?_; intro w2 hB2 hU2))
            exact bodyPost_ret (count_res rfl rfl hB2 hlen0) rfl ⟨hU.trans hU2 (fun k hk => by simp at hk; right; omega), .inr ⟨hokF.out, _, hlc, rfl⟩⟩
      · have hcz : ¬ (i : Int) < (l.length : Int) := by omega
        have hi : i = l.length := by omega
        rw [hi, List.take_length] at hok hB
        have hcl := Lib.hid (cl0_cl (nats l))
        have d0 := hB.cell 0 (i64s_get _ _ _ (cl0_get (nats l) 0 (by omega)))
        have f0 := hB.frz 0
        have hB1 := hB.set 0 (.int .i64 0)
        have hB1' : Blk (wr.setCell ⟨w.heap.size, 0, none⟩ (.int .i64 0)) w.heap.size (i64s (cl (nats l))) 160 := by
          rw [← hcl.out, i64s_set]; exact hB1
        clear hB1 hi
        have hlen0 : (i64s (cl (nats l))).length = 16 := by rw [length_i64s, length_cl]
        generalize hgc : cl (nats l) = c at *
        have HGC := Lib.hid hgc
        clear hgc
        go_wp2_with (first
          | (refine wpList_loadBlk rfl 160 _ rfl w.heap.size rfl 160 _ hB1' _ Tryz.underlying160 rfl (by rw [hlen0]; kernel_rfl) ?_)
          | (refine wpList_storeBlk rfl 160 _ _ rfl w.heap.size rfl _ rfl 160 _ hB1' (by rw [hlen0]; kernel_rfl) rfl (i64s_one _) ?_; intro w2 hB2 hU2))
        exact bodyPost_ret (count_res rfl rfl hB2 hlen0) rfl ⟨(hU.setCell (.inr (Nat.le_refl _)) _).trans hU2 (fun k hk => by simp at hk; right; omega), .inl ⟨hok, by rw [HGC.out]; rfl⟩⟩

theorem kind_step (p c k : Nat) (hp : p ≤ 200000000) (hc : c ≤ 300) : wrap64 ((p : Int) + wrap64 ((c : Int) * 2 ^ (15 - k))) = ((p + c * 2 ^ (15 - k) : Nat) : Int) := by
  have h1 : 2 ^ (15 - k) ≤ 2 ^ 15 := Nat.pow_le_pow_right (by omega) (by omega)
  have h2 : c * 2 ^ (15 - k) ≤ 300 * 2 ^ 15 := Nat.mul_le_mul hc h1
  have e : (2 : Int) ^ (15 - k) = ((2 ^ (15 - k) : Nat) : Int) := by simp
  have h3 : wrap64 ((c * 2 ^ (15 - k) : Nat) : Int) = ((c * 2 ^ (15 - k) : Nat) : Int) := IntWalk.wrap64_in _ (by omega)
  rw [e, ← Int.natCast_mul, h3, ← Int.natCast_add]
  exact IntWalk.wrap64_in _ (by omega)
set_option maxRecDepth 100000 in
set_option maxHeartbeats 3200000 in
theorem kind_any (a : Option Addr) (len cap : Nat) (l : List Int) (w : World) (hlen : len ≤ 9223372036854775807) (hI : IntsIn w a len l) :
    Calls Tryz.prog 114 #[.slice a len cap] w fun e w' => e = .returned (.int .i64 (kindOf l : Nat)) ∧ Upd [] w w' := by
  have HC := Lib.hid (qcount_any a len cap l w hlen hI)
  clear hI
  go_enter Tryz.func114, Tryz.ntmps114
  go_wp2_with fail
  refine HC.out.mono ?_
  rintro e w1 ⟨hU1, ⟨hok, rfl⟩ | ⟨hok, c, hlc, rfl⟩⟩
  · have HOK := Lib.hid hok
    clear hok
    have hlen0 : (i64s (cl (nats l))).length = 16 := by rw [length_i64s, length_cl]
    have hidx : ∀ i : Nat, i < 16 → ∀ W, (Instr.index 160 (.agg (i64s (cl (nats l))).toArray) (.int .i64 (i : Int))).run Tryz.prog W = .ok (.int .i64 (cnt (nats l) i : Nat)) W := fun i hi W => by
      rw [run_indexAgg (P := Tryz.prog) 160 3 16 Tryz.underlying160 .i64 Tryz.underlying3 (by kernel_rfl) (i64s (cl (nats l))) hlen0 .i64 i hi]
      rw [List.getD, i64s_get _ _ _ (cl_get (nats l) i hi)]; rfl
    have HX := Lib.hid hidx
    clear hidx
    have hpl := Lib.hid (fun k hk => psum_le (nats l) k hk (by rw [length_nats]; exact (okLens_spec HOK.out).1))
    have hcl := Lib.hid (fun k => Nat.le_trans (cnt_le (nats l) k) (by rw [length_nats]; exact (okLens_spec HOK.out).1))
    have hkind := Lib.hid (show kindOf l = kindN (nats l) by unfold kindOf; rw [if_pos HOK.out])
    have hps := Lib.hid (psum_wsum (nats l) (fun x hx => by
      simp only [nats, List.mem_map] at hx
      obtain ⟨y, hy, rfl⟩ := hx
      have := (okLens_spec HOK.out).2 y hy; omega))
    generalize nats l = n at *
    go_wp2_with (first
      | (refine wpList_storeBlk rfl 160 _ _ rfl w1.heap.size rfl _ rfl 160 _ (Blk.new w1 (i64s (List.replicate 16 0)) 160) (by kernel_rfl) hlen0 (i64s_one _) ?_; intro w2 hB2 hU2)
      | (refine wpList_loadBlk rfl 160 _ rfl w1.heap.size rfl 160 _ hB2 _ Tryz.underlying160 rfl (by rw [hlen0]; kernel_rfl) ?_))
    have hU3 : Upd [] w w2 := (hU1.alloc _).trans hU2 (fun k hk => by simp at hk; right; have := hU1.size; omega)
    go_loopg [5, 16] 16 (fun g s5 s16 wr => ∃ k, k ≤ 16 ∧ g = 16 - k ∧ s16 = .int .i64 (k : Nat) ∧ s5 = .int .i64 (psum n k : Nat) ∧ w2 = wr)
    case atStart => exact ⟨0, by omega, rfl, rfl, rfl, rfl⟩
    case round =>
      obtain ⟨k, hk, rfl, rfl, rfl, rfl⟩ := hrel
      have hle := hpl.out k hk
      by_cases hc : k < 16
      · have hcz : (k : Int) < 16 := by omega
        have hx := HX.out k hc
        have hcle := hcl.out k
        have hsn := Lib.hid (show psum n (k + 1) = psum n k + cnt n k * 2 ^ (15 - k) by rfl)
        generalize psum n k = p at *
        generalize cnt n k = c at *
        go_wp2
        go_roundg (16 - (k + 1))
        case measure => omega
        case rel =>
          refine ⟨k + 1, by omega, rfl, by go_num, ?_, rfl⟩
          rw [hsn.out, kind_step _ _ _ (by omega) hcle]
      · have hk16 : k = 16 := by omega
        have hcz : ¬ (k : Int) < 16 := by omega
        rw [hk16, hps.out] at hle ⊢
        have hkc := kindN_cases n
        clear hk16
        generalize wsum n = s at *
        rcases hkc with ⟨h0, hkn⟩ | ⟨h0, h1, hkn⟩ | ⟨h0, hkn⟩ | ⟨h0, hkn⟩
        · have HK := Lib.hid hkn
          have hs : (s : Int) = 0 := by omega
          clear hkn
          go_wp2
          go_returns
          exact ⟨by rw [hkind.out, HK.out]; rfl, hU3⟩
        · have HK := Lib.hid hkn
          have hs1 : ((s : Int) == 0) = false := by simp; omega
          have hs2 : decide ((s : Int) < 32768) = true := by simp; omega
          clear hkn h0 h1 hle
          go_wp2
          go_returns
          exact ⟨by rw [hkind.out, HK.out]; rfl, hU3⟩
        · have HK := Lib.hid hkn
          have hs : (s : Int) = 32768 := by omega
          clear hkn
          go_wp2
          go_returns
          exact ⟨by rw [hkind.out, HK.out]; rfl, hU3⟩
        · have HK := Lib.hid hkn
          have hs1 : ((s : Int) == 0) = false := by simp; omega
          have hs2 : decide ((s : Int) < 32768) = false := by simp; omega
          have hs3 : ((s : Int) == 32768) = false := by simp; omega
          clear hkn h0 hle
          go_wp2
          go_returns
          exact ⟨by rw [hkind.out, HK.out]; rfl, hU3⟩
  · have hlen0 : (i64s c).length = 16 := by rw [length_i64s, hlc]
    have hkind := Lib.hid (show kindOf l = 3 by unfold kindOf; rw [if_neg (by rw [hok]; decide)])
    clear hok
    go_wp2_with (first
      | (refine wpList_storeBlk rfl 160 _ _ rfl w1.heap.size rfl _ rfl 160 _ (Blk.new w1 (i64s (List.replicate 16 0)) 160) (by kernel_rfl) hlen0 (i64s_one _) ?_; intro w2 hB2 hU2))
    go_returns
    exact ⟨by rw [hkind.out]; rfl, (hU1.alloc _).trans hU2 (fun k hk => by simp at hk; right; have := hU1.size; omega)⟩
end Go.Proofs.YtdehkaknbmbieaaGreat
namespace Go.Proofs.YtdehkaknbmbieaaGreat
set_option linter.unusedVariables false
set_option linter.unusedSimpArgs false
set_option linter.unusedSectionVars false
open Go.RowKit

theorem infoU32 : (Tryz.prog.info? 53).map (fun i => (i.zero, i.size, i.bytes)) = some (some (.int .u32 0), 1, 4) := by kernel_rfl

end Go.Proofs.YtdehkaknbmbieaaGreat
namespace Go.Proofs.YtdehkaknbmbieaaGreat
set_option linter.unusedVariables false
set_option linter.unusedSimpArgs false
set_option linter.unusedSectionVars false
open Go.RowKit

def u32s (l : List Nat) : List Value := l.map fun x : Nat => .int .u32 (x : Int)
theorem length_u32s (l : List Nat) : (u32s l).length = l.length := by simp [u32s]
theorem u32s_set (l : List Nat) (i x : Nat) : u32s (l.set i x) = (u32s l).set i (.int .u32 (x : Int)) := by simp [u32s, List.map_set]
theorem u32s_get (l : List Nat) (i x : Nat) (h : l[i]? = some x) : (u32s l)[i]? = some (.int .u32 (x : Int)) := by simp [u32s, h]
theorem u32s_one (l : List Nat) : ∀ v ∈ u32s l, v.oneCell' = true := by
  intro v hv
  simp only [u32s, List.mem_map] at hv
  obtain ⟨x, _, rfl⟩ := hv
  rfl
theorem infoFirsts : (Tryz.prog.info? 163).map (·.size) = some 16 := by kernel_rfl

set_option maxRecDepth 100000 in
set_option maxHeartbeats 3200000 in
theorem firsts_any (n : List Nat) (w : World) (hs : psum n 16 ≤ 32768) :
    Calls Tryz.prog 120 #[.agg (i64s (cl n)).toArray] w fun e w' => e = .returned (.agg (u32s (fl n)).toArray) ∧ Upd [] w w' := by
  have hb := fun k hk => fst_cnt n hs k hk
  have HB := Lib.hid hb
  clear hb
  have hlen0 : (i64s (cl n)).length = 16 := by rw [length_i64s, length_cl]
  have hlen1 : Hid ((u32s (fl n)).length = 16) := Lib.hid (by rw [length_u32s, length_fl])
  go_enter Tryz.func120, Tryz.ntmps120
  go_wp2
  go_loopg [3] 15 (fun g s3 wr => ∃ j, j ≤ 15 ∧ g = 15 - j ∧ s3 = .int .i64 ((j + 1 : Nat) : Int) ∧ Blk wr w.heap.size (i64s (cl n)) 160 ∧ Blk wr (w.heap.size + 1) (u32s (flp n (j + 1))) 163 ∧ Upd [] w wr)
  case atStart =>
    refine ⟨0, by omega, rfl, rfl, (Blk.new w _ _).alloc _, ?_, ((Upd.refl _ _).alloc _).alloc _⟩
    have h := Blk.new (w.alloc (.cells (i64s (cl n)).toArray 160)) (u32s (flp n (0 + 1))) 163
    rw [World.size_alloc, flp_1] at h
    rw [flp_1]
    exact h
  case round =>
    obtain ⟨j, hj, rfl, rfl, hB1, hB2, hU⟩ := hrel
    by_cases hc : j < 15
    · have hcz : (j : Int) + 1 ≤ 15 := by omega
      have d1 := hB1.cell j (i64s_get _ _ _ (cl_get n j (by omega)))
      have d2 := hB2.cell j (u32s_get _ _ _ (flp_get n (j + 1) j (by omega)))
      have d3 := hB2.cell (j + 1) (u32s_get _ _ _ (flp_get n (j + 1) (j + 1) (by omega)))
      rw [if_pos (by omega)] at d2
      rw [if_neg (by omega)] at d3
      have f3 := hB2.frz (j + 1)
      have hbd := HB.out j (by omega)
      have hp15 : 2 ^ j ≤ 2 ^ 15 := Nat.pow_le_pow_right (by omega) (by omega)
      have hst := Lib.hid (flp_set n (j + 1))
      have hfs := Lib.hid (show fst n (j + 1) = 2 * (fst n j + cnt n j) by rfl)
      generalize fst n (j + 1) = F1 at *
      generalize fst n j = F at *
      generalize cnt n j = C at *
      generalize 2 ^ j = pj at *
      go_wp2
      have hj0 : (0 : Int) ≤ (j : Int) := by omega
      have e1 : IntKind.i64.wrap (((j : Int) + 1) - 1) = (j : Int) := by rw [IntWalk.i64_in _ (by omega)]; omega
      go_region
      go_wp2
      go_roundg (15 - (j + 1))
      case measure => omega
      case rel =>
        have hv : (((F : Int) + (C : Int)) * 2) = ((F1 : Nat) : Int) := by have := hfs.out; omega
        rw [hv]
        refine ⟨j + 1, by omega, rfl, by go_num, (hB1.setFar _ (by simp)).drew, ?_, (hU.setCell (.inr (by simp)) _).drew⟩
        rw [← hst.out, u32s_set]
        exact (hB2.set (j + 1) _).drew
    · have hj15 : j = 15 := by omega
      have hcz : ¬ (j : Int) + 1 ≤ 15 := by omega
      rw [hj15, flp_16] at hB2
      clear hj15
      go_wp2_with (first
        | (refine wpList_loadBlk rfl 163 _ rfl (w.heap.size + 1) rfl 163 _ hB2 _ Tryz.underlying163 rfl (by rw [hlen1.out]; kernel_rfl) ?_)
        | (refine wpList_storeBlk rfl 163 _ _ rfl (w.heap.size + 1) rfl _ rfl 163 _ hB2 (by rw [hlen1.out]; kernel_rfl) rfl (u32s_one _) ?_; intro w2 hB3 hU2))
      exact bodyPost_ret (results_cell_row rfl _ _ _ _ _ _ _ rfl hB3 Tryz.underlying163 rfl (by rw [infoFirsts]; simp [hlen1.out])) rfl ⟨rfl, hU.trans hU2 (fun k hk => by simp at hk; right; omega)⟩

/-- Codes that are made: new blocks, holding the codes. -/
def CodesPost (w : World) (l : List Int) (e : Ending) (w' : World) : Prop :=
  Upd [] w w' ∧ ((kindOf l = 3 ∧ e = .returned (.slice none 0 0)) ∨
    (kindOf l ≠ 3 ∧ ∃ g, e = .returned (.slice (some ⟨g, 0, none⟩) l.length l.length) ∧ w.heap.size ≤ g ∧ Row w' 53 1 (.slice (some ⟨g, 0, none⟩) l.length l.length) l.length (u32s (codes (nats l)))))

def CodesRel (w : World) (n : List Nat) (bx g : Nat) (i : Nat) (wr : World) : Prop :=
  Blk wr bx (u32s (nx n i)) 163 ∧ Row wr 53 1 (.slice (some ⟨g, 0, none⟩) n.length n.length) n.length (u32s (outp n i)) ∧ Upd [] w wr

set_option maxRecDepth 100000 in
set_option maxHeartbeats 3200000 in
theorem codes_any (a : Option Addr) (len cap : Nat) (l : List Int) (w : World) (hlen : len ≤ 9223372036854775807) (hI : IntsIn w a len l) :
    Calls Tryz.prog 83 #[.slice a len cap] w (CodesPost w l) := by
  have hll := hI.len
  have HI := Lib.hid hI
  clear hI
  subst hll
  have HK := Lib.hid (kind_any a l.length cap l w hlen HI.out)
  have HC := Lib.hid (fun w1 (hU : Upd [] w w1) => qcount_any a l.length cap l w1 hlen (HI.out.pure hU))
  obtain ⟨i0, hi0, hz0, hz1, hz2⟩ := info_parts infoU32
  by_cases hk3 : kindOf l = 3
  · have H3 := Lib.hid hk3
    rw [hk3] at HK
    clear hk3
    go_enter Tryz.func83, Tryz.ntmps83
    go_wp2_with fail
    refine HK.out.mono ?_
    rintro e w1 ⟨rfl, hU1⟩
    go_wp2
    go_returns
    exact ⟨hU1, .inl ⟨H3.out, rfl⟩⟩
  · obtain ⟨hok, hps⟩ := kindOf_ok hk3
    have hkb : ((kindOf l : Nat) : Int) ≠ 3 := by omega
    have H3 := Lib.hid hk3
    have HO := Lib.hid hok
    generalize kindOf l = kk at HK hkb
    clear hk3
    go_enter Tryz.func83, Tryz.ntmps83
    go_wp2_with fail
    refine HK.out.mono ?_
    rintro e w1 ⟨rfl, hU1⟩
    go_wp2_with fail
    refine (HC.out w1 hU1).mono ?_
    rintro e w2 ⟨hU2, ⟨_, rfl⟩ | ⟨hno, _⟩⟩
    case inr => rw [hok] at hno; cases hno
    have hlen0 : (i64s (cl (nats l))).length = 16 := by rw [length_i64s, length_cl]
    have hlen1 : (u32s (fl (nats l))).length = 16 := by rw [length_u32s, length_fl]
    clear hok
    have hnl := length_nats l
    have h300 := (okLens_spec HO.out).1
    go_wp2_with (first
      | (refine wpList_storeBlk rfl 160 _ _ rfl w2.heap.size rfl _ rfl 160 _ (Blk.new w2 (i64s (List.replicate 16 0)) 160) (by kernel_rfl) hlen0 (i64s_one _) ?_; intro w3 hB3 hU3)
      | (refine wpList_loadBlk rfl 160 _ rfl w2.heap.size rfl 160 _ hB3 _ Tryz.underlying160 rfl (by rw [hlen0]; kernel_rfl) ?_))
    refine (firsts_any (nats l) _ hps).mono ?_
    rintro e w4 ⟨rfl, hU4⟩
    have hU34 : Upd [] w w4 := (((hU1.then hU2).alloc _).trans hU3 (fun k hk => by simp at hk; right; have := (hU1.then hU2).size; omega)).then hU4
    clear hB3 hU3 hU4 hU2 hU1
    go_wp2_with (first
      | (refine wpList_storeBlk rfl 163 _ _ rfl w4.heap.size rfl _ rfl 163 _ (Blk.new w4 (u32s (List.replicate 16 0)) 163) (by kernel_rfl) hlen1 (u32s_one _) ?_; intro w5 hB5 hU5)
      | (refine wpList_mk _ rfl _ _ 105 rfl 53 i0 _ Tryz.underlying105 hi0 hz0 hz1 rfl .i64 .i64 _ _ l.length rfl rfl rfl rfl (by rw [hz2]; omega) (by unfold maxLen; omega) ?_; intro w6 hR6 hU6 hs6))
    have hU56 : Upd [] w w6 := ((hU34.alloc _).trans hU5 (fun k hk => by simp at hk; right; have := hU34.size; omega)).then hU6
    have hB6 := hB5.upd hU6 (by simp)
    have hg5 : w4.heap.size < w5.heap.size := hB5.lt
    have hwg : w.heap.size ≤ w5.heap.size := by have := hU34.size; omega
    have hwx : w.heap.size ≤ w4.heap.size := hU34.size
    generalize w5.heap.size = g at *
    generalize w4.heap.size = bx at *
    clear hB5 hU5 hU6 hU34
    have hpb := Lib.hid (fun k hk => fst_cnt (nats l) hps k hk)
    have hRel0 : CodesRel w (nats l) bx g 0 w6 := by
      refine ⟨by rw [nx_0]; exact hB6, ?_, hU56⟩
      rw [outp_0, hnl]
      have e : u32s (List.replicate l.length 0) = List.replicate l.length (.int .u32 0) := by simp [u32s]
      rw [e]; exact hR6
    clear hB6 hR6 hU56 hs6 hps
    go_loopg [24] l.length (fun gg s24 wr => ∃ i, i ≤ l.length ∧ gg = l.length - i ∧ s24 = .int .i64 (i : Nat) ∧ CodesRel w (nats l) bx g i wr)
    case atStart => exact ⟨0, by omega, rfl, rfl, hRel0⟩
    case round =>
      obtain ⟨i, hin, rfl, rfl, hB, hR, hU⟩ := hrel
      clear hRel0
      by_cases hc : i < l.length
      · have hcz : (i : Int) < (l.length : Int) := by omega
        obtain ⟨b, off, rfl, c0, r1, r2⟩ := (HI.out.pure hU).cell i hc
        have hkk := (okLens_spec HO.out).2 _ (List.getElem_mem hc)
        obtain ⟨k, hk⟩ : ∃ k : Nat, l[i] = (k : Int) := ⟨l[i].toNat, by omega⟩
        have hin' : i < (nats l).length := by omega
        have hnk : (nats l)[i] = k := by simp [nats, hk]
        rw [hk] at c0 hkk
        have hk16 : k < 16 := by omega
        clear hk r1 r2
        by_cases hk0 : k = 0
        · subst hk0
          have h1 := Lib.hid (nx_same (nats l) i hin' hnk)
          have h2 := Lib.hid (outp_same (nats l) i hin' hnk)
          have c0' : wr.cell? ⟨b, off + i, none⟩ = some (.int .i64 0) := c0
          clear c0 hnk
          go_wp2
          go_roundg (l.length - (i + 1))
          case measure => omega
          case rel => exact ⟨i + 1, by omega, rfl, by go_num, by rw [h1.out]; exact hB, by rw [h2.out]; exact hR, hU⟩
        · have h1 := Lib.hid (nx_set (nats l) i hin' (by omega))
          have h2 := Lib.hid (outp_set (nats l) i)
          have h3 := codeAt_pos (nats l) i hin' (by omega)
          rw [hnk] at h1 h3
          have hpos : (0 : Int) < (k : Int) := by omega
          have hle := hpb.out k (by omega)
          have hp15 : 2 ^ k ≤ 2 ^ 15 := Nat.pow_le_pow_right (by omega) (by omega)
          have hct := cnt_take_le (nats l) i k
          have d1 := hB.cell k (u32s_get _ _ _ (nx_get (nats l) i k hk16))
          have f1 := hB.frz k
          obtain ⟨xo, hxo⟩ : ∃ x, (u32s (outp (nats l) i))[i]? = some x := ⟨_, List.getElem?_eq_getElem (by rw [length_u32s, length_outp]; omega)⟩
          have d2 := Row.cell hR i hxo
          have f2 := Row.frz hR i
          have hne : bx ≠ g := by omega
          rw [h3] at h2
          have H1 := Lib.hid h1
          have H2 := Lib.hid h2
          clear h1 h2 h3 hnk hxo
          have hq : fst (nats l) k + cnt ((nats l).take i) k ≤ 32768 := by omega
          clear hle hct hp15
          generalize fst (nats l) k + cnt ((nats l).take i) k = q at *
          go_wp2
          go_roundg (l.length - (i + 1))
          case measure => omega
          case rel =>
            refine ⟨i + 1, by omega, rfl, by go_num, ?_, ?_, (hU.setCell (.inr hwg) _).setCell (.inr hwx) _⟩
            · rw [← H1.out, u32s_set]
              exact (hB.setFar _ hne).set k _
            · rw [← H2.out, u32s_set, hnl]
              rw [hnl] at hR
              exact (hR.set i _).setFar _ (by simp [Value.ownBlock]; omega)
      · have hi : i = l.length := by omega
        have hcz : ¬ (i : Int) < (l.length : Int) := by omega
        rw [hi, hnl] at hR
        have e : outp (nats l) l.length = codes (nats l) := by rw [← hnl]; exact outp_all _
        rw [e] at hR
        clear hi e
        go_wp2
        go_returns
        exact ⟨hU, .inr ⟨H3.out, g, rfl, hwg, hR⟩⟩
theorem turn_val (X K i q : Nat) (hX : X < 4294967296) (hq : q < 4294967296) (hi : i < K) (hK : K ≤ 32) :
    bits BinOp.or IntKind.u32 (q : Int) (bits BinOp.and IntKind.u32 ((X : Int) / 2 ^ i) 1 * 2 ^ (K - 1 - i) % 4294967296) = ((q ||| X / 2 ^ i % 2 * 2 ^ (K - 1 - i) : Nat) : Int) := by
  have h0 : X / 2 ^ i < 4294967296 := Nat.lt_of_le_of_lt (Nat.div_le_self _ _) hX
  have e1 : (X : Int) / 2 ^ i = ((X / 2 ^ i : Nat) : Int) := by simp
  have e2 : (2 : Int) ^ (K - 1 - i) = ((2 ^ (K - 1 - i) : Nat) : Int) := by simp
  have h1 : bits BinOp.and IntKind.u32 ((X / 2 ^ i : Nat) : Int) 1 = ((X / 2 ^ i % 2 : Nat) : Int) := by
    have := u32_and_nat (X / 2 ^ i) 1 h0 (by omega)
    rw [nat_mask1] at this
    exact this
  have h2 : X / 2 ^ i % 2 < 2 := Nat.mod_lt _ (by omega)
  have h3 : 2 ^ (K - 1 - i) ≤ 2 ^ 31 := Nat.pow_le_pow_right (by omega) (by omega)
  have h4 : X / 2 ^ i % 2 * 2 ^ (K - 1 - i) ≤ 1 * 2 ^ 31 := Nat.mul_le_mul (by omega) h3
  rw [e1, h1, e2, ← Int.natCast_mul]
  have h5 : ((X / 2 ^ i % 2 * 2 ^ (K - 1 - i) : Nat) : Int) % 4294967296 = ((X / 2 ^ i % 2 * 2 ^ (K - 1 - i) : Nat) : Int) := by omega
  rw [h5]
  exact u32_or_nat _ _ hq (by omega)

set_option maxRecDepth 100000 in
set_option maxHeartbeats 1600000 in
theorem turned_any (X K : Nat) (x k : Int) (w : World) (hx : x = (X : Nat)) (hX : X < 4294967296) (hK32 : K ≤ 32) (hK : Hid ((K : Int) = max 0 (min k 32))) :
    Calls Tryz.prog 84 #[.int .u32 x, .int .i64 k] w fun e w' => e = .returned (.int .u32 (turnN X K : Nat)) ∧ w = w' := by
  subst hx
  go_enter Tryz.func84, Tryz.ntmps84
  go_upto_region 1 with fail
  go_cut [1] (fun s1 wx => s1 = .int .i64 (K : Nat) ∧ w = wx)
  case first =>
    go_wp2
    all_goals go_meet
    all_goals (refine ⟨?_, rfl⟩; first | (rw [hK.out]; done) | (rw [hK.out]; congr 1; omega))
  case rest =>
    obtain ⟨rfl, rfl⟩ := hcut
    have hK0 : (0 : Int) ≤ (K : Int) := by omega
    go_wp2
    go_loopg [4, 10] K (fun g s4 s10 wx => ∃ i, i ≤ K ∧ g = K - i ∧ s10 = .int .i64 (i : Nat) ∧ s4 = .int .u32 ((turnN X i * 2 ^ (K - i) : Nat) : Int) ∧ w = wx)
    case atStart => exact ⟨0, by omega, rfl, rfl, by simp [turnN], rfl⟩
    case round =>
      obtain ⟨i, hi, rfl, rfl, rfl, rfl⟩ := hrel
      by_cases hc : i < K
      · have hcz : (i : Int) < (K : Int) := by omega
        have hst := Lib.hid (turn_step X K i hc)
        have hbd := turn_bound X K i hi hK32
        generalize turnN X i * 2 ^ (K - i) = q at *
        go_wp2
        go_roundg (K - (i + 1))
        case measure => omega
        case rel =>
          refine ⟨i + 1, by omega, rfl, by go_num, ?_, rfl⟩
          rw [← hst.out, turn_val X K i q hX hbd hc hK32]
      · have hiK : i = K := by omega
        have hcz : ¬ (i : Int) < (K : Int) := by omega
        have e : turnN X i * 2 ^ (K - i) = turnN X K := by rw [hiK]; simp
        rw [e]
        clear e
        go_wp2
        go_returns
        exact ⟨rfl, rfl⟩
end Go.Proofs.YtdehkaknbmbieaaGreat

/- The walks of package huff: count, Kind. -/
import Derived.Deep.CutBlock
import Derived.Handy
import Derived.Test.YtdehkaknbmbieaaQBA
import Derived.Test.YtdehkaknbmbieaaQAE
import Derived.Test.YtdehkaknbmbieaaQAO
import Derived.Test.YtdehkaknbmbieaaQAD
namespace Go.Proofs.Ytdehkaknbmbieaa
set_option linter.unusedVariables false
set_option linter.unusedSimpArgs false
set_option linter.unusedSectionVars false
open Go.RowKit

theorem infoCounts : (Try.prog.info? 219).map (·.size) = some 16 := by kernel_rfl

def CountPost (w : World) (l : List Int) (e : Ending) (w' : World) : Prop :=
  Upd [] w w' ∧ ((okLens l = true ∧ e = .returned (.tuple #[.agg (i64s (cl (nats l))).toArray, .bool true])) ∨
    (okLens l = false ∧ ∃ c, c.length = 16 ∧ e = .returned (.tuple #[.agg (i64s c).toArray, .bool false])))

def CountRel (w : World) (l : List Int) (i : Nat) (wr : World) : Prop := okLens (l.take i) = true ∧ Blk wr w.heap.size (i64s (cl0 (nats (l.take i)))) 219 ∧ Upd [] w wr

theorem count_res {w : World} {fn : Func} {p u : Tmp} {b : Nat} {cs : List Value} {tmps : Array Value} (h : fn.results = #[.cell p 219, .tmp u]) (hp : tmps.getD p undef = .pointer (some ⟨b, 0, none⟩)) {t : TypeId} (hB : Blk w b cs t) (hl : cs.length = 16) :
    (results fn tmps).run Try.prog w = .ok (.tuple #[.agg cs.toArray, tmps.getD u undef]) w := by
  have hp' : tmps[p]?.getD undef = .pointer (some ⟨b, 0, none⟩) := by simpa using hp
  have hr := run_loadVar_row (P := Try.prog) w b t 219 cs.toArray (0, 0) _ hB Try.underlying219 rfl (by rw [infoCounts]; simp [hl])
  simp [results, h, hp', asAddr, hr]

set_option maxRecDepth 100000 in
set_option maxHeartbeats 3200000 in
theorem qcount_any (a : Option Addr) (len cap : Nat) (l : List Int) (w : World) (hlen : len ≤ 9223372036854775807) (hI : IntsIn w a len l) :
    Calls Try.prog 156 #[.slice a len cap] w (CountPost w l) := by
  have hll := hI.len
  have HI := Lib.hid hI
  clear hI
  subst hll
  by_cases hlong : 300 < l.length
  · have hnz : ((l.length : Nat) : Int) > 300 := by omega
    have hok := okLens_long hlong
    have HOK := Lib.hid hok
    clear hok hlong
    go_enter Try.func156, Try.ntmps156
    have hB := Blk.new w (i64s (List.replicate 16 0)) 219
    go_wp2_with (first
      | (refine wpList_loadBlk rfl 219 _ rfl w.heap.size rfl 219 (i64s (List.replicate 16 0)) hB _ Try.underlying219 rfl (by kernel_rfl) ?_)
      | (refine wpList_storeBlk rfl 219 _ _ rfl w.heap.size rfl (i64s (List.replicate 16 0)) rfl 219 _ hB (by kernel_rfl) rfl (i64s_one _) ?_; intro w2 hB2 hU2))
    exact bodyPost_ret (count_res rfl rfl hB2 rfl) rfl ⟨((Upd.refl _ _).alloc _).trans hU2 (fun k hk => by simp at hk; right; omega), .inr ⟨HOK.out, _, rfl, rfl⟩⟩
  · have hnz : ¬ ((l.length : Nat) : Int) > 300 := by omega
    go_enter Try.func156, Try.ntmps156
    go_wp2
    go_loopg [12] l.length (fun g s12 wr => ∃ i, i ≤ l.length ∧ g = l.length - i ∧ s12 = .int .i64 (i : Nat) ∧ CountRel w l i wr)
    case atStart => exact ⟨0, by omega, rfl, rfl, okLens_mk (by simp) (by simp), Blk.new w (i64s (List.replicate 16 0)) 219, (Upd.refl _ _).alloc _⟩
    case round =>
      obtain ⟨i, hin, rfl, rfl, hok, hB, hU⟩ := hrel
      by_cases hc : i < l.length
      · have hcz : (i : Int) < (l.length : Int) := by omega
        obtain ⟨b, off, rfl, c0, r1, r2⟩ := (HI.out.pure hU).cell i hc
        by_cases hb : 0 ≤ l[i] ∧ l[i] ≤ 15
        · obtain ⟨hb0, hb15⟩ := hb
          have hok2 := Lib.hid (okLens_take hc hok (by omega) hb0 hb15)
          obtain ⟨k, hk⟩ : ∃ k : Nat, l[i] = (k : Int) := ⟨l[i].toNat, by omega⟩
          have hn2 := Lib.hid (show nats (l.take (i + 1)) = nats (l.take i) ++ [k] by rw [take_snoc' l i hc]; simp [nats, hk])
          rw [hk] at c0 hb0 hb15
          have hcl := Lib.hid (cl0_snoc (nats (l.take i)) k (by omega))
          have hcc : (nats (l.take i)).count k ≤ 300 := Nat.le_trans List.count_le_length (by rw [length_nats, List.length_take]; omega)
          have hk16 : k < 16 := by omega
          have d0 := hB.cell k (i64s_get _ _ _ (cl0_get (nats (l.take i)) k hk16))
          have f0 := hB.frz k
          clear hk r1 r2
          generalize (nats (l.take i)).count k = C at *
          go_wp2
          go_roundg (l.length - (i + 1))
          case measure => omega
          case rel =>
            refine ⟨i + 1, by omega, rfl, by go_num, hok2.out, ?_, hU.setCell (.inr (Nat.le_refl _)) _⟩
            rw [hn2.out, hcl.out, i64s_set]
            exact hB.set k _
        · have hokF := Lib.hid (okLens_not hc hb)
          have hlen0 : (i64s (cl0 (nats (l.take i)))).length = 16 := by rw [length_i64s, length_cl0]
          have hlc := length_cl0 (nats (l.take i))
          generalize cl0 (nats (l.take i)) = c at *
          by_cases hb0 : l[i] < 0
          · generalize l[i] = x at *
            go_wp2_with (first
              | (refine wpList_loadBlk rfl 219 _ rfl w.heap.size rfl 219 _ hB _ Try.underlying219 rfl (by rw [hlen0]; kernel_rfl) ?_)
              | (refine wpList_storeBlk rfl 219 _ _ rfl w.heap.size rfl _ rfl 219 _ hB (by rw [hlen0]; kernel_rfl) rfl (i64s_one _) ?_; intro w2 hB2 hU2))
            exact bodyPost_ret (count_res rfl rfl hB2 hlen0) rfl ⟨hU.trans hU2 (fun k hk => by simp at hk; right; omega), .inr ⟨hokF.out, _, hlc, rfl⟩⟩
          · have hb15 : 15 < l[i] := by omega
            generalize l[i] = x at *
            clear hb
            go_wp2_with (first
              | (refine wpList_loadBlk rfl 219 _ rfl w.heap.size rfl 219 _ hB _ Try.underlying219 rfl (by rw [hlen0]; kernel_rfl) ?_)
              | (refine wpList_storeBlk rfl 219 _ _ rfl w.heap.size rfl _ rfl 219 _ hB (by rw [hlen0]; kernel_rfl) rfl (i64s_one _) ?_; intro w2 hB2 hU2))
            exact bodyPost_ret (count_res rfl rfl hB2 hlen0) rfl ⟨hU.trans hU2 (fun k hk => by simp at hk; right; omega), .inr ⟨hokF.out, _, hlc, rfl⟩⟩
      · have hcz : ¬ (i : Int) < (l.length : Int) := by omega
        have hi : i = l.length := by omega
        rw [hi, List.take_length] at hok hB
        have hcl := Lib.hid (cl0_cl (nats l))
        have d0 := hB.cell 0 (i64s_get _ _ _ (cl0_get (nats l) 0 (by omega)))
        have f0 := hB.frz 0
        have hB1 := hB.set 0 (.int .i64 0)
        have hB1' : Blk (wr.setCell ⟨w.heap.size, 0, none⟩ (.int .i64 0)) w.heap.size (i64s (cl (nats l))) 219 := by
          rw [← hcl.out, i64s_set]; exact hB1
        clear hB1 hi
        have hlen0 : (i64s (cl (nats l))).length = 16 := by rw [length_i64s, length_cl]
        generalize hgc : cl (nats l) = c at *
        have HGC := Lib.hid hgc
        clear hgc
        go_wp2_with (first
          | (refine wpList_loadBlk rfl 219 _ rfl w.heap.size rfl 219 _ hB1' _ Try.underlying219 rfl (by rw [hlen0]; kernel_rfl) ?_)
          | (refine wpList_storeBlk rfl 219 _ _ rfl w.heap.size rfl _ rfl 219 _ hB1' (by rw [hlen0]; kernel_rfl) rfl (i64s_one _) ?_; intro w2 hB2 hU2))
        exact bodyPost_ret (count_res rfl rfl hB2 hlen0) rfl ⟨(hU.setCell (.inr (Nat.le_refl _)) _).trans hU2 (fun k hk => by simp at hk; right; omega), .inl ⟨hok, by rw [HGC.out]; rfl⟩⟩

theorem kind_step (p c k : Nat) (hp : p ≤ 200000000) (hc : c ≤ 300) : wrap64 ((p : Int) + wrap64 ((c : Int) * 2 ^ (15 - k))) = ((p + c * 2 ^ (15 - k) : Nat) : Int) := by
  have h1 : 2 ^ (15 - k) ≤ 2 ^ 15 := Nat.pow_le_pow_right (by omega) (by omega)
  have h2 : c * 2 ^ (15 - k) ≤ 300 * 2 ^ 15 := Nat.mul_le_mul hc h1
  have e : (2 : Int) ^ (15 - k) = ((2 ^ (15 - k) : Nat) : Int) := by simp
  have h3 : wrap64 ((c * 2 ^ (15 - k) : Nat) : Int) = ((c * 2 ^ (15 - k) : Nat) : Int) := IntWalk.wrap64_in _ (by omega)
  rw [e, ← Int.natCast_mul, h3, ← Int.natCast_add]
  exact IntWalk.wrap64_in _ (by omega)
set_option maxRecDepth 100000 in
set_option maxHeartbeats 3200000 in
theorem kind_any (a : Option Addr) (len cap : Nat) (l : List Int) (w : World) (hlen : len ≤ 9223372036854775807) (hI : IntsIn w a len l) :
    Calls Try.prog 155 #[.slice a len cap] w fun e w' => e = .returned (.int .i64 (kindOf l : Nat)) ∧ Upd [] w w' := by
  have HC := Lib.hid (qcount_any a len cap l w hlen hI)
  clear hI
  go_enter Try.func155, Try.ntmps155
  go_wp2_with fail
  refine HC.out.mono ?_
  rintro e w1 ⟨hU1, ⟨hok, rfl⟩ | ⟨hok, c, hlc, rfl⟩⟩
  · have HOK := Lib.hid hok
    clear hok
    have hlen0 : (i64s (cl (nats l))).length = 16 := by rw [length_i64s, length_cl]
    have hidx : ∀ i : Nat, i < 16 → ∀ W, (Instr.index 219 (.agg (i64s (cl (nats l))).toArray) (.int .i64 (i : Int))).run Try.prog W = .ok (.int .i64 (cnt (nats l) i : Nat)) W := fun i hi W => by
      rw [run_indexAgg (P := Try.prog) 219 3 16 Try.underlying219 .i64 Try.underlying3 (by kernel_rfl) (i64s (cl (nats l))) hlen0 .i64 i hi]
      rw [List.getD, i64s_get _ _ _ (cl_get (nats l) i hi)]; rfl
    have HX := Lib.hid hidx
    clear hidx
    have hpl := Lib.hid (fun k hk => psum_le (nats l) k hk (by rw [length_nats]; exact (okLens_spec HOK.out).1))
    have hcl := Lib.hid (fun k => Nat.le_trans (cnt_le (nats l) k) (by rw [length_nats]; exact (okLens_spec HOK.out).1))
    have hkind := Lib.hid (show kindOf l = kindN (nats l) by unfold kindOf; rw [if_pos HOK.out])
    have hps := Lib.hid (psum_wsum (nats l) (fun x hx => by
      simp only [nats, List.mem_map] at hx
      obtain ⟨y, hy, rfl⟩ := hx
      have := (okLens_spec HOK.out).2 y hy; omega))
    generalize nats l = n at *
    go_wp2_with (first
      | (refine wpList_storeBlk rfl 219 _ _ rfl w1.heap.size rfl _ rfl 219 _ (Blk.new w1 (i64s (List.replicate 16 0)) 219) (by kernel_rfl) hlen0 (i64s_one _) ?_; intro w2 hB2 hU2)
      | (refine wpList_loadBlk rfl 219 _ rfl w1.heap.size rfl 219 _ hB2 _ Try.underlying219 rfl (by rw [hlen0]; kernel_rfl) ?_))
    have hU3 : Upd [] w w2 := (hU1.alloc _).trans hU2 (fun k hk => by simp at hk; right; have := hU1.size; omega)
    go_loopg [5, 16] 16 (fun g s5 s16 wr => ∃ k, k ≤ 16 ∧ g = 16 - k ∧ s16 = .int .i64 (k : Nat) ∧ s5 = .int .i64 (psum n k : Nat) ∧ w2 = wr)
    case atStart => exact ⟨0, by omega, rfl, rfl, rfl, rfl⟩
    case round =>
      obtain ⟨k, hk, rfl, rfl, rfl, rfl⟩ := hrel
      have hle := hpl.out k hk
      by_cases hc : k < 16
      · have hcz : (k : Int) < 16 := by omega
        have hx := HX.out k hc
        have hcle := hcl.out k
        have hsn := Lib.hid (show psum n (k + 1) = psum n k + cnt n k * 2 ^ (15 - k) by rfl)
        generalize psum n k = p at *
        generalize cnt n k = c at *
        go_wp2
        go_roundg (16 - (k + 1))
        case measure => omega
        case rel =>
          refine ⟨k + 1, by omega, rfl, by go_num, ?_, rfl⟩
          rw [hsn.out, kind_step _ _ _ (by omega) hcle]
      · have hk16 : k = 16 := by omega
        have hcz : ¬ (k : Int) < 16 := by omega
        rw [hk16, hps.out] at hle ⊢
        have hkc := kindN_cases n
        clear hk16
        generalize wsum n = s at *
        rcases hkc with ⟨h0, hkn⟩ | ⟨h0, h1, hkn⟩ | ⟨h0, hkn⟩ | ⟨h0, hkn⟩
        · have HK := Lib.hid hkn
          have hs : (s : Int) = 0 := by omega
          clear hkn
          go_wp2
          go_returns
          exact ⟨by rw [hkind.out, HK.out]; rfl, hU3⟩
        · have HK := Lib.hid hkn
          have hs1 : ((s : Int) == 0) = false := by simp; omega
          have hs2 : decide ((s : Int) < 32768) = true := by simp; omega
          clear hkn h0 h1 hle
          go_wp2
          go_returns
          exact ⟨by rw [hkind.out, HK.out]; rfl, hU3⟩
        · have HK := Lib.hid hkn
          have hs : (s : Int) = 32768 := by omega
          clear hkn
          go_wp2
          go_returns
          exact ⟨by rw [hkind.out, HK.out]; rfl, hU3⟩
        · have HK := Lib.hid hkn
          have hs1 : ((s : Int) == 0) = false := by simp; omega
          have hs2 : decide ((s : Int) < 32768) = false := by simp; omega
          have hs3 : ((s : Int) == 32768) = false := by simp; omega
          clear hkn h0 hle
          go_wp2
          go_returns
          exact ⟨by rw [hkind.out, HK.out]; rfl, hU3⟩
  · have hlen0 : (i64s c).length = 16 := by rw [length_i64s, hlc]
    have hkind := Lib.hid (show kindOf l = 3 by unfold kindOf; rw [if_neg (by rw [hok]; decide)])
    clear hok
    go_wp2_with (first
      | (refine wpList_storeBlk rfl 219 _ _ rfl w1.heap.size rfl _ rfl 219 _ (Blk.new w1 (i64s (List.replicate 16 0)) 219) (by kernel_rfl) hlen0 (i64s_one _) ?_; intro w2 hB2 hU2))
    go_returns
    exact ⟨by rw [hkind.out]; rfl, (hU1.alloc _).trans hU2 (fun k hk => by simp at hk; right; have := hU1.size; omega)⟩
end Go.Proofs.Ytdehkaknbmbieaa
namespace Go.Proofs.Ytdehkaknbmbieaa
set_option linter.unusedVariables false
set_option linter.unusedSimpArgs false
set_option linter.unusedSectionVars false
open Go.RowKit

theorem infoU32 : (Try.prog.info? 78).map (fun i => (i.zero, i.size, i.bytes)) = some (some (.int .u32 0), 1, 4) := by kernel_rfl

end Go.Proofs.Ytdehkaknbmbieaa

/- The walks of package huff: count, Kind. -/
import Derived.Test.YtcddlnmfdjfjfaaBitX
import Derived.Test.YtcddlnmfdjfjfaaArr
import Derived.Test.YtcddlnmfdjfjfaaHuff
import Derived.Deep.CutBlock
import Derived.Handy
namespace Go.Proofs.Ytcddlnmfdjfjfaa
open Go.RowKit

/-- Integers that can be read where a slice leads. -/
structure IntsIn (w : World) (a : Option Addr) (len : Nat) (l : List Int) : Prop where
  len : l.length = len
  cell : ∀ i (h : i < l.length), ∃ b off, a = some ⟨b, off, none⟩ ∧ w.cell? ⟨b, off + i, none⟩ = some (.int .i64 l[i]) ∧ -9223372036854775808 ≤ l[i] ∧ l[i] ≤ 9223372036854775807
theorem IntsIn.upd {w w' : World} {a : Option Addr} {len : Nat} {l : List Int} {fp : List Nat} (h : IntsIn w a len l) (hU : Upd fp w w') (hf : ∀ b off, a = some ⟨b, off, none⟩ → b ∉ fp) : IntsIn w' a len l :=
  ⟨h.len, fun i hi => by
    obtain ⟨b, off, e, c, r⟩ := h.cell i hi
    have hb : b < w.heap.size := World.block_lt_of_cell? w _ c
    exact ⟨b, off, e, (hU.at hb (hf b off e) _).trans c, r⟩⟩
theorem IntsIn.pure {w w' : World} {a : Option Addr} {len : Nat} {l : List Int} (h : IntsIn w a len l) (hU : Upd [] w w') : IntsIn w' a len l := h.upd hU (by simp)

def i64s (l : List Nat) : List Value := l.map fun x : Nat => .int .i64 (x : Int)
theorem length_i64s (l : List Nat) : (i64s l).length = l.length := by simp [i64s]
theorem i64s_set (l : List Nat) (i x : Nat) : i64s (l.set i x) = (i64s l).set i (.int .i64 (x : Int)) := by simp [i64s, List.map_set]
theorem i64s_get (l : List Nat) (i x : Nat) (h : l[i]? = some x) : (i64s l)[i]? = some (.int .i64 (x : Int)) := by simp [i64s, h]
theorem i64s_one (l : List Nat) : ∀ v ∈ i64s l, v.oneCell' = true := by
  intro v hv
  simp only [i64s, List.mem_map] at hv
  obtain ⟨x, _, rfl⟩ := hv
  rfl

theorem infoCounts : (Try.prog.info? 83).map (·.size) = some 16 := by kernel_rfl

def CountPost (w : World) (l : List Int) (e : Ending) (w' : World) : Prop :=
  Upd [] w w' ∧ ((okLens l = true ∧ e = .returned (.tuple #[.agg (i64s (cl (nats l))).toArray, .bool true])) ∨
    (okLens l = false ∧ ∃ c, c.length = 16 ∧ e = .returned (.tuple #[.agg (i64s c).toArray, .bool false])))

def CountRel (w : World) (l : List Int) (i : Nat) (wr : World) : Prop := okLens (l.take i) = true ∧ Blk wr w.heap.size (i64s (cl0 (nats (l.take i)))) 83 ∧ Upd [] w wr

theorem count_res {w : World} {fn : Func} {p u : Tmp} {b : Nat} {cs : List Value} {tmps : Array Value} (h : fn.results = #[.cell p 83, .tmp u]) (hp : tmps.getD p undef = .pointer (some ⟨b, 0, none⟩)) {t : TypeId} (hB : Blk w b cs t) (hl : cs.length = 16) :
    (results fn tmps).run Try.prog w = .ok (.tuple #[.agg cs.toArray, tmps.getD u undef]) w := by
  have hp' : tmps[p]?.getD undef = .pointer (some ⟨b, 0, none⟩) := by simpa using hp
  have hr := run_loadVar_row (P := Try.prog) w b t 83 cs.toArray (0, 0) _ hB Try.underlying83 rfl (by rw [infoCounts]; simp [hl])
  simp [results, h, hp', asAddr, hr]

set_option maxRecDepth 100000 in
set_option maxHeartbeats 3200000 in
theorem count_any (a : Option Addr) (len cap : Nat) (l : List Int) (w : World) (hlen : len ≤ 9223372036854775807) (hI : IntsIn w a len l) :
    Calls Try.prog 46 #[.slice a len cap] w (CountPost w l) := by
  have hll := hI.len
  have HI := Lib.hid hI
  clear hI
  subst hll
  by_cases hlong : 300 < l.length
  · have hnz : ((l.length : Nat) : Int) > 300 := by omega
    have hok := okLens_long hlong
    have HOK := Lib.hid hok
    clear hok hlong
    go_enter Try.func46, Try.ntmps46
    have hB := Blk.new w (i64s (List.replicate 16 0)) 83
    go_wp2_with (first
      | (refine wpList_loadBlk rfl 83 _ rfl w.heap.size rfl 83 (i64s (List.replicate 16 0)) hB _ Try.underlying83 rfl (by kernel_rfl) ?_)
      | (refine wpList_storeBlk rfl 83 _ _ rfl w.heap.size rfl (i64s (List.replicate 16 0)) rfl 83 _ hB (by kernel_rfl) rfl (i64s_one _) ?_; intro w2 hB2 hU2))
    exact bodyPost_ret (count_res rfl rfl hB2 rfl) rfl ⟨((Upd.refl _ _).alloc _).trans hU2 (fun k hk => by simp at hk; right; omega), .inr ⟨HOK.out, _, rfl, rfl⟩⟩
  · have hnz : ¬ ((l.length : Nat) : Int) > 300 := by omega
    go_enter Try.func46, Try.ntmps46
    go_wp2
    go_loopg [12] l.length (fun g s12 wr => ∃ i, i ≤ l.length ∧ g = l.length - i ∧ s12 = .int .i64 (i : Nat) ∧ CountRel w l i wr)
    case atStart => exact ⟨0, by omega, rfl, rfl, okLens_mk (by simp) (by simp), Blk.new w (i64s (List.replicate 16 0)) 83, (Upd.refl _ _).alloc _⟩
    case round =>
      obtain ⟨i, hin, rfl, rfl, hok, hB, hU⟩ := hrel
      by_cases hc : i < l.length
      · have hcz : (i : Int) < (l.length : Int) := by omega
        obtain ⟨b, off, rfl, c0, r1, r2⟩ := (HI.out.pure hU).cell i hc
        by_cases hb : 0 ≤ l[i] ∧ l[i] ≤ 15
        · obtain ⟨hb0, hb15⟩ := hb
          have hok2 := Lib.hid (okLens_take hc hok (by omega) hb0 hb15)
          obtain ⟨k, hk⟩ : ∃ k : Nat, l[i] = (k : Int) := ⟨l[i].toNat, by omega⟩
          have hn2 := Lib.hid (show nats (l.take (i + 1)) = nats (l.take i) ++ [k] by rw [take_snoc' l i hc]; simp [nats, hk])
          rw [hk] at c0 hb0 hb15
          have hcl := Lib.hid (cl0_snoc (nats (l.take i)) k (by omega))
          have hcc : (nats (l.take i)).count k ≤ 300 := Nat.le_trans List.count_le_length (by rw [length_nats, List.length_take]; omega)
          have hk16 : k < 16 := by omega
          have d0 := hB.cell k (i64s_get _ _ _ (cl0_get (nats (l.take i)) k hk16))
          have f0 := hB.frz k
          clear hk r1 r2
          generalize (nats (l.take i)).count k = C at *
          go_wp2
          go_roundg (l.length - (i + 1))
          case measure => omega
          case rel =>
            refine ⟨i + 1, by omega, rfl, by go_num, hok2.out, ?_, hU.setCell (.inr (Nat.le_refl _)) _⟩
            rw [hn2.out, hcl.out, i64s_set]
            exact hB.set k _
        · have hokF := Lib.hid (okLens_not hc hb)
          have hlen0 : (i64s (cl0 (nats (l.take i)))).length = 16 := by rw [length_i64s, length_cl0]
          have hlc := length_cl0 (nats (l.take i))
          generalize cl0 (nats (l.take i)) = c at *
          by_cases hb0 : l[i] < 0
          · generalize l[i] = x at *
            go_wp2_with (first
              | (refine wpList_loadBlk rfl 83 _ rfl w.heap.size rfl 83 _ hB _ Try.underlying83 rfl (by rw [hlen0]; kernel_rfl) ?_)
              | (refine wpList_storeBlk rfl 83 _ _ rfl w.heap.size rfl _ rfl 83 _ hB (by rw [hlen0]; kernel_rfl) rfl (i64s_one _) ?_; intro w2 hB2 hU2))
            exact bodyPost_ret (count_res rfl rfl hB2 hlen0) rfl ⟨hU.trans hU2 (fun k hk => by simp at hk; right; omega), .inr ⟨hokF.out, _, hlc, rfl⟩⟩
          · have hb15 : 15 < l[i] := by omega
            generalize l[i] = x at *
            clear hb
            go_wp2_with (first
              | (refine wpList_loadBlk rfl 83 _ rfl w.heap.size rfl 83 _ hB _ Try.underlying83 rfl (by rw [hlen0]; kernel_rfl) ?_)
              | (refine wpList_storeBlk rfl 83 _ _ rfl w.heap.size rfl _ rfl 83 _ hB (by rw [hlen0]; kernel_rfl) rfl (i64s_one _) ?_; intro w2 hB2 hU2))
            exact bodyPost_ret (count_res rfl rfl hB2 hlen0) rfl ⟨hU.trans hU2 (fun k hk => by simp at hk; right; omega), .inr ⟨hokF.out, _, hlc, rfl⟩⟩
      · have hcz : ¬ (i : Int) < (l.length : Int) := by omega
        have hi : i = l.length := by omega
        rw [hi, List.take_length] at hok hB
        have hcl := Lib.hid (cl0_cl (nats l))
        have d0 := hB.cell 0 (i64s_get _ _ _ (cl0_get (nats l) 0 (by omega)))
        have f0 := hB.frz 0
        have hB1 := hB.set 0 (.int .i64 0)
        have hB1' : Blk (wr.setCell ⟨w.heap.size, 0, none⟩ (.int .i64 0)) w.heap.size (i64s (cl (nats l))) 83 := by
          rw [← hcl.out, i64s_set]; exact hB1
        clear hB1 hi
        have hlen0 : (i64s (cl (nats l))).length = 16 := by rw [length_i64s, length_cl]
        generalize hgc : cl (nats l) = c at *
        have HGC := Lib.hid hgc
        clear hgc
        go_wp2_with (first
          | (refine wpList_loadBlk rfl 83 _ rfl w.heap.size rfl 83 _ hB1' _ Try.underlying83 rfl (by rw [hlen0]; kernel_rfl) ?_)
          | (refine wpList_storeBlk rfl 83 _ _ rfl w.heap.size rfl _ rfl 83 _ hB1' (by rw [hlen0]; kernel_rfl) rfl (i64s_one _) ?_; intro w2 hB2 hU2))
        exact bodyPost_ret (count_res rfl rfl hB2 hlen0) rfl ⟨(hU.setCell (.inr (Nat.le_refl _)) _).trans hU2 (fun k hk => by simp at hk; right; omega), .inl ⟨hok, by rw [HGC.out]; rfl⟩⟩

theorem kind_step (p c k : Nat) (hp : p ≤ 200000000) (hc : c ≤ 300) : wrap64 ((p : Int) + wrap64 ((c : Int) * 2 ^ (15 - k))) = ((p + c * 2 ^ (15 - k) : Nat) : Int) := by
  have h1 : 2 ^ (15 - k) ≤ 2 ^ 15 := Nat.pow_le_pow_right (by omega) (by omega)
  have h2 : c * 2 ^ (15 - k) ≤ 300 * 2 ^ 15 := Nat.mul_le_mul hc h1
  have e : (2 : Int) ^ (15 - k) = ((2 ^ (15 - k) : Nat) : Int) := by simp
  have h3 : wrap64 ((c * 2 ^ (15 - k) : Nat) : Int) = ((c * 2 ^ (15 - k) : Nat) : Int) := IntWalk.wrap64_in _ (by omega)
  rw [e, ← Int.natCast_mul, h3, ← Int.natCast_add]
  exact IntWalk.wrap64_in _ (by omega)
theorem kindN_cases (n : List Nat) : (wsum n = 0 ∧ kindN n = 0) ∨ (0 < wsum n ∧ wsum n < 32768 ∧ kindN n = 2) ∨ (wsum n = 32768 ∧ kindN n = 1) ∨ (32768 < wsum n ∧ kindN n = 3) := by
  unfold kindN
  by_cases h1 : wsum n = 0
  · simp [h1]
  · by_cases h2 : wsum n < 32768
    · simp [h1, h2]; omega
    · by_cases h3 : wsum n = 32768
      · simp [h3]
      · simp [h1, h2, h3]; omega

set_option maxRecDepth 100000 in
set_option maxHeartbeats 3200000 in
theorem kind_any (a : Option Addr) (len cap : Nat) (l : List Int) (w : World) (hlen : len ≤ 9223372036854775807) (hI : IntsIn w a len l) :
    Calls Try.prog 24 #[.slice a len cap] w fun e w' => e = .returned (.int .i64 (kindOf l : Nat)) ∧ Upd [] w w' := by
  have HC := Lib.hid (count_any a len cap l w hlen hI)
  clear hI
  go_enter Try.func24, Try.ntmps24
  go_wp2_with fail
  refine HC.out.mono ?_
  rintro e w1 ⟨hU1, ⟨hok, rfl⟩ | ⟨hok, c, hlc, rfl⟩⟩
  · have HOK := Lib.hid hok
    clear hok
    have hlen0 : (i64s (cl (nats l))).length = 16 := by rw [length_i64s, length_cl]
    have hidx : ∀ i : Nat, i < 16 → ∀ W, (Instr.index 83 (.agg (i64s (cl (nats l))).toArray) (.int .i64 (i : Int))).run Try.prog W = .ok (.int .i64 (cnt (nats l) i : Nat)) W := fun i hi W => by
      rw [run_indexAgg (P := Try.prog) 83 3 16 Try.underlying83 .i64 Try.underlying3 (by kernel_rfl) (i64s (cl (nats l))) hlen0 .i64 i hi]
      rw [List.getD, i64s_get _ _ _ (cl_get (nats l) i hi)]; rfl
    have HX := Lib.hid hidx
    clear hidx
    have hpl := Lib.hid (fun k hk => psum_le (nats l) k hk (by rw [length_nats]; exact (okLens_spec HOK.out).1))
    have hcl := Lib.hid (fun k => Nat.le_trans (cnt_le (nats l) k) (by rw [length_nats]; exact (okLens_spec HOK.out).1))
    have hkind := Lib.hid (show kindOf l = kindN (nats l) by unfold kindOf; rw [if_pos HOK.out])
    have hps := Lib.hid (psum_wsum (nats l) (fun x hx => by
      simp only [nats, List.mem_map] at hx
      obtain ⟨y, hy, rfl⟩ := hx
      have := (okLens_spec HOK.out).2 y hy; omega))
    generalize nats l = n at *
    go_wp2_with (first
      | (refine wpList_storeBlk rfl 83 _ _ rfl w1.heap.size rfl _ rfl 83 _ (Blk.new w1 (i64s (List.replicate 16 0)) 83) (by kernel_rfl) hlen0 (i64s_one _) ?_; intro w2 hB2 hU2)
      | (refine wpList_loadBlk rfl 83 _ rfl w1.heap.size rfl 83 _ hB2 _ Try.underlying83 rfl (by rw [hlen0]; kernel_rfl) ?_))
    have hU3 : Upd [] w w2 := (hU1.alloc _).trans hU2 (fun k hk => by simp at hk; right; have := hU1.size; omega)
    go_loopg [5, 16] 16 (fun g s5 s16 wr => ∃ k, k ≤ 16 ∧ g = 16 - k ∧ s16 = .int .i64 (k : Nat) ∧ s5 = .int .i64 (psum n k : Nat) ∧ w2 = wr)
    case atStart => exact ⟨0, by omega, rfl, rfl, rfl, rfl⟩
    case round =>
      obtain ⟨k, hk, rfl, rfl, rfl, rfl⟩ := hrel
      have hle := hpl.out k hk
      by_cases hc : k < 16
      · have hcz : (k : Int) < 16 := by omega
        have hx := HX.out k hc
        have hcle := hcl.out k
        have hsn := Lib.hid (show psum n (k + 1) = psum n k + cnt n k * 2 ^ (15 - k) by rfl)
        generalize psum n k = p at *
        generalize cnt n k = c at *
        go_wp2
        go_roundg (16 - (k + 1))
        case measure => omega
        case rel =>
          refine ⟨k + 1, by omega, rfl, by go_num, ?_, rfl⟩
          rw [hsn.out, kind_step _ _ _ (by omega) hcle]
      · have hk16 : k = 16 := by omega
        have hcz : ¬ (k : Int) < 16 := by omega
        rw [hk16, hps.out] at hle ⊢
        have hkc := kindN_cases n
        clear hk16
        generalize wsum n = s at *
        rcases hkc with ⟨h0, hkn⟩ | ⟨h0, h1, hkn⟩ | ⟨h0, hkn⟩ | ⟨h0, hkn⟩
        · have HK := Lib.hid hkn
          have hs : (s : Int) = 0 := by omega
          clear hkn
          go_wp2
          go_returns
          exact ⟨by rw [hkind.out, HK.out]; rfl, hU3⟩
        · have HK := Lib.hid hkn
          have hs1 : ((s : Int) == 0) = false := by simp; omega
          have hs2 : decide ((s : Int) < 32768) = true := by simp; omega
          clear hkn h0 h1 hle
          go_wp2
          go_returns
          exact ⟨by rw [hkind.out, HK.out]; rfl, hU3⟩
        · have HK := Lib.hid hkn
          have hs : (s : Int) = 32768 := by omega
          clear hkn
          go_wp2
          go_returns
          exact ⟨by rw [hkind.out, HK.out]; rfl, hU3⟩
        · have HK := Lib.hid hkn
          have hs1 : ((s : Int) == 0) = false := by simp; omega
          have hs2 : decide ((s : Int) < 32768) = false := by simp; omega
          have hs3 : ((s : Int) == 32768) = false := by simp; omega
          clear hkn h0 hle
          go_wp2
          go_returns
          exact ⟨by rw [hkind.out, HK.out]; rfl, hU3⟩
  · have hlen0 : (i64s c).length = 16 := by rw [length_i64s, hlc]
    have hkind := Lib.hid (show kindOf l = 3 by unfold kindOf; rw [if_neg (by rw [hok]; decide)])
    clear hok
    go_wp2_with (first
      | (refine wpList_storeBlk rfl 83 _ _ rfl w1.heap.size rfl _ rfl 83 _ (Blk.new w1 (i64s (List.replicate 16 0)) 83) (by kernel_rfl) hlen0 (i64s_one _) ?_; intro w2 hB2 hU2))
    go_returns
    exact ⟨by rw [hkind.out]; rfl, (hU1.alloc _).trans hU2 (fun k hk => by simp at hk; right; have := hU1.size; omega)⟩
end Go.Proofs.Ytcddlnmfdjfjfaa

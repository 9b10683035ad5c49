/- The walk of swingleref04.Kind. -/
import Derived.Test.YtdehkaknbmbieaaGreatQAC
import Derived.Test.YtdehkaknbmbieaaGreatRows
import Derived.WalkKit
import Derived.StillTailTactics
import Derived.BigQuiet
import Derived.Deep.RegionHeld3
import Derived.Deep.RegionLaw
import Derived.Deep.DeepCutAuto
import Derived.Deep.DeepFit
import Derived.Deep.LoopGhost
import Derived.Deep.Light
import Derived.Test.YtdehkaknbmbieaaGreatQAB
namespace Go.Proofs.YtdehkaknbmbieaaGreat
set_option linter.unusedVariables false
set_option linter.unusedSimpArgs false
set_option linter.unusedSectionVars false
open Go.RowKit

theorem kindN_cases (n : List Nat) : (wsum n = 0 ∧ kindN n = 0) ∨ (0 < wsum n ∧ wsum n < 32768 ∧ kindN n = 2) ∨ (wsum n = 32768 ∧ kindN n = 1) ∨ (32768 < wsum n ∧ kindN n = 3) := by
  unfold kindN
  by_cases h1 : wsum n = 0
  · simp [h1]
  · by_cases h2 : wsum n < 32768
    · simp [h1, h2]; omega
    · by_cases h3 : wsum n = 32768
      · simp [h3]
      · simp [h1, h2, h3]; omega

set_option maxRecDepth 100000 in
set_option maxHeartbeats 3200000 in
theorem rkind_any (a : Option Addr) (len cap : Nat) (l : List Int) (w : World) (hlen : len ≤ 9223372036854775807) (hI : IntsIn w a len l) :
    Calls Tryz.prog 66 #[.slice a len cap] w fun e w' => e = .returned (.int .i64 (kindOf l : Nat)) ∧ w = w' := by
  have hll := hI.len
  have HI := Lib.hid hI
  clear hI
  subst hll
  by_cases hlong : 300 < l.length
  · have hnz : ((l.length : Nat) : Int) > 300 := by omega
    have hk := Lib.hid (show kindOf l = 3 by unfold kindOf; rw [if_neg (by rw [okLens_long hlong]; decide)])
    clear hlong
    go_enter Tryz.func66, Tryz.ntmps66
    go_wp2
    go_returns
    exact ⟨by rw [hk.out]; rfl, rfl⟩
  · have hnz : ¬ ((l.length : Nat) : Int) > 300 := by omega
    go_enter Tryz.func66, Tryz.ntmps66
    go_wp2
    go_loopg [3, 13] l.length (fun g s3 s13 wr => ∃ i, i ≤ l.length ∧ g = l.length - i ∧ s13 = .int .i64 (i : Nat) ∧ s3 = .int .i64 (wsum (nats (l.take i)) : Nat) ∧ okLens (l.take i) = true ∧ w = wr)
    case atStart => exact ⟨0, by omega, rfl, rfl, rfl, okLens_mk (by simp) (by simp), rfl⟩
    case round =>
      obtain ⟨i, hin, rfl, rfl, rfl, hok, rfl⟩ := hrel
      have hle : wsum (nats (l.take i)) ≤ 300 * 32768 := wsum_le _ (by rw [length_nats, List.length_take]; omega)
      by_cases hc : i < l.length
      · have hcz : (i : Int) < (l.length : Int) := by omega
        obtain ⟨b, off, rfl, c0, r1, r2⟩ := HI.out.cell i hc
        by_cases hb : 0 ≤ l[i] ∧ l[i] ≤ 15
        · obtain ⟨hb0, hb15⟩ := hb
          have hok2 := Lib.hid (okLens_take hc hok (by omega) hb0 hb15)
          obtain ⟨k, hk⟩ : ∃ k : Nat, l[i] = (k : Int) := ⟨l[i].toNat, by omega⟩
          have hn2 := Lib.hid (show wsum (nats (l.take (i + 1))) = wsum (nats (l.take i)) + wt k by rw [take_snoc' l i hc, ← wsum_snoc]; simp [nats, hk])
          rw [hk] at c0 hb0 hb15
          clear hk r1 r2 hok
          generalize wsum (nats (l.take i)) = s at *
          go_wp2
          go_loopg [6, 7] k (fun g s6 s7 wx => ∃ j, j ≤ k ∧ g = k - j ∧ s7 = .int .i64 (j : Nat) ∧ s6 = .int .i64 ((2 ^ (15 - j) : Nat) : Int) ∧ w = wx)
          case atStart => exact ⟨0, by omega, rfl, rfl, rfl, rfl⟩
          case round =>
            obtain ⟨j, hj, rfl, rfl, rfl, rfl⟩ := hrel
            have hp : 2 ^ (15 - j) ≤ 2 ^ 15 := Nat.pow_le_pow_right (by omega) (by omega)
            by_cases hjk : j < k
            · have hjz : (j : Int) < (k : Int) := by omega
              have hpp := Lib.hid (show 2 ^ (15 - j) / 2 = 2 ^ (15 - (j + 1)) by rw [show 15 - j = (15 - (j + 1)) + 1 by omega, Nat.pow_succ, Nat.mul_div_cancel _ (by omega)])
              generalize 2 ^ (15 - j) = p at *
              go_wp2
              go_roundg (k - (j + 1))
              case measure => omega
              case rel => exact ⟨j + 1, by omega, rfl, by go_num, by rw [← hpp.out]; simp, rfl⟩
            · have hjz : ¬ (j : Int) < (k : Int) := by omega
              have hjk' : j = k := by omega
              by_cases hk0 : k = 0
              · have hkz : ¬ (0 : Int) < (k : Int) := by omega
                have hw0 := Lib.hid (show wt k = 0 by unfold wt; rw [if_pos hk0])
                clear hk0 hjk'
                generalize 2 ^ (15 - j) = p at *
                go_wp2
                go_roundg (l.length - (i + 1))
                case measure => omega
                case rel => exact ⟨i + 1, by omega, rfl, by go_num, by rw [hn2.out, hw0.out]; rfl, hok2.out, rfl⟩
              · have hkz : (0 : Int) < (k : Int) := by omega
                have hw0 := Lib.hid (show wt k = 2 ^ (15 - j) by unfold wt; rw [if_neg hk0, hjk'])
                clear hk0 hjk'
                generalize 2 ^ (15 - j) = p at *
                go_wp2
                go_roundg (l.length - (i + 1))
                case measure => omega
                case rel => exact ⟨i + 1, by omega, rfl, by go_num, by rw [hn2.out, hw0.out]; simp, hok2.out, rfl⟩
        · have hk := Lib.hid (show kindOf l = 3 by unfold kindOf; rw [if_neg (by rw [okLens_not hc hb]; decide)])
          generalize wsum (nats (l.take i)) = s at *
          by_cases hb0 : l[i] < 0
          · generalize l[i] = x at *
            clear hb
            go_wp2
            go_returns
            exact ⟨by rw [hk.out]; rfl, rfl⟩
          · have hb15 : 15 < l[i] := by omega
            generalize l[i] = x at *
            clear hb
            go_wp2
            go_returns
            exact ⟨by rw [hk.out]; rfl, rfl⟩
      · have hcz : ¬ (i : Int) < (l.length : Int) := by omega
        have hi : i = l.length := by omega
        rw [hi, List.take_length] at hok hle
        have e : wsum (nats (l.take i)) = wsum (nats l) := by rw [hi, List.take_length]
        rw [e]
        have hkind := Lib.hid (show kindOf l = kindN (nats l) by unfold kindOf; rw [if_pos hok])
        have hkc := kindN_cases (nats l)
        clear hi e hle
        generalize wsum (nats l) = s at *
        rcases hkc with ⟨h0, hkn⟩ | ⟨h0, h1, hkn⟩ | ⟨h0, hkn⟩ | ⟨h0, hkn⟩
        · have HK := Lib.hid hkn
          have hs : (s : Int) = 0 := by omega
          clear hkn
          go_wp2
          go_returns
          exact ⟨by rw [hkind.out, HK.out]; rfl, rfl⟩
        · have HK := Lib.hid hkn
          have hs1 : ((s : Int) == 0) = false := by simp; omega
          have hs3 : ((s : Int) == 32768) = false := by simp; omega
          have hs2 : decide ((s : Int) < 32768) = true := by simp; omega
          clear hkn h0 h1
          go_wp2
          go_returns
          exact ⟨by rw [hkind.out, HK.out]; rfl, rfl⟩
        · have HK := Lib.hid hkn
          have hs : (s : Int) = 32768 := by omega
          clear hkn
          go_wp2
          go_returns
          exact ⟨by rw [hkind.out, HK.out]; rfl, rfl⟩
        · have HK := Lib.hid hkn
          have hs1 : ((s : Int) == 0) = false := by simp; omega
          have hs3 : ((s : Int) == 32768) = false := by simp; omega
          have hs2 : decide ((s : Int) < 32768) = false := by simp; omega
          clear hkn h0
          go_wp2
          go_returns
          exact ⟨by rw [hkind.out, HK.out]; rfl, rfl⟩

end Go.Proofs.YtdehkaknbmbieaaGreat
namespace Go.Proofs.YtdehkaknbmbieaaGreat
set_option linter.unusedVariables false
set_option linter.unusedSimpArgs false
set_option linter.unusedSectionVars false
open Go.RowKit
set_option linter.unusedVariables false

def usedI (l : List Int) : Nat := l.countP fun k => decide (0 < k)
def oneI (l : List Int) : Nat := l.countP fun k => decide (k = 1)
def lensOk (l : List Int) : Bool := decide (kindOf l = 1) || (decide (usedI l = 1) && decide (oneI l = 1))
theorem usedI_take {l : List Int} {i : Nat} (h : i < l.length) : usedI (l.take (i + 1)) = usedI (l.take i) + if 0 < l[i] then 1 else 0 := by
  unfold usedI; rw [take_snoc' l i h, List.countP_append]; simp [List.countP_cons]
theorem usedI_le (l : List Int) : usedI l ≤ l.length := List.countP_le_length
def lastPos (l : List Int) : Int := (l.filter fun k => decide (0 < k)).getLastD 0
theorem lastPos_take {l : List Int} {i : Nat} (h : i < l.length) : lastPos (l.take (i + 1)) = if 0 < l[i] then l[i] else lastPos (l.take i) := by
  unfold lastPos
  rw [take_snoc' l i h, List.filter_append]
  by_cases hp : 0 < l[i]
  · rw [if_pos hp, List.filter_cons_of_pos (by simpa using hp), List.filter_nil, List.getLastD_eq_getLast?]
    simp
  · rw [if_neg hp, List.filter_cons_of_neg (by simpa using hp), List.filter_nil, List.append_nil]
theorem lensOk_ref (l : List Int) : lensOk l = (decide (kindOf l = 1) || (decide (usedI l = 1) && decide (lastPos l = 1))) := by
  unfold lensOk
  by_cases hu : usedI l = 1
  · have hf : (l.filter fun k => decide (0 < k)).length = 1 := by rw [← List.countP_eq_length_filter]; exact hu
    obtain ⟨x, hx⟩ := List.length_eq_one_iff.1 hf
    have hone : oneI l = if x = 1 then 1 else 0 := by
      have e : oneI l = (l.filter fun k => decide (0 < k)).countP fun k => decide (k = 1) := by
        unfold oneI
        rw [List.countP_filter]
        congr 1
        funext k
        by_cases h : k = 1
        · simp [h]
        · simp [h]
      rw [e, hx]
      by_cases h : x = 1 <;> simp [h]
    have hl : lastPos l = x := by unfold lastPos; rw [hx]; rfl
    rw [hl, hone]
    by_cases h : x = 1 <;> simp [h]
  · simp [hu]
set_option maxRecDepth 100000 in
set_option maxHeartbeats 1600000 in
theorem rlengths_any (x : Option Addr) (cap : Nat) (l : List Int) (w : World) (hlen : l.length ≤ 100000) (hI : IntsIn w x l.length l) :
    Calls Tryz.prog 69 #[.slice x l.length cap] w fun e w' => e = .returned (.bool (lensOk l)) ∧ w = w' := by
  have HK := Lib.hid (rkind_any x l.length cap l w (by omega) hI)
  have HI := Lib.hid hI
  clear hI
  go_enter Tryz.func69, Tryz.ntmps69
  go_wp2
  go_loopg [3, 4, 9] l.length (fun g s3 s4 s9 wr => ∃ i, i ≤ l.length ∧ g = l.length - i ∧ s9 = .int .i64 (i : Nat) ∧ s3 = .int .i64 (usedI (l.take i) : Nat) ∧ s4 = .int .i64 (lastPos (l.take i)) ∧ w = wr)
  case atStart => exact ⟨0, by omega, rfl, rfl, rfl, rfl, rfl⟩
  case round =>
    obtain ⟨i, hi, rfl, rfl, rfl, rfl, rfl⟩ := hrel
    by_cases hc : i < l.length
    · have hcz : (i : Int) < (l.length : Int) := by omega
      obtain ⟨b, off, rfl, c, hb1, hb2⟩ := HI.out.cell i hc
      have hu := usedI_take hc
      have hl := lastPos_take hc
      have hul := usedI_le (l.take i)
      rw [List.length_take] at hul
      have HU := Lib.hid hu
      have HL := Lib.hid hl
      clear hu hl
      generalize l[i] = y at *
      by_cases hy : 0 < y
      · have t1 : decide (0 < y) = true := decide_eq_true hy
        go_wp2
        go_roundg (l.length - (i + 1))
        case measure => omega
        case rel =>
          refine ⟨i + 1, by omega, rfl, by first | rfl | go_num, ?_, ?_, rfl⟩
          · rw [HU.out, if_pos hy]; first | rfl | go_num
          · rw [HL.out, if_pos hy]
      · have t1 : decide (0 < y) = false := decide_eq_false hy
        go_wp2
        go_roundg (l.length - (i + 1))
        case measure => omega
        case rel =>
          refine ⟨i + 1, by omega, rfl, by first | rfl | go_num, ?_, ?_, rfl⟩
          · rw [HU.out, if_neg (by omega)]; first | rfl | go_num
          · rw [HL.out, if_neg (by omega)]
    · have hcz : ¬ (i : Int) < (l.length : Int) := by omega
      have hil : i = l.length := by omega
      subst hil
      rw [List.take_length]
      have hok := Lib.hid (lensOk_ref l)
      have hul := usedI_le l
      generalize usedI l = u at *
      generalize lastPos l = y at *
      generalize kindOf l = kk at *
      by_cases h1 : kk = 1
      · have t1 : ((kk : Int) == 1) = true := by rw [h1]; rfl
        go_wp2_with fail
        refine HK.out.mono ?_
        rintro e w2 ⟨rfl, rfl⟩
        go_wp2
        go_returns
        exact ⟨by rw [hok.out]; simp [h1], rfl⟩
      · have t1 : ((kk : Int) == 1) = false := by simp; omega
        by_cases h2 : u = 1
        · have t2 : ((u : Int) == 1) = true := by rw [h2]; rfl
          by_cases h3 : y = 1
          · have t3 : (y == 1) = true := by rw [h3]; rfl
            go_wp2_with fail
            refine HK.out.mono ?_
            rintro e w2 ⟨rfl, rfl⟩
            go_wp2
            go_returns
            exact ⟨by rw [hok.out]; simp [h2, h3], rfl⟩
          · have t3 : (y == 1) = false := by simp [h3]
            go_wp2_with fail
            refine HK.out.mono ?_
            rintro e w2 ⟨rfl, rfl⟩
            go_wp2
            go_returns
            exact ⟨by rw [hok.out]; simp [h1, h3], rfl⟩
        · have t2 : ((u : Int) == 1) = false := by simp; omega
          go_wp2_with fail
          refine HK.out.mono ?_
          rintro e w2 ⟨rfl, rfl⟩
          go_wp2
          go_returns
          exact ⟨by rw [hok.out]; simp [h1, h2], rfl⟩
end Go.Proofs.YtdehkaknbmbieaaGreat
namespace Go.Proofs.YtdehkaknbmbieaaGreat
set_option linter.unusedVariables false
set_option linter.unusedSimpArgs false
set_option linter.unusedSectionVars false
open Go.RowKit

theorem infoU8 : (Tryz.prog.info? 5).map (fun i => (i.zero, i.size, i.bytes)) = some (some (.int .u8 0), 1, 1) := by kernel_rfl

/-- A Writer at block b with bits L, of which m bytes are whole; v: its slice. -/
structure WrAt (w : World) (b : Nat) (v : Value) (L : List Bool) (m : Nat) : Prop where
  blk : Blk w b [v, .int .u64 (rest L m : Nat), .int .i64 (L.length - 8 * m : Nat)] 31
  row : Row w 5 1 v m (u8s (outs L m))
  le : 8 * m ≤ L.length
  far : v.ownBlock ≠ some b
/-- The blocks that it lies in. -/
def wrFp (b : Nat) (v : Value) : List Nat := b :: v.ownBlock.toList
theorem WrAt.upd {w w' : World} {b : Nat} {v : Value} {L : List Bool} {m : Nat} {fp : List Nat} (h : WrAt w b v L m) (hu : Upd fp w w') (hb : b ∉ fp) (hv : ∀ k, v.ownBlock = some k → k ∉ fp) : WrAt w' b v L m :=
  ⟨h.blk.upd hu hb, h.row.upd hu hv, h.le, h.far⟩

def BitsPost (w : World) (b : Nat) (v : Value) (L : List Bool) (e : Ending) (w' : World) : Prop :=
  e = .returned (.tuple #[]) ∧ ∃ v', WrAt w' b v' L (L.length / 8) ∧ Upd (wrFp b v) w w' ∧ Later w v v'

def BitsRel (w : World) (b : Nat) (v : Value) (L : List Bool) (g : Nat) (wr : World) : Prop :=
  ∃ m v', WrAt wr b v' L m ∧ g = L.length - 8 * m ∧ Upd (wrFp b v) w wr ∧ Later w v v'

theorem bits_store (p X K n : Nat) (hp : p < 2 ^ n) (hX : X < 4294967296) (hK : K ≤ 32) (hn : n ≤ 7) :
    bits BinOp.or IntKind.u64 (p : Int) (IntKind.u64.wrap (bits BinOp.and IntKind.u64 (IntKind.u64.wrap (X : Int)) (IntKind.u64.wrap (IntKind.u64.wrap (2 ^ K) - 1)) * 2 ^ n)) = ((p + 2 ^ n * (X % 2 ^ K) : Nat) : Int) := by
  have hn2 : 2 ^ n ≤ 2 ^ 7 := Nat.pow_le_pow_right (by omega) hn
  have hK2 : 2 ^ K ≤ 2 ^ 32 := Nat.pow_le_pow_right (by omega) hK
  have hK1 : 1 ≤ 2 ^ K := Nat.one_le_two_pow
  have h1 : IntKind.u64.wrap (X : Int) = (X : Int) := IntWalk.u64_in _ (by omega)
  have e2 : (2 : Int) ^ K = ((2 ^ K : Nat) : Int) := by simp
  have e3 : (2 : Int) ^ n = ((2 ^ n : Nat) : Int) := by simp
  rw [h1, e2, e3]
  have h2 : IntKind.u64.wrap ((2 ^ K : Nat) : Int) = ((2 ^ K : Nat) : Int) := IntWalk.u64_in _ (by omega)
  have h3 : IntKind.u64.wrap (((2 ^ K : Nat) : Int) - 1) = ((2 ^ K - 1 : Nat) : Int) := by rw [IntWalk.u64_in _ (by omega)]; omega
  have hs : X % 2 ^ K < 2 ^ K := Nat.mod_lt _ (by omega)
  have hm : (X &&& (2 ^ K - 1)) = X % 2 ^ K := Nat.and_two_pow_sub_one_eq_mod X K
  have hb : X % 2 ^ K * 2 ^ n ≤ 2 ^ 32 * 2 ^ 7 := Nat.mul_le_mul (by omega) hn2
  rw [h2, h3, u64_and_nat _ _ (by omega) (by omega), hm, ← Int.natCast_mul, IntWalk.u64_in _ (by omega), u64_or_nat _ _ (by omega) (by omega), ← hm, or_step p X K n hp, hm]

theorem bits_close {w0 w wa w1 : World} {b g cap m N : Nat} {v v' x : Value} {L' : List Bool} (hW' : WrAt w b v' L' m) (hU : Upd (wrFp b v) w0 w) (hLt : Later w0 v v') (hc : 8 * (m + 1) ≤ L'.length)
    (hwa : Upd [] w wa) (hgrow : wa.grownBy w1 v'.ownBlock) (hat : v'.ownBlock = some g ∨ g = N) (hN : w.heap.size ≤ N)
    (hown1 : w1.ownsRow 0 5 1 (.slice (some ⟨g, 0, none⟩) (m + 1) cap) (m + 1) (u8s (outs L' m) ++ [x])) (hx : x = .int .u8 (chunk L' m : Nat)) :
    BitsRel w0 b v L' (L'.length - 8 * (m + 1)) (((w1.setCell ⟨b, 0, none⟩ (.slice (some ⟨g, 0, none⟩) (m + 1) cap)).setCell ⟨b, 1, none⟩ (.int .u64 (((rest L' m : Nat) : Int) / 256))).setCell ⟨b, 2, none⟩ (.int .i64 (((L'.length - 8 * m : Nat) : Int) - 8))) := by
  have hgb : (Value.slice (some ⟨g, 0, none⟩) (m + 1) cap).ownBlock ≠ some b := by
    have hb := hW'.blk.lt
    have hf := hW'.far
    rcases hat with h | h
    · rw [h] at hf; exact hf
    · simp only [Value.ownBlock, ne_eq, Option.some.injEq]; omega
  have hBw : Blk w1 b _ _ := (hW'.blk.upd hwa (by simp)).grown hgrow hW'.far
  refine ⟨m + 1, .slice (some ⟨g, 0, none⟩) (m + 1) cap, ⟨?_, ?_, hc, hgb⟩, rfl, ?_, ?_⟩
  · have h := ((hBw.set 0 (.slice (some ⟨g, 0, none⟩) (m + 1) cap)).set 1 (.int .u64 (((rest L' m : Nat) : Int) / 256))).set 2 (.int .i64 (((L'.length - 8 * m : Nat) : Int) - 8))
    have e1 : (((rest L' m : Nat) : Int) / 256) = ((rest L' (m + 1) : Nat) : Int) := by rw [rest_succ _ _ hc]; simp
    have e2 : (((L'.length - 8 * m : Nat) : Int) - 8) = ((L'.length - 8 * (m + 1) : Nat) : Int) := by omega
    rw [← e1, ← e2]
    exact h
  · rw [outs_succ, u8s_snoc, ← hx]
    exact (((Row.of_owns hown1).setFar _ hgb).setFar _ hgb).setFar _ hgb
  · have hU1 : Upd (wrFp b v) w0 w1 := (hU.then (hwa.mono (by simp))).grown hgrow (fun k hk => by
      rcases hLt with h | ⟨j, h, hj⟩
      · exact .inl (by simp [wrFp, ← h, hk])
      · rw [h] at hk; cases hk; exact .inr hj)
    exact ((hU1.setCell (.inl (by simp [wrFp])) _).setCell (.inl (by simp [wrFp])) _).setCell (.inl (by simp [wrFp])) _
  · rcases hat with h | h
    · rcases hLt with h' | ⟨j, h', hj⟩
      · exact .inl (by rw [← h', h]; rfl)
      · exact .inr ⟨j, by rw [← h', h]; rfl, hj⟩
    · exact .inr ⟨g, rfl, by have := hU.size; omega⟩

set_option maxRecDepth 100000 in
set_option maxHeartbeats 3200000 in
theorem bits_any (b X : Nat) (x k : Int) (K : Nat) (w : World) (v : Value) (L : List Bool) (hx : x = (X : Nat)) (hX : X < 4294967296) (hW : WrAt w b v L (L.length / 8)) (hL : L.length ≤ 1099511627776)
    (hK32 : K ≤ 32) (hK : Hid ((K : Int) = max 0 (min k 32))) :
    Calls Tryz.prog 21 #[.pointer (some ⟨b, 0, none⟩), .int .u32 x, .int .i64 k] w (BitsPost w b v (L ++ low K X)) := by
  subst hx
  obtain ⟨i0, hi, hz0, hz1, hz2⟩ := info_parts infoU8
  have h0 := hW.blk.cell 0 rfl
  have h1 := hW.blk.cell 1 rfl
  have h2 := hW.blk.cell 2 rfl
  have f0 := hW.blk.frz 0
  have f1 := hW.blk.frz 1
  have f2 := hW.blk.frz 2
  have hle := hW.le
  have hn7 : L.length - 8 * (L.length / 8) ≤ 7 := by omega
  have hnn : (0 : Int) ≤ ((L.length - 8 * (L.length / 8) : Nat) : Int) := by omega
  have hK0 : (0 : Int) ≤ (K : Int) := by omega
  have hst := Lib.hid (bits_store (rest L (L.length / 8)) X K (L.length - 8 * (L.length / 8)) (rest_lt L _) hX hK32 hn7)
  have hre : rest L (L.length / 8) + 2 ^ (L.length - 8 * (L.length / 8)) * (X % 2 ^ K) = rest (L ++ low K X) (L.length / 8) := by rw [rest_append _ _ _ hle, val_low]
  rw [hre] at hst
  clear hre
  go_enter Tryz.func21, Tryz.ntmps21
  go_upto_region 1 with fail
  go_cut [2] (fun s2 wx => s2 = .int .i64 (K : Nat) ∧ wx = w)
  case first =>
    go_wp2
    all_goals go_meet
    all_goals (refine ⟨?_, rfl⟩; first | (rw [hK.out]; done) | (rw [hK.out]; congr 1; omega))
  case rest =>
    obtain ⟨rfl, rfl⟩ := hcut
    go_upto_region 2 with fail
    go_still_tail 18, (by kernel_rfl)
    rw [hst.out]
    go_wp2
    have hLK : Hid ((L ++ low K X).length = L.length + K) := Lib.hid (by rw [List.length_append, length_low])
    have hlo : Hid (outs (L ++ low K X) (L.length / 8) = outs L (L.length / 8)) := Lib.hid (outs_append _ _ _ hle)
    have hub' : (L ++ low K X).length ≤ 2000000000000 := by rw [List.length_append, length_low]; omega
    generalize L ++ low K X = L' at *
    go_loopg [] (L'.length - 8 * (L.length / 8)) (fun g wr => BitsRel wc b v L' g wr)
    case atStart =>
      refine ⟨L.length / 8, v, ⟨?_, ?_, by rw [hLK.out]; omega, hW.far⟩, rfl, ?_, .refl _ _⟩
      · have h := (hW.blk.set 1 (.int .u64 (rest L' (L.length / 8) : Nat))).set 2 (.int .i64 (((L.length - 8 * (L.length / 8) : Nat) : Int) + (K : Int)))
        have e : (((L.length - 8 * (L.length / 8) : Nat) : Int) + (K : Int)) = ((L'.length - 8 * (L.length / 8) : Nat) : Int) := by
          rw [hLK.out]; omega
        rw [← e]
        exact h
      · rw [hlo.out]
        exact (((hW.row).setFar _ hW.far).setFar _ hW.far).drew
      · exact (((Upd.refl _ _).setCell (.inl (by simp [wrFp])) _).setCell (.inl (by simp [wrFp])) _).drew
    case round =>
      obtain ⟨m, v', hW', rfl, hU, hLt⟩ := hrel
      clear h0 h1 h2 f0 f1 f2 hst hnn hn7 hlo hLK
      have h0 := hW'.blk.cell 0 rfl
      have h1 := hW'.blk.cell 1 rfl
      have h2 := hW'.blk.cell 2 rfl
      have f0 := hW'.blk.frz 0
      have f1 := hW'.blk.frz 1
      have f2 := hW'.blk.frz 2
      by_cases hc : 8 ≤ L'.length - 8 * m
      · have hcz : (8 : Int) ≤ ((L'.length - 8 * m : Nat) : Int) := by omega
        have hub : ((L'.length - 8 * m : Nat) : Int) ≤ 2000000000000 := by omega
        have hbw := hW'.blk.lt
        have hfar := hW'.far
        have hrow := hW'.row
        have hmm : m ≤ 2000000000000 := by omega
        go_wp2_with fail
        go_region_law ((refine step_append_lies _ (by rfl) _ _ _ (by rfl) 0 5 i0 _ 1 1 Tryz.underlying28 hi hz0 hz1 hz2 rfl (by omega) v' m _ (by rfl) (Row.alloc (Row.drew hrow) _) ⟨wr.heap.size, 0, none⟩ 1 1 [_] (by rfl) (by rfl) (World.news_of_block (cs := #[_]) (t := 5) (fr := (0, 0)) (heap_alloc_new _ _)) (by simp [Value.oneCell']) (by omega) (by unfold maxLen; omega) (by omega) (by simp) (wr.heap.size + 1) (by simp) ?_; intro g cap w1 hown1 hgrow hat hlt; have hBw := (hW'.blk.drew.alloc _).grown hgrow hfar; have k0 := hBw.cell 0 rfl; have k1 := hBw.cell 1 rfl; have k2 := hBw.cell 2 rfl; have e0 := hBw.frz 0; have e1 := hBw.frz 1; have e2 := hBw.frz 2))
        all_goals go_wp2
        all_goals go_roundg (L'.length - 8 * (m + 1))
        all_goals first | omega | (refine bits_close hW' hU hLt (by omega) (by first | exact ((Upd.refl _ _).drew.alloc _) | exact ((Upd.refl _ _).alloc _).drew) hgrow hat (by omega) hown1 ?_; rw [chunk_rest _ _ (by omega), IntKind.wrap_u8]; simp)
      · have hcz : ((L'.length - 8 * m : Nat) : Int) < 8 := by omega
        go_wp2
        go_end0
        have hm : m = L'.length / 8 := by have := hW'.le; omega
        exact ⟨rfl, v', hm ▸ hW', hU, hLt⟩
end Go.Proofs.YtdehkaknbmbieaaGreat

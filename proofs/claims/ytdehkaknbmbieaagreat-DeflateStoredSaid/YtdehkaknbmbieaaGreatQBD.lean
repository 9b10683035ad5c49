/- The walks of package huff, further: firsts, Codes, Turned. -/
import Derived.Test.YtdehkaknbmbieaaGreatQBC
namespace Go.Proofs.YtdehkaknbmbieaaGreat
set_option linter.unusedVariables false
set_option linter.unusedSimpArgs false
set_option linter.unusedSectionVars false
open Go.RowKit

def u32s (l : List Nat) : List Value := l.map fun x : Nat => .int .u32 (x : Int)
theorem length_u32s (l : List Nat) : (u32s l).length = l.length := by simp [u32s]
theorem u32s_set (l : List Nat) (i x : Nat) : u32s (l.set i x) = (u32s l).set i (.int .u32 (x : Int)) := by simp [u32s, List.map_set]
theorem u32s_get (l : List Nat) (i x : Nat) (h : l[i]? = some x) : (u32s l)[i]? = some (.int .u32 (x : Int)) := by simp [u32s, h]
theorem u32s_one (l : List Nat) : ∀ v ∈ u32s l, v.oneCell' = true := by
  intro v hv
  simp only [u32s, List.mem_map] at hv
  obtain ⟨x, _, rfl⟩ := hv
  rfl
theorem infoFirsts : (Tryz.prog.info? 163).map (·.size) = some 16 := by kernel_rfl

set_option maxRecDepth 100000 in
set_option maxHeartbeats 3200000 in
theorem firsts_any (n : List Nat) (w : World) (hs : psum n 16 ≤ 32768) :
    Calls Tryz.prog 120 #[.agg (i64s (cl n)).toArray] w fun e w' => e = .returned (.agg (u32s (fl n)).toArray) ∧ Upd [] w w' := by
  have hb := fun k hk => fst_cnt n hs k hk
  have HB := Lib.hid hb
  clear hb
  have hlen0 : (i64s (cl n)).length = 16 := by rw [length_i64s, length_cl]
  have hlen1 : Hid ((u32s (fl n)).length = 16) := Lib.hid (by rw [length_u32s, length_fl])
  go_enter Tryz.func120, Tryz.ntmps120
  go_wp2
  go_loopg [3] 15 (fun g s3 wr => ∃ j, j ≤ 15 ∧ g = 15 - j ∧ s3 = .int .i64 ((j + 1 : Nat) : Int) ∧ Blk wr w.heap.size (i64s (cl n)) 160 ∧ Blk wr (w.heap.size + 1) (u32s (flp n (j + 1))) 163 ∧ Upd [] w wr)
  case atStart =>
    refine ⟨0, by omega, rfl, rfl, (Blk.new w _ _).alloc _, ?_, ((Upd.refl _ _).alloc _).alloc _⟩
    have h := Blk.new (w.alloc (.cells (i64s (cl n)).toArray 160)) (u32s (flp n (0 + 1))) 163
    rw [World.size_alloc, flp_1] at h
    rw [flp_1]
    exact h
  case round =>
    obtain ⟨j, hj, rfl, rfl, hB1, hB2, hU⟩ := hrel
    by_cases hc : j < 15
    · have hcz : (j : Int) + 1 ≤ 15 := by omega
      have d1 := hB1.cell j (i64s_get _ _ _ (cl_get n j (by omega)))
      have d2 := hB2.cell j (u32s_get _ _ _ (flp_get n (j + 1) j (by omega)))
      have d3 := hB2.cell (j + 1) (u32s_get _ _ _ (flp_get n (j + 1) (j + 1) (by omega)))
      rw [if_pos (by omega)] at d2
      rw [if_neg (by omega)] at d3
      have f3 := hB2.frz (j + 1)
      have hbd := HB.out j (by omega)
      have hp15 : 2 ^ j ≤ 2 ^ 15 := Nat.pow_le_pow_right (by omega) (by omega)
      have hst := Lib.hid (flp_set n (j + 1))
      have hfs := Lib.hid (show fst n (j + 1) = 2 * (fst n j + cnt n j) by rfl)
      generalize fst n (j + 1) = F1 at *
      generalize fst n j = F at *
      generalize cnt n j = C at *
      generalize 2 ^ j = pj at *
      go_wp2
      have hj0 : (0 : Int) ≤ (j : Int) := by omega
      have e1 : IntKind.i64.wrap (((j : Int) + 1) - 1) = (j : Int) := by rw [IntWalk.i64_in _ (by omega)]; omega
      go_region
      go_wp2
      go_roundg (15 - (j + 1))
      case measure => omega
      case rel =>
        have hv : (((F : Int) + (C : Int)) * 2) = ((F1 : Nat) : Int) := by have := hfs.out; omega
        rw [hv]
        refine ⟨j + 1, by omega, rfl, by go_num, (hB1.setFar _ (by simp)).drew, ?_, (hU.setCell (.inr (by simp)) _).drew⟩
        rw [← hst.out, u32s_set]
        exact (hB2.set (j + 1) _).drew
    · have hj15 : j = 15 := by omega
      have hcz : ¬ (j : Int) + 1 ≤ 15 := by omega
      rw [hj15, flp_16] at hB2
      clear hj15
      go_wp2_with (first
        | (refine wpList_loadBlk rfl 163 _ rfl (w.heap.size + 1) rfl 163 _ hB2 _ Tryz.underlying163 rfl (by rw [hlen1.out]; kernel_rfl) ?_)
        | (refine wpList_storeBlk rfl 163 _ _ rfl (w.heap.size + 1) rfl _ rfl 163 _ hB2 (by rw [hlen1.out]; kernel_rfl) rfl (u32s_one _) ?_; intro w2 hB3 hU2))
      exact bodyPost_ret (results_cell_row rfl _ _ _ _ _ _ _ rfl hB3 Tryz.underlying163 rfl (by rw [infoFirsts]; simp [hlen1.out])) rfl ⟨rfl, hU.trans hU2 (fun k hk => by simp at hk; right; omega)⟩

/-- Codes that are made: new blocks, holding the codes. -/
def CodesPost (w : World) (l : List Int) (e : Ending) (w' : World) : Prop :=
  Upd [] w w' ∧ ((kindOf l = 3 ∧ e = .returned (.slice none 0 0)) ∨
    (kindOf l ≠ 3 ∧ ∃ g, e = .returned (.slice (some ⟨g, 0, none⟩) l.length l.length) ∧ w.heap.size ≤ g ∧ Row w' 53 1 (.slice (some ⟨g, 0, none⟩) l.length l.length) l.length (u32s (codes (nats l)))))

def CodesRel (w : World) (n : List Nat) (bx g : Nat) (i : Nat) (wr : World) : Prop :=
  Blk wr bx (u32s (nx n i)) 163 ∧ Row wr 53 1 (.slice (some ⟨g, 0, none⟩) n.length n.length) n.length (u32s (outp n i)) ∧ Upd [] w wr

set_option maxRecDepth 100000 in
set_option maxHeartbeats 3200000 in
theorem codes_any (a : Option Addr) (len cap : Nat) (l : List Int) (w : World) (hlen : len ≤ 9223372036854775807) (hI : IntsIn w a len l) :
    Calls Tryz.prog 83 #[.slice a len cap] w (CodesPost w l) := by
  have hll := hI.len
  have HI := Lib.hid hI
  clear hI
  subst hll
  have HK := Lib.hid (kind_any a l.length cap l w hlen HI.out)
  have HC := Lib.hid (fun w1 (hU : Upd [] w w1) => qcount_any a l.length cap l w1 hlen (HI.out.pure hU))
  obtain ⟨i0, hi0, hz0, hz1, hz2⟩ := info_parts infoU32
  by_cases hk3 : kindOf l = 3
  · have H3 := Lib.hid hk3
    rw [hk3] at HK
    clear hk3
    go_enter Tryz.func83, Tryz.ntmps83
    go_wp2_with fail
    refine HK.out.mono ?_
    rintro e w1 ⟨rfl, hU1⟩
    go_wp2
    go_returns
    exact ⟨hU1, .inl ⟨H3.out, rfl⟩⟩
  · obtain ⟨hok, hps⟩ := kindOf_ok hk3
    have hkb : ((kindOf l : Nat) : Int) ≠ 3 := by omega
    have H3 := Lib.hid hk3
    have HO := Lib.hid hok
    generalize kindOf l = kk at HK hkb
    clear hk3
    go_enter Tryz.func83, Tryz.ntmps83
    go_wp2_with fail
    refine HK.out.mono ?_
    rintro e w1 ⟨rfl, hU1⟩
    go_wp2_with fail
    refine (HC.out w1 hU1).mono ?_
    rintro e w2 ⟨hU2, ⟨_, rfl⟩ | ⟨hno, _⟩⟩
    case inr => rw [hok] at hno; cases hno
    have hlen0 : (i64s (cl (nats l))).length = 16 := by rw [length_i64s, length_cl]
    have hlen1 : (u32s (fl (nats l))).length = 16 := by rw [length_u32s, length_fl]
    clear hok
    have hnl := length_nats l
    have h300 := (okLens_spec HO.out).1
    go_wp2_with (first
      | (refine wpList_storeBlk rfl 160 _ _ rfl w2.heap.size rfl _ rfl 160 _ (Blk.new w2 (i64s (List.replicate 16 0)) 160) (by kernel_rfl) hlen0 (i64s_one _) ?_; intro w3 hB3 hU3)
      | (refine wpList_loadBlk rfl 160 _ rfl w2.heap.size rfl 160 _ hB3 _ Tryz.underlying160 rfl (by rw [hlen0]; kernel_rfl) ?_))
    refine (firsts_any (nats l) _ hps).mono ?_
    rintro e w4 ⟨rfl, hU4⟩
    have hU34 : Upd [] w w4 := (((hU1.then hU2).alloc _).trans hU3 (fun k hk => by simp at hk; right; have := (hU1.then hU2).size; omega)).then hU4
    clear hB3 hU3 hU4 hU2 hU1
    go_wp2_with (first
      | (refine wpList_storeBlk rfl 163 _ _ rfl w4.heap.size rfl _ rfl 163 _ (Blk.new w4 (u32s (List.replicate 16 0)) 163) (by kernel_rfl) hlen1 (u32s_one _) ?_; intro w5 hB5 hU5)
      | (refine wpList_mk _ rfl _ _ 105 rfl 53 i0 _ Tryz.underlying105 hi0 hz0 hz1 rfl .i64 .i64 _ _ l.length rfl rfl rfl rfl (by rw [hz2]; omega) (by unfold maxLen; omega) ?_; intro w6 hR6 hU6 hs6))
    have hU56 : Upd [] w w6 := ((hU34.alloc _).trans hU5 (fun k hk => by simp at hk; right; have := hU34.size; omega)).then hU6
    have hB6 := hB5.upd hU6 (by simp)
    have hg5 : w4.heap.size < w5.heap.size := hB5.lt
    have hwg : w.heap.size ≤ w5.heap.size := by have := hU34.size; omega
    have hwx : w.heap.size ≤ w4.heap.size := hU34.size
    generalize w5.heap.size = g at *
    generalize w4.heap.size = bx at *
    clear hB5 hU5 hU6 hU34
    have hpb := Lib.hid (fun k hk => fst_cnt (nats l) hps k hk)
    have hRel0 : CodesRel w (nats l) bx g 0 w6 := by
      refine ⟨by rw [nx_0]; exact hB6, ?_, hU56⟩
      rw [outp_0, hnl]
      have e : u32s (List.replicate l.length 0) = List.replicate l.length (.int .u32 0) := by simp [u32s]
      rw [e]; exact hR6
    clear hB6 hR6 hU56 hs6 hps
    go_loopg [24] l.length (fun gg s24 wr => ∃ i, i ≤ l.length ∧ gg = l.length - i ∧ s24 = .int .i64 (i : Nat) ∧ CodesRel w (nats l) bx g i wr)
    case atStart => exact ⟨0, by omega, rfl, rfl, hRel0⟩
    case round =>
      obtain ⟨i, hin, rfl, rfl, hB, hR, hU⟩ := hrel
      clear hRel0
      by_cases hc : i < l.length
      · have hcz : (i : Int) < (l.length : Int) := by omega
        obtain ⟨b, off, rfl, c0, r1, r2⟩ := (HI.out.pure hU).cell i hc
        have hkk := (okLens_spec HO.out).2 _ (List.getElem_mem hc)
        obtain ⟨k, hk⟩ : ∃ k : Nat, l[i] = (k : Int) := ⟨l[i].toNat, by omega⟩
        have hin' : i < (nats l).length := by omega
        have hnk : (nats l)[i] = k := by simp [nats, hk]
        rw [hk] at c0 hkk
        have hk16 : k < 16 := by omega
        clear hk r1 r2
        by_cases hk0 : k = 0
        · subst hk0
          have h1 := Lib.hid (nx_same (nats l) i hin' hnk)
          have h2 := Lib.hid (outp_same (nats l) i hin' hnk)
          have c0' : wr.cell? ⟨b, off + i, none⟩ = some (.int .i64 0) := c0
          clear c0 hnk
          go_wp2
          go_roundg (l.length - (i + 1))
          case measure => omega
          case rel => exact ⟨i + 1, by omega, rfl, by go_num, by rw [h1.out]; exact hB, by rw [h2.out]; exact hR, hU⟩
        · have h1 := Lib.hid (nx_set (nats l) i hin' (by omega))
          have h2 := Lib.hid (outp_set (nats l) i)
          have h3 := codeAt_pos (nats l) i hin' (by omega)
          rw [hnk] at h1 h3
          have hpos : (0 : Int) < (k : Int) := by omega
          have hle := hpb.out k (by omega)
          have hp15 : 2 ^ k ≤ 2 ^ 15 := Nat.pow_le_pow_right (by omega) (by omega)
          have hct := cnt_take_le (nats l) i k
          have d1 := hB.cell k (u32s_get _ _ _ (nx_get (nats l) i k hk16))
          have f1 := hB.frz k
          obtain ⟨xo, hxo⟩ : ∃ x, (u32s (outp (nats l) i))[i]? = some x := ⟨_, List.getElem?_eq_getElem (by rw [length_u32s, length_outp]; omega)⟩
          have d2 := Row.cell hR i hxo
          have f2 := Row.frz hR i
          have hne : bx ≠ g := by omega
          rw [h3] at h2
          have H1 := Lib.hid h1
          have H2 := Lib.hid h2
          clear h1 h2 h3 hnk hxo
          have hq : fst (nats l) k + cnt ((nats l).take i) k ≤ 32768 := by omega
          clear hle hct hp15
          generalize fst (nats l) k + cnt ((nats l).take i) k = q at *
          go_wp2
          go_roundg (l.length - (i + 1))
          case measure => omega
          case rel =>
            refine ⟨i + 1, by omega, rfl, by go_num, ?_, ?_, (hU.setCell (.inr hwg) _).setCell (.inr hwx) _⟩
            · rw [← H1.out, u32s_set]
              exact (hB.setFar _ hne).set k _
            · rw [← H2.out, u32s_set, hnl]
              rw [hnl] at hR
              exact (hR.set i _).setFar _ (by simp [Value.ownBlock]; omega)
      · have hi : i = l.length := by omega
        have hcz : ¬ (i : Int) < (l.length : Int) := by omega
        rw [hi, hnl] at hR
        have e : outp (nats l) l.length = codes (nats l) := by rw [← hnl]; exact outp_all _
        rw [e] at hR
        clear hi e
        go_wp2
        go_returns
        exact ⟨hU, .inr ⟨H3.out, g, rfl, hwg, hR⟩⟩
theorem turn_val (X K i q : Nat) (hX : X < 4294967296) (hq : q < 4294967296) (hi : i < K) (hK : K ≤ 32) :
    bits BinOp.or IntKind.u32 (q : Int) (bits BinOp.and IntKind.u32 ((X : Int) / 2 ^ i) 1 * 2 ^ (K - 1 - i) % 4294967296) = ((q ||| X / 2 ^ i % 2 * 2 ^ (K - 1 - i) : Nat) : Int) := by
  have h0 : X / 2 ^ i < 4294967296 := Nat.lt_of_le_of_lt (Nat.div_le_self _ _) hX
  have e1 : (X : Int) / 2 ^ i = ((X / 2 ^ i : Nat) : Int) := by simp
  have e2 : (2 : Int) ^ (K - 1 - i) = ((2 ^ (K - 1 - i) : Nat) : Int) := by simp
  have h1 : bits BinOp.and IntKind.u32 ((X / 2 ^ i : Nat) : Int) 1 = ((X / 2 ^ i % 2 : Nat) : Int) := by
    have := u32_and_nat (X / 2 ^ i) 1 h0 (by omega)
    rw [nat_mask1] at this
    exact this
  have h2 : X / 2 ^ i % 2 < 2 := Nat.mod_lt _ (by omega)
  have h3 : 2 ^ (K - 1 - i) ≤ 2 ^ 31 := Nat.pow_le_pow_right (by omega) (by omega)
  have h4 : X / 2 ^ i % 2 * 2 ^ (K - 1 - i) ≤ 1 * 2 ^ 31 := Nat.mul_le_mul (by omega) h3
  rw [e1, h1, e2, ← Int.natCast_mul]
  have h5 : ((X / 2 ^ i % 2 * 2 ^ (K - 1 - i) : Nat) : Int) % 4294967296 = ((X / 2 ^ i % 2 * 2 ^ (K - 1 - i) : Nat) : Int) := by omega
  rw [h5]
  exact u32_or_nat _ _ hq (by omega)

set_option maxRecDepth 100000 in
set_option maxHeartbeats 1600000 in
theorem turned_any (X K : Nat) (x k : Int) (w : World) (hx : x = (X : Nat)) (hX : X < 4294967296) (hK32 : K ≤ 32) (hK : Hid ((K : Int) = max 0 (min k 32))) :
    Calls Tryz.prog 84 #[.int .u32 x, .int .i64 k] w fun e w' => e = .returned (.int .u32 (turnN X K : Nat)) ∧ w = w' := by
  subst hx
  go_enter Tryz.func84, Tryz.ntmps84
  go_upto_region 1 with fail
  go_cut [1] (fun s1 wx => s1 = .int .i64 (K : Nat) ∧ w = wx)
  case first =>
    go_wp2
    all_goals go_meet
    all_goals (refine ⟨?_, rfl⟩; first | (rw [hK.out]; done) | (rw [hK.out]; congr 1; omega))
  case rest =>
    obtain ⟨rfl, rfl⟩ := hcut
    have hK0 : (0 : Int) ≤ (K : Int) := by omega
    go_wp2
    go_loopg [4, 10] K (fun g s4 s10 wx => ∃ i, i ≤ K ∧ g = K - i ∧ s10 = .int .i64 (i : Nat) ∧ s4 = .int .u32 ((turnN X i * 2 ^ (K - i) : Nat) : Int) ∧ w = wx)
    case atStart => exact ⟨0, by omega, rfl, rfl, by simp [turnN], rfl⟩
    case round =>
      obtain ⟨i, hi, rfl, rfl, rfl, rfl⟩ := hrel
      by_cases hc : i < K
      · have hcz : (i : Int) < (K : Int) := by omega
        have hst := Lib.hid (turn_step X K i hc)
        have hbd := turn_bound X K i hi hK32
        generalize turnN X i * 2 ^ (K - i) = q at *
        go_wp2
        go_roundg (K - (i + 1))
        case measure => omega
        case rel =>
          refine ⟨i + 1, by omega, rfl, by go_num, ?_, rfl⟩
          rw [← hst.out, turn_val X K i q hX hbd hc hK32]
      · have hiK : i = K := by omega
        have hcz : ¬ (i : Int) < (K : Int) := by omega
        have e : turnN X i * 2 ^ (K - i) = turnN X K := by rw [hiK]; simp
        rw [e]
        clear e
        go_wp2
        go_returns
        exact ⟨rfl, rfl⟩
end Go.Proofs.YtdehkaknbmbieaaGreat
namespace Go.Proofs.YtdehkaknbmbieaaGreat
set_option linter.unusedVariables false
set_option linter.unusedSimpArgs false
set_option linter.unusedSectionVars false
open Go.RowKit
set_option linter.unusedVariables false

/-- A symbol's bits; may symbols be written? -/
def symBits (n : List Nat) (i : Nat) : List Bool := low (n.getD i 0) (turnN (codeAt n i) (n.getD i 0))
def mayB (n : List Nat) (s : Int) : Bool := decide (0 ≤ s) && decide (s < (n.length : Int)) && decide (n.getD s.toNat 0 ≠ 0)
def mayAll (n : List Nat) (m : List Int) : Bool := m.all (mayB n)
def msgBits (n : List Nat) (m : List Int) : List Bool := m.flatMap fun s => symBits n s.toNat
theorem length_symBits (n : List Nat) (i : Nat) : (symBits n i).length = n.getD i 0 := by rw [symBits, length_low]
theorem mayAll_at {n : List Nat} {m : List Int} {i : Nat} (h : i < m.length) (h1 : mayAll n m = true) : mayB n m[i] = true := by
  unfold mayAll at h1
  rw [List.all_eq_true] at h1
  exact h1 _ (List.getElem_mem h)
theorem msgBits_take (n : List Nat) {m : List Int} {i : Nat} (h : i < m.length) : msgBits n (m.take (i + 1)) = msgBits n (m.take i) ++ symBits n (m[i]).toNat := by
  unfold msgBits; rw [take_snoc' m i h, List.flatMap_append, List.flatMap_cons, List.flatMap_nil, List.append_nil]
theorem msgBits_le (n : List Nat) (m : List Int) (h : ∀ x ∈ n, x ≤ 15) : (msgBits n m).length ≤ 15 * m.length := by
  induction m with
  | nil => simp [msgBits]
  | cons x m ih =>
    have e : msgBits n (x :: m) = symBits n x.toNat ++ msgBits n m := rfl
    rw [e, List.length_append, length_symBits, List.length_cons]
    have : n.getD x.toNat 0 ≤ 15 := by
      rw [List.getD]
      by_cases hx : x.toNat < n.length
      · rw [List.getElem?_eq_getElem hx]; exact h _ (List.getElem_mem hx)
      · rw [List.getElem?_eq_none (by omega)]; simp
    omega

/-- Behind Write. -/
def WritePost (w : World) (b : Nat) (v : Value) (L : List Bool) (ok : Bool) (bits : List Bool) (e : Ending) (w' : World) : Prop :=
  e = .returned (.bool ok) ∧ ∃ v', WrAt w' b v' (L ++ bits) ((L ++ bits).length / 8) ∧ Upd (wrFp b v) w w' ∧ Later w v v'

theorem codes_getD (n : List Nat) (i : Nat) (h : i < n.length) : (codes n)[i]? = some (codeAt n i) := by simp [codes, h]
theorem codeAt_lt (n : List Nat) (hps : psum n 16 ≤ 32768) (h15 : ∀ x ∈ n, x ≤ 15) (i : Nat) (h : i < n.length) : codeAt n i < 32768 ∧ codeAt n i < 2 ^ (n.getD i 0) := by
  have hle : n.getD i 0 ≤ 15 := by rw [List.getD, List.getElem?_eq_getElem h]; exact h15 _ (List.getElem_mem h)
  have hb := fst_cnt n hps (n.getD i 0) hle
  have hp : 2 ^ (n.getD i 0) ≤ 2 ^ 15 := Nat.pow_le_pow_right (by omega) hle
  unfold codeAt
  by_cases h0 : n.getD i 0 = 0
  · rw [if_pos h0, h0]; omega
  · rw [if_neg h0]
    have hc := count_le_of n i _ h rfl
    have hcn : cnt n (n.getD i 0) = n.count (n.getD i 0) := by unfold cnt; rw [if_neg h0]
    omega

set_option maxRecDepth 100000 in
set_option maxHeartbeats 3200000 in
theorem write_any (b : Nat) (v : Value) (L : List Bool) (x y : Option Addr) (cx cy : Nat) (l m : List Int) (w : World) (hm : m.length ≤ 100000000) (hI : ∀ w', Upd (wrFp b v) w w' → IntsIn w' x l.length l) (hM : ∀ w', Upd (wrFp b v) w w' → IntsIn w' y m.length m)
    (hW : WrAt w b v L (L.length / 8)) (hL : L.length ≤ 1000000000000)
    (hk3 : kindOf l ≠ 3) (hmay : mayAll (nats l) m = true) :
    Calls Tryz.prog 46 #[.pointer (some ⟨b, 0, none⟩), .slice x l.length cx, .slice y m.length cy] w (WritePost w b v L true (msgBits (nats l) m)) := by
  obtain ⟨hok, hps⟩ := kindOf_ok hk3
  have HO := Lib.hid hok
  have hnl := length_nats l
  have h300 := (okLens_spec hok).1
  have h15 := Lib.hid (nats_le hok)
  have hcl := Lib.hid (fun i h => codeAt_lt (nats l) hps h15.out i h)
  have hC := codes_any x l.length cx l w (by omega) (hI w (.refl _ _))
  have HI := Lib.hid hI
  have HM := Lib.hid hM
  have HK := Lib.hid hk3
  have HY := Lib.hid hmay
  have hwb := hW.blk.lt
  have hwv := hW.row.lt
  clear hI hM hok hps hk3 hmay
  go_enter Tryz.func46, Tryz.ntmps46
  go_wp2_with fail
  refine hC.mono ?_
  rintro e w1 ⟨hU1, ⟨h3, _⟩ | ⟨h3, g, rfl, hg, hR⟩⟩
  · exact absurd h3 HK.out
  · clear h3
    have hUv : Upd (wrFp b v) w w1 := hU1.mono (by simp)
    have hW1 := hW.upd hU1 (by simp) (by simp)
    have hR1 := Lib.hid (fun w' (hU : Upd (wrFp b v) w1 w') => Row.upd hR hU (fun k hk hmm => by
      simp [Value.ownBlock] at hk
      simp only [wrFp, List.mem_cons] at hmm
      rcases hmm with h | h
      · omega
      · have := hwv k (by simpa using h); omega))
    have hI1 := HI.out _ hUv
    have hM1 := HM.out _ hUv
    clear hR hW
    go_wp2
    go_loopg [16] m.length (fun g s16 wr => ∃ i, i ≤ m.length ∧ g = m.length - i ∧ s16 = .int .i64 (i : Nat) ∧ w1 = wr)
    case atStart => exact ⟨0, by omega, rfl, rfl, rfl⟩
    case round =>
      obtain ⟨i, hin, rfl, rfl, rfl⟩ := hrel
      by_cases hc : i < m.length
      · have hcz : (i : Int) < (m.length : Int) := by omega
        obtain ⟨bm, off, rfl, c0, r1, r2⟩ := hM1.cell i hc
        have hmb := mayAll_at hc HY.out
        simp only [mayB, Bool.and_eq_true, decide_eq_true_eq] at hmb
        generalize m[i] = s at *
        obtain ⟨S, rfl⟩ : ∃ S : Nat, s = (S : Int) := ⟨s.toNat, by omega⟩
        have hSl : S < l.length := by omega
        obtain ⟨bx, offx, rfl, d0, q1, q2⟩ := hI1.cell S hSl
        have hkk := (okLens_spec HO.out).2 _ (List.getElem_mem hSl)
        obtain ⟨k, hk⟩ : ∃ k : Nat, l[S] = (k : Int) := ⟨(l[S]).toNat, by omega⟩
        have hnd : (nats l).getD S 0 = k := by rw [List.getD, List.getElem?_eq_getElem (by omega)]; simp [nats, hk]
        rw [hk] at d0
        rw [Int.toNat_natCast, hnd] at hmb
        have hkf : ((k : Int) == 0) = false := by simp; omega
        have hlf : decide ((l.length : Int) ≤ (S : Int)) = false := by simp; omega
        clear hmb hkk hk hnd q1 q2
        go_wp2
        go_roundg (m.length - (i + 1))
        case measure => omega
        case rel => exact ⟨i + 1, by omega, rfl, by go_num, rfl⟩
      · have hcz : ¬ (i : Int) < (m.length : Int) := by omega
        have hi : i = m.length := by omega
        clear hi hc hin hI1 hM1
        go_wp2
        go_loopg [38] m.length (fun g s38 wr => ∃ j v', j ≤ m.length ∧ g = m.length - j ∧ s38 = .int .i64 (j : Nat) ∧ WrAt wr b v' (L ++ msgBits (nats l) (m.take j)) ((L ++ msgBits (nats l) (m.take j)).length / 8) ∧ Upd (wrFp b v) w1 wr ∧ Later w1 v v')
        case atStart => exact ⟨0, v, by omega, rfl, rfl, by simpa [msgBits] using hW1, .refl _ _, .refl _ _⟩
        case round =>
          obtain ⟨j, v', hjn, rfl, rfl, hWj, hUj, hTj⟩ := hrel
          clear hW1
          by_cases hcj : j < m.length
          · have hcz2 : (j : Int) < (m.length : Int) := by omega
            have hUj2 : Upd (wrFp b v) w wr := hUv.then hUj
            obtain ⟨bm, off, rfl, c0, r1, r2⟩ := (HM.out _ hUj2).cell j hcj
            have hmb := mayAll_at hcj HY.out
            simp only [mayB, Bool.and_eq_true, decide_eq_true_eq] at hmb
            have hms := msgBits_take (nats l) hcj
            have hlb := msgBits_le (nats l) (m.take j) h15.out
            have hlt : (m.take j).length ≤ j := by simp; omega
            generalize m[j] = s at *
            obtain ⟨S, rfl⟩ : ∃ S : Nat, s = (S : Int) := ⟨s.toNat, by omega⟩
            have hSl : S < l.length := by omega
            obtain ⟨bx, offx, rfl, d0, q1, q2⟩ := (HI.out _ hUj2).cell S hSl
            have hkk := (okLens_spec HO.out).2 _ (List.getElem_mem hSl)
            obtain ⟨k, hk⟩ : ∃ k : Nat, l[S] = (k : Int) := ⟨(l[S]).toNat, by omega⟩
            have hnd : (nats l).getD S 0 = k := by rw [List.getD, List.getElem?_eq_getElem (by omega)]; simp [nats, hk]
            rw [hk] at d0 hkk
            have d2 := Row.cell (hR1.out _ hUj) S (u32s_get _ _ _ (codes_getD (nats l) S (by omega)))
            have hcc := hcl.out S (by omega)
            have hsb : symBits (nats l) S = low k (turnN (codeAt (nats l) S) k) := by unfold symBits; rw [hnd]
            rw [Int.toNat_natCast, hsb] at hms
            rw [hnd] at hcc
            have hms2 := Lib.hid (show L ++ msgBits (nats l) (m.take (j + 1)) = (L ++ msgBits (nats l) (m.take j)) ++ low k (turnN (codeAt (nats l) S) k) by rw [hms, List.append_assoc])
            have htn := turnN_lt (codeAt (nats l) S) k
            have hlen2 : (L ++ msgBits (nats l) (m.take j)).length ≤ 1099511627776 := by rw [List.length_append]; omega
            clear hmb hk hnd q1 q2 hms hsb hlb hlt r1 r2
            generalize L ++ msgBits (nats l) (m.take j) = M at *
            have hTu := turned_any (codeAt (nats l) S) k (codeAt (nats l) S : Nat) (k : Nat) wr.drew rfl (by omega) (by omega) (Lib.hid (by omega))
            have hBi := bits_any b (turnN (codeAt (nats l) S) k) (turnN (codeAt (nats l) S) k : Nat) (k : Nat) k wr.drew v' M rfl (Nat.lt_of_lt_of_le htn (Nat.le_trans (Nat.pow_le_pow_right (by omega) (show k ≤ 15 by omega)) (by decide))) (hWj.upd ((Upd.refl [] _).drew) (by simp) (by simp)) (by omega) (by omega) (Lib.hid (by omega))
            have HTu := Lib.hid hTu
            have HBi := Lib.hid hBi
            have htb : turnN (codeAt (nats l) S) k < 4294967296 := Nat.lt_of_lt_of_le htn (Nat.le_trans (Nat.pow_le_pow_right (by omega) (show k ≤ 15 by omega)) (by decide))
            clear hTu hBi htn
            generalize turnN (codeAt (nats l) S) k = t at *
            generalize codeAt (nats l) S = c at *
            go_wp2
            refine wp_region_still_tail 14 (by kernel_rfl) (by kernel_rfl) ?_
            simp only [List.take_succ_cons, List.take_zero, List.drop_succ_cons, List.drop_zero]
            repeat still_step
            still_call (HTu.out.mono fun e w' ⟨he, hw⟩ => ⟨he, hw.symm⟩)
            repeat still_step
            try refine wpStill_nil ?_
            change wpList _ _ _ _ _ wr.drew
            go_wp2_with fail
            refine HBi.out.mono ?_
            rintro e w3 ⟨rfl, v3, hW3, hU3, hT3⟩
            go_wp2
            go_roundg (m.length - (j + 1))
            case measure => omega
            case rel =>
              refine ⟨j + 1, v3, by omega, rfl, by go_num, by rw [hms2.out]; exact hW3, (hUj.drew).trans hU3 ?_, hTj.trans hUj.size hT3⟩
              intro q hq
              simp only [wrFp, List.mem_cons] at hq ⊢
              rcases hq with h | h
              · exact .inl (.inl h)
              · exact (hTj.fp q h).imp .inr id
          · have hj : j = m.length := by omega
            have hcz2 : ¬ (j : Int) < (m.length : Int) := by omega
            rw [hj, List.take_length] at hWj
            clear hj
            go_wp2
            go_returns
            refine ⟨rfl, v', hWj, hUv.then hUj, ?_⟩
            exact hTj.imp id fun ⟨g', h1, h2⟩ => ⟨g', h1, Nat.le_trans hU1.size h2⟩
end Go.Proofs.YtdehkaknbmbieaaGreat

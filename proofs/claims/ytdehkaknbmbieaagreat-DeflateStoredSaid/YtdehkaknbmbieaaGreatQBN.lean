/- The walks of the reference's reader of bits (swingleref03): Bit, R.Bits, R.Align, R.Text. -/
import Derived.Test.YtdehkaknbmbieaaGreatQBM
import Derived.WalkLawsBesides
namespace Go.Proofs.YtdehkaknbmbieaaGreat
set_option linter.unusedVariables false
set_option linter.unusedSimpArgs false
set_option linter.unusedSectionVars false
open Go.RowKit
set_option linter.unusedVariables false

theorem ret_int {k : IntKind} {a b : Int} (h : a = b) : Ending.returned (.int k a) = .returned (.int k b) := by rw [h]
theorem rdVal_bit (s : ByteArray) (i : Nat) (h : i < 8 * s.size) : rdVal s i 1 = (s[i / 8]'(by omega)).toNat / 2 ^ (i % 8) % 2 := by
  have := rdVal_byte s (i / 8) (i % 8) 1 (by omega) (by omega)
  rw [show 8 * (i / 8) + i % 8 = i by omega] at this
  exact this

set_option maxHeartbeats 1600000 in
theorem bit_any (s : ByteArray) (i : Nat) (w : World) (h : i < 8 * s.size) (hs : s.size ≤ 1099511627776) :
    Calls Tryz.prog 96 #[.string s, .int .i64 (i : Nat)] w fun e w' => e = .returned (.int .u32 (rdVal s i 1 : Nat)) ∧ w = w' := by
  have hv := Lib.hid (rdVal_bit s i h)
  obtain ⟨q, f, hqf, hf⟩ : ∃ q f, i = 8 * q + f ∧ f ≤ 7 := ⟨i / 8, i % 8, by omega, by omega⟩
  have hq : i / 8 = q := by omega
  have hm : i % 8 = f := by omega
  have hqs : q < s.size := by omega
  have hbv : Hid (rdVal s i 1 = s[q].toNat / 2 ^ f % 2) := Lib.hid (by rw [hv.out]; subst hq hm; rfl)
  have h1 : (i : Int) / 8 = (q : Int) := by omega
  have h2 : (i : Int) % 8 = (f : Int) := by omega
  have hqz : (q : Int) < (s.size : Int) := by omega
  have hlt := s[q].toNat_lt
  clear hq hm hv hqf
  generalize rdVal s i 1 = r at *
  go_enter Tryz.func96, Tryz.ntmps96
  go_wp2
  have hx : s[q].toNat ≤ 255 := by omega
  clear hlt
  generalize s[q].toNat = x at *
  go_loopg [5, 6] f (fun g s5 s6 wx => ∃ k, k ≤ f ∧ g = f - k ∧ s6 = .int .i64 (k : Nat) ∧ s5 = .int .i64 ((x / 2 ^ k : Nat) : Int) ∧ w = wx)
  case atStart => exact ⟨0, by omega, rfl, rfl, by simp; try omega, rfl⟩
  case round =>
    obtain ⟨k, hk, rfl, rfl, rfl, rfl⟩ := hrel
    have hxk : x / 2 ^ k ≤ 255 := Nat.le_trans (Nat.div_le_self _ _) hx
    by_cases hc : k < f
    · have hcz : (k : Int) < (f : Int) := by omega
      have hd := Lib.hid (show x / 2 ^ k / 2 = x / 2 ^ (k + 1) by rw [Nat.div_div_eq_div_mul, Nat.pow_succ])
      generalize x / 2 ^ k = y at *
      go_wp2
      go_roundg (f - (k + 1))
      case measure => omega
      case rel => exact ⟨k + 1, by omega, rfl, by go_num, by rw [← hd.out]; simp, rfl⟩
    · have hcz : ¬ (k : Int) < (f : Int) := by omega
      have hkf : k = f := by omega
      rw [← hkf] at hbv
      generalize x / 2 ^ k = y at *
      clear hkf
      go_wp2
      go_returns
      exact ⟨ret_int (by have := hbv.out; omega), rfl⟩
/-- A step of the loop in R.Bits. -/
theorem rd_step (v o r i : Nat) (hv : v < 2 ^ i) (ho : o = 2 ^ i) (hi : i < 32) (hr : r < 2) : v + o * r < 2 ^ (i + 1) ∧ 2 * o = 2 ^ (i + 1) ∧ 2 ^ (i + 1) ≤ 4294967296 := by
  subst ho
  have h3 : 2 ^ (i + 1) ≤ 2 ^ 32 := Nat.pow_le_pow_right (by omega) (by omega)
  have h4 : 2 ^ i * r ≤ 2 ^ i * 1 := Nat.mul_le_mul_left _ (by omega)
  rw [Nat.pow_succ] at *
  omega

set_option maxRecDepth 100000 in
set_option maxHeartbeats 3200000 in
theorem rrbits_any (b : Nat) (n : Int) (w : World) (s : ByteArray) (a : Nat) (bad : Bool) (hR : RdAt w b 67 s a bad) (hs : s.size ≤ 1099511627776) :
    Calls Tryz.prog 57 #[.pointer (some ⟨b, 0, none⟩), .int .i64 n] w
      (RdPost w b 67 s (.int .u32 (rdNum s a bad n : Nat)) (rdTo s a bad n) (rdBad s a bad n)) := by
  have h0 := hR.1.cell 0 rfl
  have h1 := hR.1.cell 1 rfl
  have h2 := hR.1.cell 2 rfl
  have f2 := hR.1.frz 2
  cases hb : rdBad s a bad n with
  | true =>
    have e1 : rdNum s a bad n = 0 := by unfold rdNum; rw [if_pos hb]
    have e2 : rdTo s a bad n = a := by unfold rdTo; rw [if_pos hb]
    rw [e1, e2]
    have hfin : ∀ k, RdPost w b 67 s (.int .u32 0) a true (.returned (.int .u32 0)) ((w.drewN k).setCell ⟨b, 2, none⟩ (.bool true)) := fun k =>
      ⟨rfl, ⟨(hR.1.drewN k).set 2 _, hR.2⟩, ((Upd.refl _ _).drewN k).setCell (.inl (by simp)) _⟩
    have H1 := Lib.hid hfin
    clear hfin e1 e2
    cases bad with
    | true =>
      clear hb
      go_enter Tryz.func57, Tryz.ntmps57
      go_wp2
      go_quiet (fail)
      go_wp2
      go_returns
      exact H1.out _
    | false =>
      simp only [rdBad, Bool.false_or, Bool.or_eq_true, decide_eq_true_eq] at hb
      by_cases hn : n < 0
      · have d1 : decide (n < 0) = true := by simpa using hn
        clear hb hn
        go_enter Tryz.func57, Tryz.ntmps57
        go_wp2
        go_quiet (fail)
        go_wp2
        go_returns
        exact H1.out _
      · have d1 : decide (n < 0) = false := by simpa using hn
        by_cases hn2 : 32 < n
        · have d2 : decide (32 < n) = true := by simpa using hn2
          clear hb
          go_enter Tryz.func57, Tryz.ntmps57
          go_wp2
          go_quiet (fail)
          go_wp2
          go_returns
          exact H1.out _
        · have d2 : decide (32 < n) = false := by simpa using hn2
          have hle := hR.2
          have hn3 : 8 * (s.size : Int) - (a : Int) < n := by omega
          have d3 : decide (8 * (s.size : Int) - (a : Int) < n) = true := by simpa using hn3
          clear hb
          go_enter Tryz.func57, Tryz.ntmps57
          go_wp2
          go_quiet (fail)
          go_wp2
          go_returns
          exact H1.out _
  | false =>
    have e0 := hb
    simp only [rdBad, Bool.or_eq_false_iff, decide_eq_false_iff_not] at hb
    obtain ⟨⟨⟨rfl, hn0⟩, hn32⟩, hnl⟩ := hb
    have e1 : rdNum s a false n = rdVal s a n.toNat := by unfold rdNum; rw [if_neg (by rw [e0]; decide)]
    have e2 : rdTo s a false n = a + n.toNat := by unfold rdTo; rw [if_neg (by rw [e0]; decide)]
    rw [e1, e2]
    obtain ⟨N, rfl⟩ : ∃ N : Nat, n = (N : Int) := ⟨n.toNat, by omega⟩
    have hle := hR.2
    have hN : a + N ≤ 8 * s.size := by omega
    have hN32 : N ≤ 32 := by omega
    rw [Int.toNat_natCast]
    have d1 : decide ((N : Int) < 0) = false := by simp
    have d2 : decide ((32 : Int) < (N : Int)) = false := by simp; omega
    have d3 : decide (8 * (s.size : Int) - (a : Int) < (N : Int)) = false := by simp; omega
    have hRel : ∀ k, RdRel w b 67 s (a + 0) (w.drewN k) := fun k => ⟨⟨hR.1.drewN k, by omega⟩, (Upd.refl _ _).drewN k⟩
    have H0 := Lib.hid hRel
    clear hRel e0 e1 e2 hnl hn32 hn0
    go_enter Tryz.func57, Tryz.ntmps57
    go_wp2
    go_quiet (fail)
    have hRk := H0.out nq
    clear H0 h0 h1 h2 f2
    generalize w.drewN nq = w1 at *
    go_wp2
    go_loopg [5, 6, 7] N (fun g s5 s6 s7 wr => ∃ i, i ≤ N ∧ g = N - i ∧ s7 = .int .i64 (i : Nat) ∧ s5 = .int .u64 (rdVal s a i : Nat) ∧ s6 = .int .u64 ((2 ^ i : Nat) : Int) ∧ RdRel w b 67 s (a + i) wr)
    case atStart => exact ⟨0, by omega, rfl, rfl, by rw [rdVal_zero]; rfl, rfl, hRk⟩
    case round =>
      obtain ⟨i, hi, rfl, rfl, rfl, rfl, hRr, hU⟩ := hrel
      clear hRk
      have k0 := hRr.1.cell 0 rfl
      have k1 := hRr.1.cell 1 rfl
      have g1 := hRr.1.frz 1
      have hvl := rdVal_lt s a i
      by_cases hc : i < N
      · have hcz : (i : Int) < (N : Int) := by omega
        have hB := fun w' => bit_any s (a + i) w' (by omega) hs
        have HB := Lib.hid hB
        have hbl := rdVal_lt s (a + i) 1
        have hst := rd_step (rdVal s a i) (2 ^ i) (rdVal s (a + i) 1) i hvl rfl (by omega) (by omega)
        have hsum := Lib.hid (rdVal_add s a i 1 (by omega))
        have hpw := Lib.hid hst.2.1
        have hag : a + i ≤ 8796093022208 := by omega
        obtain ⟨ag, hag2⟩ : ∃ x, x = a + i := ⟨_, rfl⟩
        rw [← hag2] at HB k1 hbl hst hsum hag
        have HAG := Lib.hid hag2
        clear hB hag2
        generalize rdVal s a i = v at *
        generalize rdVal s ag 1 = r at *
        obtain ⟨p, hp⟩ : ∃ p, p = 2 ^ i := ⟨_, rfl⟩
        rw [← hp] at hst hsum hpw hvl ⊢
        obtain ⟨hst1, hst2, hst3⟩ := hst
        have hb0 : ((v + p * r : Nat) : Int) ≤ 4294967296 := by omega
        have hb1 : (v : Int) + (p : Int) * (r : Int) ≤ 4294967296 := by simpa using hb0
        have hb2 : (0 : Int) ≤ (p : Int) * (r : Int) := Int.mul_nonneg (by omega) (by omega)
        have hb3 : (p : Int) ≤ 4294967296 := by omega
        clear hp hst2 hst1 hst3 hvl hb0
        go_wp2
        go_quiet ((go_at_call 96; exact Calls.quiet_of_same ((HB.out _).mono fun e w' ⟨he, hw⟩ => ⟨he, hw.symm⟩)))
        go_wp2
        go_roundg (N - (i + 1))
        case measure => omega
        case rel =>
          refine ⟨i + 1, by omega, rfl, by go_num, ?_, ?_, ?_, ?_⟩
          · rw [hsum.out]; simp
          · rw [← hpw.out]; simp
          · have e : (ag : Int) + 1 = ((a + (i + 1) : Nat) : Int) := by have := HAG.out; omega
            rw [e]
            exact ⟨(hRr.1.drewN _).set 1 _, by omega⟩
          · exact (hU.drewN _).setCell (.inl (by simp)) _
      · have hiN : i = N := by omega
        rw [hiN] at hRr hvl ⊢
        have hcz2 : ¬ (N : Int) < (N : Int) := by omega
        have hp32 : 2 ^ N ≤ 2 ^ 32 := Nat.pow_le_pow_right (by omega) (by omega)
        have hv32 : rdVal s a N < 4294967296 := by omega
        clear hiN hvl hc
        generalize rdVal s a N = v at *
        generalize 2 ^ N = p at *
        go_wp2
        go_returns
        exact ⟨ret_int (by omega), hRr, hU⟩
end Go.Proofs.YtdehkaknbmbieaaGreat
namespace Go.Proofs.YtdehkaknbmbieaaGreat
set_option linter.unusedVariables false
set_option linter.unusedSimpArgs false
set_option linter.unusedSectionVars false
open Go.RowKit
set_option linter.unusedVariables false

/-- A symbol from bit a on, k being the length that is to be looked at, c the code so far: the symbol, where it ends, whether the bits ended first. -/
def nxtF (n : List Nat) (s : ByteArray) : Nat → Nat → Nat → Nat → Option Nat × Nat × Bool
  | 0, _, a, _ => (none, a, false)
  | f + 1, k, a, c => if a < 8 * s.size then
      match symAt n k (2 * c + rdVal s a 1) with
      | some x => (some x, a + 1, false)
      | none => nxtF n s f (k + 1) (a + 1) (2 * c + rdVal s a 1)
    else (none, a, true)
def nxt (n : List Nat) (s : ByteArray) (a : Nat) (bad : Bool) : Option Nat × Nat × Bool := if bad then (none, a, true) else nxtF n s 15 1 a 0
theorem nxtF_end {n : List Nat} {s : ByteArray} {f k a c : Nat} (h : ¬ a < 8 * s.size) : nxtF n s (f + 1) k a c = (none, a, true) := by simp [nxtF, h]
theorem nxtF_some {n : List Nat} {s : ByteArray} {f k a c x : Nat} (h : a < 8 * s.size) (hx : symAt n k (2 * c + rdVal s a 1) = some x) : nxtF n s (f + 1) k a c = (some x, a + 1, false) := by simp [nxtF, h, hx]
theorem nxtF_none {n : List Nat} {s : ByteArray} {f k a c : Nat} (h : a < 8 * s.size) (hx : symAt n k (2 * c + rdVal s a 1) = none) : nxtF n s (f + 1) k a c = nxtF n s f (k + 1) (a + 1) (2 * c + rdVal s a 1) := by simp [nxtF, h, hx]
def nxtVal (r : Option Nat × Nat × Bool) : Value := .tuple #[.int .i64 ((r.1.getD 0 : Nat) : Int), .bool r.1.isSome]

end Go.Proofs.YtdehkaknbmbieaaGreat
namespace Go.Proofs.YtdehkaknbmbieaaGreat
set_option linter.unusedVariables false
set_option linter.unusedSimpArgs false
set_option linter.unusedSectionVars false
open Go.RowKit
set_option linter.unusedVariables false

theorem idx_prefix (n : List Nat) (k i m : Nat) : ∃ r, idx n k (i + m) = idx n k i ++ r := by
  induction m with
  | zero => exact ⟨[], by simp⟩
  | succ m ih =>
    obtain ⟨r, hr⟩ := ih
    exact ⟨r ++ if n.getD (i + m) 0 = k then [i + m] else [], by rw [← Nat.add_assoc, idx_succ, hr, List.append_assoc]⟩
theorem symAt_code (n : List Nat) (i k : Nat) (h1 : 1 ≤ k) (hi : i < n.length) (hk : n.getD i 0 = k) : symAt n k (codeAt n i) = some i := by
  have hc : codeAt n i = fst n k + (n.take i).count k := by unfold codeAt; rw [if_neg (by omega), hk]
  have hlt := count_le_of n i k hi hk
  have hcn : cnt n k = n.count k := by unfold cnt; rw [if_neg (by omega)]
  unfold symAt
  rw [hc, if_pos ⟨by omega, by omega⟩, Nat.add_sub_cancel_left]
  obtain ⟨r, hr⟩ := idx_prefix n k (i + 1) (n.length - (i + 1))
  rw [show i + 1 + (n.length - (i + 1)) = n.length by omega, idx_succ, if_pos hk] at hr
  have hl := length_idx n k i (by omega)
  rw [hr, ← hl, List.append_assoc, List.getD, List.getElem?_append_right (by omega)]
  simp
theorem symAt_none' (n : List Nat) (k c : Nat) (h : ¬ (fst n k ≤ c ∧ c < fst n k + cnt n k)) : symAt n k c = none := by unfold symAt; rw [if_neg h]
theorem codes_get (n : List Nat) (i : Nat) (h : i < n.length) : (codes n)[i]? = some (codeAt n i) := by simp [codes, h]

set_option maxRecDepth 100000 in
set_option maxHeartbeats 3200000 in
theorem rnext_any (x : Option Addr) (cap g b : Nat) (l : List Int) (w : World) (s : ByteArray) (a : Nat) (bad : Bool) (hI : IntsIn w x l.length l)
    (hC : Row w 53 1 (.slice (some ⟨g, 0, none⟩) l.length l.length) l.length (u32s (codes (nats l))))
    (hR : RdAt w b 67 s a bad) (hs : s.size ≤ 1099511627776)
    (hx : ∀ b' off, x = some ⟨b', off, none⟩ → b' ∉ [b]) (hgb : g ≠ b) (hk3 : kindOf l ≠ 3) :
    Calls Tryz.prog 97 #[.slice x l.length cap, .slice (some ⟨g, 0, none⟩) l.length l.length, .pointer (some ⟨b, 0, none⟩)] w
      (RdPost w b 67 s (nxtVal (nxt (nats l) s a bad)) (nxt (nats l) s a bad).2.1 (nxt (nats l) s a bad).2.2) := by
  obtain ⟨hok, hps⟩ := kindOf_ok hk3
  clear hk3
  have hnl := length_nats l
  have h300 := (okLens_spec hok).1
  cases bad with
  | true =>
    have HB := Lib.hid (rrbits_any b 1 w s a true hR hs)
    have e1 : nxt (nats l) s a true = (none, a, true) := rfl
    rw [e1]
    have e2 : rdBad s a true 1 = true := rfl
    have e3 : rdTo s a true 1 = a := rfl
    have e4 : rdNum s a true 1 = 0 := rfl
    rw [e2, e3, e4] at HB
    clear e1 e2 e3 e4
    go_enter Tryz.func97, Tryz.ntmps97
    go_wp2
    refine wp_loop_rounds 1 ?_
    rw [rounds_succ]
    go_wp2_with fail
    refine HB.out.mono ?_
    rintro e w1 ⟨rfl, hR1, hU1⟩
    have k2 := hR1.1.cell 2 rfl
    go_wp2
    go_returns
    exact ⟨rfl, hR1, hU1⟩
  | false =>
    have e1 : nxt (nats l) s a false = nxtF (nats l) s 15 1 a 0 := rfl
    rw [e1]
    have hpb := Lib.hid (fun k hk => fst_cnt (nats l) hps k hk)
    have hle := hR.2
    have HO := Lib.hid hok
    have hRel0 : RdRel w b 67 s (a + 0) w := ⟨hR, .refl _ _⟩
    have HI := Lib.hid (fun w' (hU : Upd [b] w w') => hI.upd hU hx)
    have HC := Lib.hid (fun w' (hU : Upd [b] w w') => hC.upd hU (fun k hk hm => by simp [Value.ownBlock] at hk hm; omega))
    clear hps e1 hR hI hC hx hgb hok
    go_enter Tryz.func97, Tryz.ntmps97
    go_wp2
    go_loopg [8, 9] 15 (fun g s8 s9 wr => ∃ j c, j ≤ 15 ∧ g = 15 - j ∧ s9 = .int .i64 ((j + 1 : Nat) : Int) ∧ s8 = .int .u32 (c : Nat) ∧ c < 2 ^ j ∧ a + j ≤ 8 * s.size ∧ nxtF (nats l) s 15 1 a 0 = nxtF (nats l) s (15 - j) (j + 1) (a + j) c ∧ RdRel w b 67 s (a + j) wr)
    case atStart => exact ⟨0, 0, by omega, rfl, rfl, rfl, by simp, by omega, rfl, hRel0⟩
    case round =>
      obtain ⟨j, c, hj, rfl, rfl, rfl, hc2, haj, hnx, hRr, hU⟩ := hrel
      clear hRel0
      by_cases hc : j < 15
      · have hcz : (j : Int) + 1 ≤ 15 := by omega
        have hp15 : 2 ^ j ≤ 2 ^ 14 := Nat.pow_le_pow_right (by omega) (by omega)
        have HB := Lib.hid (rrbits_any b 1 wr s (a + j) false hRr hs)
        by_cases hend : a + j < 8 * s.size
        · have e2 : rdBad s (a + j) false 1 = false := by simp [rdBad]; omega
          have e3 : rdTo s (a + j) false 1 = a + j + 1 := by unfold rdTo; rw [e2]; rfl
          have e4 : rdNum s (a + j) false 1 = rdVal s (a + j) 1 := by unfold rdNum; rw [e2]; rfl
          rw [e2, e3, e4] at HB
          have hbl := rdVal_lt s (a + j) 1
          have hp16 : 2 ^ (j + 1) = 2 * 2 ^ j := by rw [Nat.pow_succ, Nat.mul_comm]
          obtain ⟨c', hc'⟩ : ∃ c', 2 * c + rdVal s (a + j) 1 = c' := ⟨_, rfl⟩
          have hsome : ∀ i, symAt (nats l) (j + 1) c' = some i → nxtF (nats l) s 15 1 a 0 = (some i, a + j + 1, false) := fun i hi => by
            rw [hnx, show 15 - j = (14 - j) + 1 by omega, nxtF_some hend (by rw [hc']; exact hi)]
          have hnone : symAt (nats l) (j + 1) c' = none → nxtF (nats l) s 15 1 a 0 = nxtF (nats l) s (14 - j) (j + 1 + 1) (a + j + 1) c' := fun hi => by
            rw [hnx, show 15 - j = (14 - j) + 1 by omega, nxtF_none hend (by rw [hc']; exact hi), hc']
          have HS := Lib.hid hsome
          have HN := Lib.hid hnone
          have hcc : Hid (c' < 2 ^ (j + 1)) := Lib.hid (by omega)
          have hcb : c' ≤ 65536 := by omega
          have hcI : 2 * (c : Int) + ((rdVal s (a + j) 1 : Nat) : Int) = (c' : Int) := by omega
          clear hsome hnone hc' e2 e3 e4 hnx hc2 hp16
          generalize rdVal s (a + j) 1 = r at *
          go_wp2_with fail
          refine HB.out.mono ?_
          rintro e w1 ⟨rfl, hR1, hU1⟩
          have k2 := hR1.1.cell 2 rfl
          have hUw := hU.then hU1
          have hI1 := HI.out _ hUw
          have hC1 := HC.out _ hUw
          go_wp2
          go_loopg [26] l.length (fun g s26 wx => ∃ i, i ≤ l.length ∧ g = l.length - i ∧ s26 = .int .i64 (i : Nat) ∧ ¬ (fst (nats l) (j + 1) ≤ c' ∧ c' < fst (nats l) (j + 1) + ((nats l).take i).count (j + 1)) ∧ w1 = wx)
          case atStart => exact ⟨0, by omega, rfl, rfl, by simp, rfl⟩
          case round =>
            obtain ⟨i, hin, rfl, rfl, hnot, rfl⟩ := hrel
            by_cases hc3 : i < l.length
            · have hcz2 : (i : Int) < (l.length : Int) := by omega
              obtain ⟨ba, off, rfl, c0, r1, r2⟩ := hI1.cell i hc3
              have hkk := (okLens_spec HO.out).2 _ (List.getElem_mem hc3)
              obtain ⟨y, hy⟩ : ∃ y : Nat, l[i] = (y : Int) := ⟨l[i].toNat, by omega⟩
              have hin' : i < (nats l).length := by omega
              have hnk : (nats l)[i] = y := by simp [nats, hy]
              have hnd : (nats l).getD i 0 = y := by rw [List.getD, List.getElem?_eq_getElem hin']; exact hnk
              rw [hy] at c0 hkk
              have d2 := Row.cell hC1 i (u32s_get _ _ _ (codes_get (nats l) i hin'))
              have hct : ((nats l).take (i + 1)).count (j + 1) = ((nats l).take i).count (j + 1) + if y = j + 1 then 1 else 0 := by
                rw [take_snoc' (nats l) i hin', List.count_append, hnk]; simp [List.count_cons]
              clear hy r1 r2
              by_cases hyk : y = j + 1
              · have hyf : ((y : Int) == (j : Int) + 1) = true := by simp; omega
                have hcd : codeAt (nats l) i = fst (nats l) (j + 1) + ((nats l).take i).count (j + 1) := by unfold codeAt; rw [hnd, if_neg (by omega), hyk]
                by_cases hcq : codeAt (nats l) i = c'
                · have hcf : (((codeAt (nats l) i : Nat) : Int) == (c' : Int)) = true := by simp; omega
                  have hsy := Lib.hid (HS.out i (by rw [← hcq]; exact symAt_code (nats l) i (j + 1) (by omega) hin' (by rw [hnd, hyk])))
                  clear hcd hct hcq hnot hyk hnd hnk
                  generalize codeAt (nats l) i = cd at *
                  go_wp2
                  go_returns
                  rw [hsy.out]
                  exact ⟨rfl, hR1, hUw⟩
                · have hcf : (((codeAt (nats l) i : Nat) : Int) == (c' : Int)) = false := by simp; omega
                  have hnot2 : ¬ (fst (nats l) (j + 1) ≤ c' ∧ c' < fst (nats l) (j + 1) + ((nats l).take (i + 1)).count (j + 1)) := by
                    rw [hct, if_pos hyk]; omega
                  have HT := Lib.hid hnot2
                  clear hcd hct hcq hnot hnot2 hyk hnd hnk
                  generalize codeAt (nats l) i = cd at *
                  go_wp2
                  go_roundg (l.length - (i + 1))
                  case measure => omega
                  case rel => exact ⟨i + 1, by omega, rfl, by go_num, HT.out, rfl⟩
              · have hyf : ((y : Int) == (j : Int) + 1) = false := by simp; omega
                have hnot2 : ¬ (fst (nats l) (j + 1) ≤ c' ∧ c' < fst (nats l) (j + 1) + ((nats l).take (i + 1)).count (j + 1)) := by
                  rw [hct, if_neg hyk]; exact hnot
                have HT := Lib.hid hnot2
                clear hct hnot hnot2 hyk hnd hnk d2
                go_wp2
                go_roundg (l.length - (i + 1))
                case measure => omega
                case rel => exact ⟨i + 1, by omega, rfl, by go_num, HT.out, rfl⟩
            · have hi : i = (nats l).length := by omega
              have hcz2 : ¬ (i : Int) < (l.length : Int) := by omega
              rw [hi, List.take_length] at hnot
              have hnx := Lib.hid (HN.out (symAt_none' _ _ _ (by unfold cnt; rw [if_neg (by omega)]; exact hnot)))
              clear hnot hi
              go_wp2
              go_roundg (15 - (j + 1))
              case measure => omega
              case rel =>
                refine ⟨j + 1, c', by omega, rfl, by go_num, rfl, hcc.out, by omega, ?_, ?_⟩
                · rw [hnx.out, show 15 - (j + 1) = 14 - j by omega, Nat.add_assoc a j 1]
                · rw [← Nat.add_assoc]; exact ⟨hR1, hUw⟩
        · have e2 : rdBad s (a + j) false 1 = true := by simp [rdBad]; omega
          have e3 : rdTo s (a + j) false 1 = a + j := by unfold rdTo; rw [e2]; rfl
          have e4 : rdNum s (a + j) false 1 = 0 := by unfold rdNum; rw [e2]; rfl
          rw [e2, e3, e4] at HB
          rw [show 15 - j = (14 - j) + 1 by omega, nxtF_end hend] at hnx
          have HN := Lib.hid hnx
          have hcb : c ≤ 65536 := by omega
          clear e2 e3 e4 hnx
          go_wp2_with fail
          refine HB.out.mono ?_
          rintro e w1 ⟨rfl, hR1, hU1⟩
          have k2 := hR1.1.cell 2 rfl
          go_wp2
          go_returns
          rw [HN.out]
          exact ⟨rfl, hR1, hU.then hU1⟩
      · have hj15 : j = 15 := by omega
        have hcz : ¬ (j : Int) + 1 ≤ 15 := by omega
        subst hj15
        have HN := Lib.hid (show nxtF (nats l) s 15 1 a 0 = (none, a + 15, false) from hnx)
        clear hnx
        go_wp2
        go_returns
        rw [HN.out]
        exact ⟨rfl, hRr, hU⟩
end Go.Proofs.YtdehkaknbmbieaaGreat
namespace Go.Proofs.YtdehkaknbmbieaaGreat
set_option linter.unusedVariables false
set_option linter.unusedSimpArgs false
set_option linter.unusedSectionVars false
open Go.RowKit
set_option linter.unusedVariables false

/-- A number of n bits, and where it ends; else the error's number. -/
def takeP (s : ByteArray) (a n : Nat) : Except Nat (Nat × Nat) := if a + n ≤ 8 * s.size then .ok (rdVal s a n, a + n) else .error 3
/-- A symbol, by lengths. -/
def nextP (l : List Int) (s : ByteArray) (a : Nat) : Except Nat (Nat × Nat) :=
  if kindOf l = 3 ∨ kindOf l = 0 then .error 2 else
    match nxt (nats l) s a false with
    | (some x, a', _) => .ok (x, a')
    | (none, _, true) => .error 3
    | (none, _, false) => .error 2

theorem nxtF_some_fine (n : List Nat) (s : ByteArray) (f k a c : Nat) {x : Nat} (h : (nxtF n s f k a c).1 = some x) : (nxtF n s f k a c).2.2 = false := by
  induction f generalizing k a c with
  | zero => rfl
  | succ f ih =>
    by_cases h1 : a < 8 * s.size
    · cases hx : symAt n k (2 * c + rdVal s a 1) with
      | some y => rw [nxtF_some h1 hx]
      | none => rw [nxtF_none h1 hx] at h ⊢; exact ih _ _ _ h
    · rw [nxtF_end h1] at h; cases h
theorem nxt_some (n : List Nat) (s : ByteArray) (a : Nat) {x : Nat} (h : (nxt n s a false).1 = some x) : (nxt n s a false).2.2 = false := nxtF_some_fine n s 15 1 a 0 h

/-- A decoder for lengths: none, where they are none or over. -/
def DecFor (w : World) (dv : Value) (l : List Int) (b : Nat) : Prop :=
  (dv = .pointer none ∧ (kindOf l = 3 ∨ kindOf l = 0)) ∨ (kindOf l ≠ 3 ∧ kindOf l ≠ 0 ∧ ∃ d v, dv = .pointer (some ⟨d, 0, none⟩) ∧ DcAt w d v (nats l) ∧ d ≠ b ∧ v.ownBlock ≠ some b)
theorem DecFor.upd {w w' : World} {dv : Value} {l : List Int} {b : Nat} (h : DecFor w dv l b) (hU : Upd [b] w w') : DecFor w' dv l b := by
  rcases h with h | ⟨h1, h2, d, v, e, hD, h3, h4⟩
  · exact .inl h
  · exact .inr ⟨h1, h2, d, v, e, hD.upd hU (by simpa using h3) (fun k hk hm => by simp at hm; exact h4 (by rw [hk, hm])), h3, h4⟩

end Go.Proofs.YtdehkaknbmbieaaGreat
namespace Go.Proofs.YtdehkaknbmbieaaGreat
set_option linter.unusedVariables false
set_option linter.unusedSimpArgs false
set_option linter.unusedSectionVars false
open Go.RowKit
set_option linter.unusedVariables false

/-- A symbol that says how often which length comes. -/
def againP (s : ByteArray) (sym : Nat) (L : List Nat) (a : Nat) : Except Nat ((Nat × Nat) × Nat) :=
  if sym = 16 then (if L = [] then .error 2 else (takeP s a 2).map fun r => ((3 + r.1, L.getLastD 0), r.2))
  else if sym = 17 then (takeP s a 3).map fun r => ((3 + r.1, 0), r.2)
  else (takeP s a 7).map fun r => ((11 + r.1, 0), r.2)
theorem takeP_cases (s : ByteArray) (a n : Nat) : (∃ v, v < 2 ^ n ∧ a + n ≤ 8 * s.size ∧ takeP s a n = .ok (v, a + n)) ∨ takeP s a n = .error 3 := by
  unfold takeP
  by_cases h : a + n ≤ 8 * s.size
  · exact .inl ⟨_, rdVal_lt s a n, h, by rw [if_pos h]⟩
  · exact .inr (by rw [if_neg h])

end Go.Proofs.YtdehkaknbmbieaaGreat
namespace Go.Proofs.YtdehkaknbmbieaaGreat
set_option linter.unusedVariables false
set_option linter.unusedSimpArgs false
set_option linter.unusedSectionVars false
open Go.RowKit
set_option linter.unusedVariables false

/-- A length, or how often which. -/
def oneP (s : ByteArray) (k : Nat) (L : List Nat) (a : Nat) : Except Nat ((Nat × Nat) × Nat) := if 15 < k then againP s k L a else .ok ((1, k), a)
/-- Lengths, till there are as many. -/
def rowP (l : List Int) (s : ByteArray) (many : Nat) : Nat → List Nat → Nat → Except Nat (List Nat × Nat)
  | 0, L, a => .ok (L, a)
  | f + 1, L, a =>
    if L.length < many then
      match nextP l s a with
      | .error c => .error c
      | .ok r =>
        match oneP s r.1 L r.2 with
        | .error c => .error c
        | .ok q => if q.1.1 ≤ many - L.length then rowP l s many f (L ++ List.replicate q.1.1 q.1.2) q.2 else .error 2
    else .ok (L, a)
theorem rowP_end {l : List Int} {s : ByteArray} {many f a : Nat} {L : List Nat} (h : ¬ L.length < many) : rowP l s many f L a = .ok (L, a) := by
  cases f <;> simp [rowP, h]

theorem idx_lt (n : List Nat) (k i j : Nat) {x : Nat} (h : (idx n k i)[j]? = some x) : x < i := by
  have := List.mem_of_getElem? h
  simp only [idx, List.mem_filter, List.mem_range] at this
  exact this.1
theorem symAt_lt {n : List Nat} {k c x : Nat} (h : symAt n k c = some x) (hk : 1 ≤ k) : x < n.length := by
  unfold symAt at h
  split at h
  · rename_i hr
    have hl := length_idx_all n k hk
    have hj : c - fst n k < (idx n k n.length).length := by omega
    have hx : (idx n k n.length).getD (c - fst n k) 0 = x := Option.some.inj h
    rw [List.getD, List.getElem?_eq_getElem hj] at hx
    exact idx_lt n k n.length (c - fst n k) (by rw [List.getElem?_eq_getElem hj]; exact congrArg some hx)
  · cases h
theorem nxtF_lt (n : List Nat) (s : ByteArray) (f k a c : Nat) (hk : 1 ≤ k) {x : Nat} (h : (nxtF n s f k a c).1 = some x) : x < n.length := by
  induction f generalizing k a c with
  | zero => cases h
  | succ f ih =>
    by_cases h1 : a < 8 * s.size
    · cases hx : symAt n k (2 * c + rdVal s a 1) with
      | some y => rw [nxtF_some h1 hx] at h; cases h; exact symAt_lt hx hk
      | none => rw [nxtF_none h1 hx] at h; exact ih _ _ _ (by omega) h
    · rw [nxtF_end h1] at h; cases h
end Go.Proofs.YtdehkaknbmbieaaGreat

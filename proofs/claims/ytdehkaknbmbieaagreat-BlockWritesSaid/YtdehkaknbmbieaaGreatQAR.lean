/- Readers of bits: plain mathematics, and the walks of bitio.Read, Fine, Left, Used, Bits, Align, Text. -/
import Derived.Deep.CutBlock
import Derived.WalkSpells
import Derived.Test.YtdehkaknbmbieaaGreatQAP
import Derived.Test.YtdehkaknbmbieaaGreatQAQ
namespace Go.Proofs.YtdehkaknbmbieaaGreat
set_option linter.unusedVariables false
set_option linter.unusedSimpArgs false
set_option linter.unusedSectionVars false
open Go.RowKit
set_option linter.unusedVariables false

def sbits (s : ByteArray) : List Bool := textBits (bytesOf s)
theorem length_sbits (s : ByteArray) : (sbits s).length = 8 * s.size := by rw [sbits, length_textBits, length_bytesOf]
/-- The number of the n bits from at on. -/
def rdVal (s : ByteArray) (at_ n : Nat) : Nat := val (((sbits s).drop at_).take n)
theorem rdVal_lt (s : ByteArray) (a n : Nat) : rdVal s a n < 2 ^ n := val_take_lt _ _ _
theorem rdVal_zero (s : ByteArray) (a : Nat) : rdVal s a 0 = 0 := by simp [rdVal, val]
theorem rdVal_add (s : ByteArray) (a m n : Nat) (h : a + m ≤ 8 * s.size) : rdVal s a (m + n) = rdVal s a m + 2 ^ m * rdVal s (a + m) n := by
  unfold rdVal
  have h1 : ((sbits s).drop a).take (m + n) = ((sbits s).drop a).take m ++ ((sbits s).drop (a + m)).take n := by
    rw [List.take_add, List.drop_drop]
  have h2 : (((sbits s).drop a).take m).length = m := by rw [List.length_take, List.length_drop, length_sbits]; omega
  rw [h1, val_append, h2]
theorem textBits_drop (l : List Nat) (q : Nat) : (textBits l).drop (8 * q) = textBits (l.drop q) := by
  induction l generalizing q with
  | nil => simp [textBits]
  | cons x l ih =>
    cases q with
    | zero => simp
    | succ q =>
      have e : textBits (x :: l) = low 8 x ++ textBits l := rfl
      rw [e, show 8 * (q + 1) = (low 8 x).length + 8 * q by rw [length_low]; omega, ← List.drop_drop, List.drop_left, ih]
      rfl
/-- A byte's bits. -/
theorem rdVal_byte (s : ByteArray) (q f t : Nat) (hq : q < s.size) (hft : f + t ≤ 8) : rdVal s (8 * q + f) t = s[q].toNat / 2 ^ f % 2 ^ t := by
  have hb : q < (bytesOf s).length := by rw [length_bytesOf]; exact hq
  have e1 : (sbits s).drop (8 * q + f) = (textBits ((bytesOf s).drop q)).drop f := by
    rw [← List.drop_drop, sbits, textBits_drop]
  have e2 : (bytesOf s).drop q = (bytesOf s)[q] :: (bytesOf s).drop (q + 1) := List.drop_eq_getElem_cons hb
  have e3 : textBits ((bytesOf s).drop q) = low 8 (bytesOf s)[q] ++ textBits ((bytesOf s).drop (q + 1)) := by rw [e2]; rfl
  unfold rdVal
  rw [e1, e3, List.drop_append_of_le_length (by rw [length_low]; omega), List.take_append_of_le_length (by rw [List.length_drop, length_low]; omega), val_take _ _ (by rw [List.length_drop, length_low]; omega), val_drop _ _ (by rw [length_low]; omega), val_low, bytesOf_get s q hq hb]
  have hlt := s[q].toNat_lt
  rw [Nat.mod_eq_of_lt hlt]

/-- A Reader (or the reference's) at block b. -/
def RdAt (w : World) (b : Nat) (t : TypeId) (s : ByteArray) (at_ : Nat) (bad : Bool) : Prop := Blk w b [.string s, .int .i64 (at_ : Nat), .bool bad] t ∧ at_ ≤ 8 * s.size
theorem RdAt.upd {w w' : World} {b : Nat} {t : TypeId} {s : ByteArray} {at_ : Nat} {bad : Bool} {fp : List Nat} (h : RdAt w b t s at_ bad) (hU : Upd fp w w') (hn : b ∉ fp) : RdAt w' b t s at_ bad := ⟨h.1.upd hU hn, h.2⟩

/-- What Bits tells, and where it is then. -/
def rdBad (s : ByteArray) (at_ : Nat) (bad : Bool) (n : Int) : Bool := bad || decide (n < 0) || decide (32 < n) || decide (((8 * s.size - at_ : Nat) : Int) < n)
def rdNum (s : ByteArray) (at_ : Nat) (bad : Bool) (n : Int) : Nat := if rdBad s at_ bad n then 0 else rdVal s at_ n.toNat
def rdTo (s : ByteArray) (at_ : Nat) (bad : Bool) (n : Int) : Nat := if rdBad s at_ bad n then at_ else at_ + n.toNat
/-- Align; Text. -/
def alTo (at_ : Nat) (bad : Bool) : Nat := if bad then at_ else 8 * ((at_ + 7) / 8)
def txBad (s : ByteArray) (at_ : Nat) (bad : Bool) (n : Int) : Bool := bad || decide (n < 0) || decide (((s.size - (at_ + 7) / 8 : Nat) : Int) < n)
def txStr (s : ByteArray) (at_ : Nat) (bad : Bool) (n : Int) : ByteArray := if txBad s at_ bad n then ⟨#[]⟩ else s.extract ((at_ + 7) / 8) ((at_ + 7) / 8 + n.toNat)
def txTo (s : ByteArray) (at_ : Nat) (bad : Bool) (n : Int) : Nat := if txBad s at_ bad n then alTo at_ bad else 8 * ((at_ + 7) / 8) + 8 * n.toNat
theorem alTo_le (s : ByteArray) (a : Nat) (bad : Bool) (h : a ≤ 8 * s.size) : alTo a bad ≤ 8 * s.size := by unfold alTo; split <;> omega

theorem rd_new (w : World) (s : ByteArray) (t : TypeId) : RdAt (w.alloc (.cells #[.string s, .int .i64 0, .bool false] t)) w.heap.size t s 0 false :=
  ⟨Blk.new w [.string s, .int .i64 0, .bool false] t, Nat.zero_le _⟩

/-- Behind a Reader's step. -/
def RdPost (w : World) (b : Nat) (t : TypeId) (s : ByteArray) (r : Value) (a' : Nat) (bad' : Bool) (e : Ending) (w' : World) : Prop :=
  e = .returned r ∧ RdAt w' b t s a' bad' ∧ Upd [b] w w'
def RdRel (w : World) (b : Nat) (t : TypeId) (s : ByteArray) (a' : Nat) (w' : World) : Prop := RdAt w' b t s a' false ∧ Upd [b] w w'

end Go.Proofs.YtdehkaknbmbieaaGreat
namespace Go.Proofs.YtdehkaknbmbieaaGreat
set_option linter.unusedVariables false
set_option linter.unusedSimpArgs false
set_option linter.unusedSectionVars false
open Go.RowKit
set_option linter.unusedVariables false

theorem ret_int {k : IntKind} {a b : Int} (h : a = b) : Ending.returned (.int k a) = .returned (.int k b) := by rw [h]
theorem rdVal_bit (s : ByteArray) (i : Nat) (h : i < 8 * s.size) : rdVal s i 1 = (s[i / 8]'(by omega)).toNat / 2 ^ (i % 8) % 2 := by
  have := rdVal_byte s (i / 8) (i % 8) 1 (by omega) (by omega)
  rw [show 8 * (i / 8) + i % 8 = i by omega] at this
  exact this

set_option maxHeartbeats 1600000 in
theorem bit_any (s : ByteArray) (i : Nat) (w : World) (h : i < 8 * s.size) (hs : s.size ≤ 1099511627776) :
    Calls Tryz.prog 96 #[.string s, .int .i64 (i : Nat)] w fun e w' => e = .returned (.int .u32 (rdVal s i 1 : Nat)) ∧ w = w' := by
  have hv := Lib.hid (rdVal_bit s i h)
  obtain ⟨q, f, hqf, hf⟩ : ∃ q f, i = 8 * q + f ∧ f ≤ 7 := ⟨i / 8, i % 8, by omega, by omega⟩
  have hq : i / 8 = q := by omega
  have hm : i % 8 = f := by omega
  have hqs : q < s.size := by omega
  have hbv : Hid (rdVal s i 1 = s[q].toNat / 2 ^ f % 2) := Lib.hid (by rw [hv.out]; subst hq hm; rfl)
  have h1 : (i : Int) / 8 = (q : Int) := by omega
  have h2 : (i : Int) % 8 = (f : Int) := by omega
  have hqz : (q : Int) < (s.size : Int) := by omega
  have hlt := s[q].toNat_lt
  clear hq hm hv hqf
  generalize rdVal s i 1 = r at *
  go_enter Tryz.func96, Tryz.ntmps96
  go_wp2
  have hx : s[q].toNat ≤ 255 := by omega
  clear hlt
  generalize s[q].toNat = x at *
  go_loopg [5, 6] f (fun g s5 s6 wx => ∃ k, k ≤ f ∧ g = f - k ∧ s6 = .int .i64 (k : Nat) ∧ s5 = .int .i64 ((x / 2 ^ k : Nat) : Int) ∧ w = wx)
  case atStart => exact ⟨0, by omega, rfl, rfl, by simp; try omega, rfl⟩
  case round =>
    obtain ⟨k, hk, rfl, rfl, rfl, rfl⟩ := hrel
    have hxk : x / 2 ^ k ≤ 255 := Nat.le_trans (Nat.div_le_self _ _) hx
    by_cases hc : k < f
    · have hcz : (k : Int) < (f : Int) := by omega
      have hd := Lib.hid (show x / 2 ^ k / 2 = x / 2 ^ (k + 1) by rw [Nat.div_div_eq_div_mul, Nat.pow_succ])
      generalize x / 2 ^ k = y at *
      go_wp2
      go_roundg (f - (k + 1))
      case measure => omega
      case rel => exact ⟨k + 1, by omega, rfl, by go_num, by rw [← hd.out]; simp, rfl⟩
    · have hcz : ¬ (k : Int) < (f : Int) := by omega
      have hkf : k = f := by omega
      rw [← hkf] at hbv
      generalize x / 2 ^ k = y at *
      clear hkf
      go_wp2
      go_returns
      exact ⟨ret_int (by have := hbv.out; omega), rfl⟩
/-- A step of the loop in R.Bits. -/
theorem rd_step (v o r i : Nat) (hv : v < 2 ^ i) (ho : o = 2 ^ i) (hi : i < 32) (hr : r < 2) : v + o * r < 2 ^ (i + 1) ∧ 2 * o = 2 ^ (i + 1) ∧ 2 ^ (i + 1) ≤ 4294967296 := by
  subst ho
  have h3 : 2 ^ (i + 1) ≤ 2 ^ 32 := Nat.pow_le_pow_right (by omega) (by omega)
  have h4 : 2 ^ i * r ≤ 2 ^ i * 1 := Nat.mul_le_mul_left _ (by omega)
  rw [Nat.pow_succ] at *
  omega

set_option maxRecDepth 100000 in
set_option maxHeartbeats 3200000 in
theorem rrbits_any (b : Nat) (n : Int) (w : World) (s : ByteArray) (a : Nat) (bad : Bool) (hR : RdAt w b 67 s a bad) (hs : s.size ≤ 1099511627776) :
    Calls Tryz.prog 57 #[.pointer (some ⟨b, 0, none⟩), .int .i64 n] w
      (RdPost w b 67 s (.int .u32 (rdNum s a bad n : Nat)) (rdTo s a bad n) (rdBad s a bad n)) := by
  have h0 := hR.1.cell 0 rfl
  have h1 := hR.1.cell 1 rfl
  have h2 := hR.1.cell 2 rfl
  have f2 := hR.1.frz 2
  cases hb : rdBad s a bad n with
  | true =>
    have e1 : rdNum s a bad n = 0 := by unfold rdNum; rw [if_pos hb]
    have e2 : rdTo s a bad n = a := by unfold rdTo; rw [if_pos hb]
    rw [e1, e2]
    have hfin : ∀ k, RdPost w b 67 s (.int .u32 0) a true (.returned (.int .u32 0)) ((w.drewN k).setCell ⟨b, 2, none⟩ (.bool true)) := fun k =>
      ⟨rfl, ⟨(hR.1.drewN k).set 2 _, hR.2⟩, ((Upd.refl _ _).drewN k).setCell (.inl (by simp)) _⟩
    have H1 := Lib.hid hfin
    clear hfin e1 e2
    cases bad with
    | true =>
      clear hb
      go_enter Tryz.func57, Tryz.ntmps57
      go_wp2
      go_quiet (fail)
      go_wp2
      go_returns
      exact H1.out _
    | false =>
      simp only [rdBad, Bool.false_or, Bool.or_eq_true, decide_eq_true_eq] at hb
      by_cases hn : n < 0
      · have d1 : decide (n < 0) = true := by simpa using hn
        clear hb hn
        go_enter Tryz.func57, Tryz.ntmps57
        go_wp2
        go_quiet (fail)
        go_wp2
        go_returns
        exact H1.out _
      · have d1 : decide (n < 0) = false := by simpa using hn
        by_cases hn2 : 32 < n
        · have d2 : decide (32 < n) = true := by simpa using hn2
          clear hb
          go_enter Tryz.func57, Tryz.ntmps57
          go_wp2
          go_quiet (fail)
          go_wp2
          go_returns
          exact H1.out _
        · have d2 : decide (32 < n) = false := by simpa using hn2
          have hle := hR.2
          have hn3 : 8 * (s.size : Int) - (a : Int) < n := by omega
          have d3 : decide (8 * (s.size : Int) - (a : Int) < n) = true := by simpa using hn3
          clear hb
          go_enter Tryz.func57, Tryz.ntmps57
          go_wp2
          go_quiet (fail)
          go_wp2
          go_returns
          exact H1.out _
  | false =>
    have e0 := hb
    simp only [rdBad, Bool.or_eq_false_iff, decide_eq_false_iff_not] at hb
    obtain ⟨⟨⟨rfl, hn0⟩, hn32⟩, hnl⟩ := hb
    have e1 : rdNum s a false n = rdVal s a n.toNat := by unfold rdNum; rw [if_neg (by rw [e0]; decide)]
    have e2 : rdTo s a false n = a + n.toNat := by unfold rdTo; rw [if_neg (by rw [e0]; decide)]
    rw [e1, e2]
    obtain ⟨N, rfl⟩ : ∃ N : Nat, n = (N : Int) := ⟨n.toNat, by omega⟩
    have hle := hR.2
    have hN : a + N ≤ 8 * s.size := by omega
    have hN32 : N ≤ 32 := by omega
    rw [Int.toNat_natCast]
    have d1 : decide ((N : Int) < 0) = false := by simp
    have d2 : decide ((32 : Int) < (N : Int)) = false := by simp; omega
    have d3 : decide (8 * (s.size : Int) - (a : Int) < (N : Int)) = false := by simp; omega
    have hRel : ∀ k, RdRel w b 67 s (a + 0) (w.drewN k) := fun k => ⟨⟨hR.1.drewN k, by omega⟩, (Upd.refl _ _).drewN k⟩
    have H0 := Lib.hid hRel
    clear hRel e0 e1 e2 hnl hn32 hn0
    go_enter Tryz.func57, Tryz.ntmps57
    go_wp2
    go_quiet (fail)
    have hRk := H0.out nq
    clear H0 h0 h1 h2 f2
    generalize w.drewN nq = w1 at *
    go_wp2
    go_loopg [5, 6, 7] N (fun g s5 s6 s7 wr => ∃ i, i ≤ N ∧ g = N - i ∧ s7 = .int .i64 (i : Nat) ∧ s5 = .int .u64 (rdVal s a i : Nat) ∧ s6 = .int .u64 ((2 ^ i : Nat) : Int) ∧ RdRel w b 67 s (a + i) wr)
    case atStart => exact ⟨0, by omega, rfl, rfl, by rw [rdVal_zero]; rfl, rfl, hRk⟩
    case round =>
      obtain ⟨i, hi, rfl, rfl, rfl, rfl, hRr, hU⟩ := hrel
      clear hRk
      have k0 := hRr.1.cell 0 rfl
      have k1 := hRr.1.cell 1 rfl
      have g1 := hRr.1.frz 1
      have hvl := rdVal_lt s a i
      by_cases hc : i < N
      · have hcz : (i : Int) < (N : Int) := by omega
        have hB := fun w' => bit_any s (a + i) w' (by omega) hs
        have HB := Lib.hid hB
        have hbl := rdVal_lt s (a + i) 1
        have hst := rd_step (rdVal s a i) (2 ^ i) (rdVal s (a + i) 1) i hvl rfl (by omega) (by omega)
        have hsum := Lib.hid (rdVal_add s a i 1 (by omega))
        have hpw := Lib.hid hst.2.1
        have hag : a + i ≤ 8796093022208 := by omega
        obtain ⟨ag, hag2⟩ : ∃ x, x = a + i := ⟨_, rfl⟩
        rw [← hag2] at HB k1 hbl hst hsum hag
        have HAG := Lib.hid hag2
        clear hB hag2
        generalize rdVal s a i = v at *
        generalize rdVal s ag 1 = r at *
        obtain ⟨p, hp⟩ : ∃ p, p = 2 ^ i := ⟨_, rfl⟩
        rw [← hp] at hst hsum hpw hvl ⊢
        obtain ⟨hst1, hst2, hst3⟩ := hst
        have hb0 : ((v + p * r : Nat) : Int) ≤ 4294967296 := by omega
        have hb1 : (v : Int) + (p : Int) * (r : Int) ≤ 4294967296 := by simpa using hb0
        have hb2 : (0 : Int) ≤ (p : Int) * (r : Int) := Int.mul_nonneg (by omega) (by omega)
        have hb3 : (p : Int) ≤ 4294967296 := by omega
        clear hp hst2 hst1 hst3 hvl hb0
        go_wp2
        go_quiet ((go_at_call 96; exact Calls.quiet_of_same ((HB.out _).mono fun e w' ⟨he, hw⟩ => ⟨he, hw.symm⟩)))
        go_wp2
        go_roundg (N - (i + 1))
        case measure => omega
        case rel =>
          refine ⟨i + 1, by omega, rfl, by go_num, ?_, ?_, ?_, ?_⟩
          · rw [hsum.out]; simp
          · rw [← hpw.out]; simp
          · have e : (ag : Int) + 1 = ((a + (i + 1) : Nat) : Int) := by have := HAG.out; omega
            rw [e]
            exact ⟨(hRr.1.drewN _).set 1 _, by omega⟩
          · exact (hU.drewN _).setCell (.inl (by simp)) _
      · have hiN : i = N := by omega
        rw [hiN] at hRr hvl ⊢
        have hcz2 : ¬ (N : Int) < (N : Int) := by omega
        have hp32 : 2 ^ N ≤ 2 ^ 32 := Nat.pow_le_pow_right (by omega) (by omega)
        have hv32 : rdVal s a N < 4294967296 := by omega
        clear hiN hvl hc
        generalize rdVal s a N = v at *
        generalize 2 ^ N = p at *
        go_wp2
        go_returns
        exact ⟨ret_int (by omega), hRr, hU⟩
end Go.Proofs.YtdehkaknbmbieaaGreat
namespace Go.Proofs.YtdehkaknbmbieaaGreat
set_option linter.unusedVariables false
set_option linter.unusedSimpArgs false
set_option linter.unusedSectionVars false
open Go.RowKit
set_option linter.unusedVariables false

/-- A symbol from bit a on, k being the length that is to be looked at, c the code so far: the symbol, where it ends, whether the bits ended first. -/
def nxtF (n : List Nat) (s : ByteArray) : Nat → Nat → Nat → Nat → Option Nat × Nat × Bool
  | 0, _, a, _ => (none, a, false)
  | f + 1, k, a, c => if a < 8 * s.size then
      match symAt n k (2 * c + rdVal s a 1) with
      | some x => (some x, a + 1, false)
      | none => nxtF n s f (k + 1) (a + 1) (2 * c + rdVal s a 1)
    else (none, a, true)
def nxt (n : List Nat) (s : ByteArray) (a : Nat) (bad : Bool) : Option Nat × Nat × Bool := if bad then (none, a, true) else nxtF n s 15 1 a 0
theorem nxtF_end {n : List Nat} {s : ByteArray} {f k a c : Nat} (h : ¬ a < 8 * s.size) : nxtF n s (f + 1) k a c = (none, a, true) := by simp [nxtF, h]
theorem nxtF_some {n : List Nat} {s : ByteArray} {f k a c x : Nat} (h : a < 8 * s.size) (hx : symAt n k (2 * c + rdVal s a 1) = some x) : nxtF n s (f + 1) k a c = (some x, a + 1, false) := by simp [nxtF, h, hx]
theorem nxtF_none {n : List Nat} {s : ByteArray} {f k a c : Nat} (h : a < 8 * s.size) (hx : symAt n k (2 * c + rdVal s a 1) = none) : nxtF n s (f + 1) k a c = nxtF n s f (k + 1) (a + 1) (2 * c + rdVal s a 1) := by simp [nxtF, h, hx]
def nxtVal (r : Option Nat × Nat × Bool) : Value := .tuple #[.int .i64 ((r.1.getD 0 : Nat) : Int), .bool r.1.isSome]

end Go.Proofs.YtdehkaknbmbieaaGreat

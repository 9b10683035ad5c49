/- Readers of bits: plain mathematics, and the walks of bitio.Read, Fine, Left, Used, Bits, Align, Text. -/
import Derived.Deep.CutBlock
import Derived.WalkSpells
import Derived.Test.YtdehkaknbmbieaaGreatQAR
namespace Go.Proofs.YtdehkaknbmbieaaGreat
set_option linter.unusedVariables false
set_option linter.unusedSimpArgs false
set_option linter.unusedSectionVars false
open Go.RowKit
set_option linter.unusedVariables false

def sbits (s : ByteArray) : List Bool := textBits (bytesOf s)
theorem length_sbits (s : ByteArray) : (sbits s).length = 8 * s.size := by rw [sbits, length_textBits, length_bytesOf]
/-- The number of the n bits from at on. -/
def rdVal (s : ByteArray) (at_ n : Nat) : Nat := val (((sbits s).drop at_).take n)
theorem rdVal_lt (s : ByteArray) (a n : Nat) : rdVal s a n < 2 ^ n := val_take_lt _ _ _
theorem rdVal_zero (s : ByteArray) (a : Nat) : rdVal s a 0 = 0 := by simp [rdVal, val]
theorem rdVal_add (s : ByteArray) (a m n : Nat) (h : a + m ≤ 8 * s.size) : rdVal s a (m + n) = rdVal s a m + 2 ^ m * rdVal s (a + m) n := by
  unfold rdVal
  have h1 : ((sbits s).drop a).take (m + n) = ((sbits s).drop a).take m ++ ((sbits s).drop (a + m)).take n := by
    rw [List.take_add, List.drop_drop]
  have h2 : (((sbits s).drop a).take m).length = m := by rw [List.length_take, List.length_drop, length_sbits]; omega
  rw [h1, val_append, h2]
theorem textBits_drop (l : List Nat) (q : Nat) : (textBits l).drop (8 * q) = textBits (l.drop q) := by
  induction l generalizing q with
  | nil => simp [textBits]
  | cons x l ih =>
    cases q with
    | zero => simp
    | succ q =>
      have e : textBits (x :: l) = low 8 x ++ textBits l := rfl
      rw [e, show 8 * (q + 1) = (low 8 x).length + 8 * q by rw [length_low]; omega, ← List.drop_drop, List.drop_left, ih]
      rfl
/-- A byte's bits. -/
theorem rdVal_byte (s : ByteArray) (q f t : Nat) (hq : q < s.size) (hft : f + t ≤ 8) : rdVal s (8 * q + f) t = s[q].toNat / 2 ^ f % 2 ^ t := by
  have hb : q < (bytesOf s).length := by rw [length_bytesOf]; exact hq
  have e1 : (sbits s).drop (8 * q + f) = (textBits ((bytesOf s).drop q)).drop f := by
    rw [← List.drop_drop, sbits, textBits_drop]
  have e2 : (bytesOf s).drop q = (bytesOf s)[q] :: (bytesOf s).drop (q + 1) := List.drop_eq_getElem_cons hb
  have e3 : textBits ((bytesOf s).drop q) = low 8 (bytesOf s)[q] ++ textBits ((bytesOf s).drop (q + 1)) := by rw [e2]; rfl
  unfold rdVal
  rw [e1, e3, List.drop_append_of_le_length (by rw [length_low]; omega), List.take_append_of_le_length (by rw [List.length_drop, length_low]; omega), val_take _ _ (by rw [List.length_drop, length_low]; omega), val_drop _ _ (by rw [length_low]; omega), val_low, bytesOf_get s q hq hb]
  have hlt := s[q].toNat_lt
  rw [Nat.mod_eq_of_lt hlt]

/-- A Reader (or the reference's) at block b. -/
def RdAt (w : World) (b : Nat) (t : TypeId) (s : ByteArray) (at_ : Nat) (bad : Bool) : Prop := Blk w b [.string s, .int .i64 (at_ : Nat), .bool bad] t ∧ at_ ≤ 8 * s.size
theorem RdAt.upd {w w' : World} {b : Nat} {t : TypeId} {s : ByteArray} {at_ : Nat} {bad : Bool} {fp : List Nat} (h : RdAt w b t s at_ bad) (hU : Upd fp w w') (hn : b ∉ fp) : RdAt w' b t s at_ bad := ⟨h.1.upd hU hn, h.2⟩

/-- What Bits tells, and where it is then. -/
def rdBad (s : ByteArray) (at_ : Nat) (bad : Bool) (n : Int) : Bool := bad || decide (n < 0) || decide (32 < n) || decide (((8 * s.size - at_ : Nat) : Int) < n)
def rdNum (s : ByteArray) (at_ : Nat) (bad : Bool) (n : Int) : Nat := if rdBad s at_ bad n then 0 else rdVal s at_ n.toNat
def rdTo (s : ByteArray) (at_ : Nat) (bad : Bool) (n : Int) : Nat := if rdBad s at_ bad n then at_ else at_ + n.toNat
/-- Align; Text. -/
def alTo (at_ : Nat) (bad : Bool) : Nat := if bad then at_ else 8 * ((at_ + 7) / 8)
def txBad (s : ByteArray) (at_ : Nat) (bad : Bool) (n : Int) : Bool := bad || decide (n < 0) || decide (((s.size - (at_ + 7) / 8 : Nat) : Int) < n)
def txStr (s : ByteArray) (at_ : Nat) (bad : Bool) (n : Int) : ByteArray := if txBad s at_ bad n then ⟨#[]⟩ else s.extract ((at_ + 7) / 8) ((at_ + 7) / 8 + n.toNat)
def txTo (s : ByteArray) (at_ : Nat) (bad : Bool) (n : Int) : Nat := if txBad s at_ bad n then alTo at_ bad else 8 * ((at_ + 7) / 8) + 8 * n.toNat
theorem alTo_le (s : ByteArray) (a : Nat) (bad : Bool) (h : a ≤ 8 * s.size) : alTo a bad ≤ 8 * s.size := by unfold alTo; split <;> omega

theorem read_any (s : ByteArray) (w : World) : Calls Tryz.prog 40 #[.string s] w fun e w' => e = .returned (.pointer (some ⟨w.heap.size, 0, none⟩)) ∧ w.alloc (.cells #[.string s, .int .i64 0, .bool false] 123) = w' := by
  go_enter Tryz.func40, Tryz.ntmps40
  go_wp2
  go_returns
  exact ⟨rfl, rfl⟩
theorem rd_new (w : World) (s : ByteArray) (t : TypeId) : RdAt (w.alloc (.cells #[.string s, .int .i64 0, .bool false] t)) w.heap.size t s 0 false :=
  ⟨Blk.new w [.string s, .int .i64 0, .bool false] t, Nat.zero_le _⟩

theorem fine_any (b : Nat) (w : World) (t : TypeId) (s : ByteArray) (a : Nat) (bad : Bool) (hR : RdAt w b t s a bad) :
    Calls Tryz.prog 106 #[.pointer (some ⟨b, 0, none⟩)] w fun e w' => e = .returned (.bool (!bad)) ∧ w = w' := by
  have h2 := hR.1.cell 2 rfl
  go_enter Tryz.func106, Tryz.ntmps106
  go_wp2
  go_returns
  exact ⟨rfl, rfl⟩
set_option maxHeartbeats 800000 in
theorem left_any (b : Nat) (w : World) (t : TypeId) (s : ByteArray) (a : Nat) (bad : Bool) (hR : RdAt w b t s a bad) (hs : s.size ≤ 1099511627776) :
    Calls Tryz.prog 133 #[.pointer (some ⟨b, 0, none⟩)] w fun e w' => e = .returned (.int .i64 ((8 * s.size - a : Nat) : Int)) ∧ ∃ n, w' = w.drewN n := by
  have h0 := hR.1.cell 0 rfl
  have h1 := hR.1.cell 1 rfl
  have hle := hR.2
  have he : Hid ((8 * (s.size : Int) - (a : Int)) = ((8 * s.size - a : Nat) : Int)) := Lib.hid (by omega)
  go_enter Tryz.func133, Tryz.ntmps133
  go_wp2
  go_quiet (fail)
  go_wp2
  go_returns
  exact ⟨by rw [← he.out]; rfl, _, rfl⟩
theorem qused_any (b : Nat) (w : World) (t : TypeId) (s : ByteArray) (a : Nat) (bad : Bool) (hR : RdAt w b t s a bad) (hs : s.size ≤ 1099511627776) :
    Calls Tryz.prog 42 #[.pointer (some ⟨b, 0, none⟩)] w fun e w' => e = .returned (.int .i64 (((a + 7) / 8 : Nat) : Int)) ∧ w = w' := by
  have h1 := hR.1.cell 1 rfl
  have hle := hR.2
  go_enter Tryz.func42, Tryz.ntmps42
  go_wp2
  go_returns
  have e : (((a : Int) + 8 - 1) / 8) = (((a + 7) / 8 : Nat) : Int) := by omega
  exact ⟨by rw [← e]; rfl, rfl⟩
/-- Behind a Reader's step. -/
def RdPost (w : World) (b : Nat) (t : TypeId) (s : ByteArray) (r : Value) (a' : Nat) (bad' : Bool) (e : Ending) (w' : World) : Prop :=
  e = .returned r ∧ RdAt w' b t s a' bad' ∧ Upd [b] w w'
def RdRel (w : World) (b : Nat) (t : TypeId) (s : ByteArray) (a' : Nat) (w' : World) : Prop := RdAt w' b t s a' false ∧ Upd [b] w w'

/-- One step of the loop in Bits. -/
theorem rd_or (v g x f T : Nat) (hv : v < 2 ^ g) (hg : g + T ≤ 32) (hx : x < 256) (hT : T ≤ 8) (hf : f ≤ 7) :
    bits BinOp.or IntKind.u32 (v : Int) (bits BinOp.and IntKind.u32 ((x : Int) % 4294967296 / 2 ^ f) ((2 ^ T - 1) % 4294967296) * 2 ^ g % 4294967296) = ((v + 2 ^ g * (x / 2 ^ f % 2 ^ T) : Nat) : Int) := by
  have hT1 : 1 ≤ 2 ^ T := Nat.one_le_two_pow
  have hT2 : 2 ^ T ≤ 2 ^ 8 := Nat.pow_le_pow_right (by omega) hT
  have e1 : (x : Int) % 4294967296 / 2 ^ f = ((x / 2 ^ f : Nat) : Int) := by
    have : (x : Int) % 4294967296 = (x : Int) := by omega
    rw [this]; simp
  have e0 : (2 : Int) ^ T = ((2 ^ T : Nat) : Int) := by simp
  have e2 : ((2 : Int) ^ T - 1) % 4294967296 = ((2 ^ T - 1 : Nat) : Int) := by rw [e0]; omega
  have e3 : (2 : Int) ^ g = ((2 ^ g : Nat) : Int) := by simp
  have hq : x / 2 ^ f ≤ 255 := Nat.le_trans (Nat.div_le_self _ _) (by omega)
  rw [e1, e2, e3, u32_and_nat _ _ (by omega) (by omega), Nat.and_two_pow_sub_one_eq_mod]
  have h1 : x / 2 ^ f % 2 ^ T < 2 ^ T := Nat.mod_lt _ (by omega)
  have h2 : x / 2 ^ f % 2 ^ T * 2 ^ g < 2 ^ T * 2 ^ g := Nat.mul_lt_mul_of_pos_right h1 (Nat.two_pow_pos _)
  have h3 : 2 ^ T * 2 ^ g ≤ 2 ^ 32 := by rw [← Nat.pow_add]; exact Nat.pow_le_pow_right (by omega) (by omega)
  have h4 : 2 ^ g ≤ 2 ^ 32 := Nat.pow_le_pow_right (by omega) (by omega)
  generalize x / 2 ^ f % 2 ^ T = y at *
  have h5 : ((y : Int) * ((2 ^ g : Nat) : Int)) % 4294967296 = ((y * 2 ^ g : Nat) : Int) := by rw [← Int.natCast_mul]; omega
  rw [h5, u32_or_nat _ _ (by omega) (by omega), Nat.or_comm, or_step.nat_join' y v g hv]

set_option maxRecDepth 100000 in
set_option maxHeartbeats 3200000 in
theorem rbits_read (b : Nat) (n : Int) (w : World) (s : ByteArray) (a : Nat) (bad : Bool) (hR : RdAt w b 123 s a bad) (hs : s.size ≤ 1099511627776) :
    Calls Tryz.prog 105 #[.pointer (some ⟨b, 0, none⟩), .int .i64 n] w
      (RdPost w b 123 s (.int .u32 (rdNum s a bad n : Nat)) (rdTo s a bad n) (rdBad s a bad n)) := by
  have HF := Lib.hid (fine_any b w _ s a bad hR)
  have h2 := hR.1.cell 2 rfl
  have f2 := hR.1.frz 2
  cases hb : rdBad s a bad n with
  | true =>
    have e1 : rdNum s a bad n = 0 := by unfold rdNum; rw [if_pos hb]
    have e2 : rdTo s a bad n = a := by unfold rdTo; rw [if_pos hb]
    rw [e1, e2]
    cases bad with
    | true =>
      go_enter Tryz.func105, Tryz.ntmps105
      go_wp2_with fail
      refine HF.out.mono ?_
      rintro e w' ⟨rfl, rfl⟩
      go_wp2
      go_returns
      exact ⟨rfl, hR, .refl _ _⟩
    | false =>
      have hw1 : RdAt (w.setCell ⟨b, 2, none⟩ (.bool true)) b 123 s a true := ⟨hR.1.set 2 _, hR.2⟩
      have hU1 : Upd [b] w (w.setCell ⟨b, 2, none⟩ (.bool true)) := (Upd.refl _ _).setCell (.inl (by simp)) _
      simp only [rdBad, Bool.false_or, Bool.or_eq_true, decide_eq_true_eq] at hb
      by_cases hn : n < 0
      · clear hb e1 e2
        go_enter Tryz.func105, Tryz.ntmps105
        go_wp2_with fail
        refine HF.out.mono ?_
        rintro e w' ⟨rfl, rfl⟩
        go_wp2
        go_returns
        exact ⟨rfl, hw1, hU1⟩
      · by_cases hn2 : 32 < n
        · clear hb e1 e2
          go_enter Tryz.func105, Tryz.ntmps105
          go_wp2_with fail
          refine HF.out.mono ?_
          rintro e w' ⟨rfl, rfl⟩
          go_wp2
          go_returns
          exact ⟨rfl, hw1, hU1⟩
        · have hn3 : ((8 * s.size - a : Nat) : Int) < n := by omega
          have HL := Lib.hid (left_any b w _ s a false hR hs)
          have hw1' : ∀ k, RdAt ((w.drewN k).setCell ⟨b, 2, none⟩ (.bool true)) b 123 s a true := fun k => ⟨(hR.1.drewN k).set 2 _, hR.2⟩
          have hU1' : ∀ k, Upd [b] w ((w.drewN k).setCell ⟨b, 2, none⟩ (.bool true)) := fun k => ((Upd.refl _ _).drewN k).setCell (.inl (by simp)) _
          have H1 := Lib.hid hw1'
          have H2 := Lib.hid hU1'
          clear hb hw1' hU1' e1 e2
          generalize 8 * s.size - a = q at *
          go_enter Tryz.func105, Tryz.ntmps105
          go_wp2_with fail
          refine HF.out.mono ?_
          rintro e w' ⟨rfl, rfl⟩
          go_wp2_with fail
          refine HL.out.mono ?_
          rintro e w' ⟨rfl, k, rfl⟩
          go_wp2
          go_returns
          exact ⟨rfl, H1.out k, H2.out k⟩
  | false =>
    have e0 := hb
    simp only [rdBad, Bool.or_eq_false_iff, decide_eq_false_iff_not] at hb
    obtain ⟨⟨⟨rfl, hn0⟩, hn32⟩, hnl⟩ := hb
    have e1 : rdNum s a false n = rdVal s a n.toNat := by unfold rdNum; rw [if_neg (by rw [e0]; decide)]
    have e2 : rdTo s a false n = a + n.toNat := by unfold rdTo; rw [if_neg (by rw [e0]; decide)]
    rw [e1, e2]
    obtain ⟨N, rfl⟩ : ∃ N : Nat, n = (N : Int) := ⟨n.toNat, by omega⟩
    have hN : a + N ≤ 8 * s.size := by have := hR.2; omega
    have hN32 : N ≤ 32 := by omega
    rw [Int.toNat_natCast]
    have HL := Lib.hid (left_any b w _ s a false hR hs)
    have hnl2 : (N : Int) ≤ ((8 * s.size - a : Nat) : Int) := by omega
    clear e0 e1 e2 hnl hn32 hn0
    generalize 8 * s.size - a = q at *
    have d1 : decide ((N : Int) < 0) = false := by simp
    have d2 : decide ((32 : Int) < (N : Int)) = false := by simp; omega
    have d3 : decide (q < N) = false := by simp; omega
    have hR0 : ∀ k, RdRel w b 123 s (a + 0) (w.drewN k) := fun k => ⟨⟨hR.1.drewN k, by have := hR.2; omega⟩, (Upd.refl _ _).drewN k⟩
    have H0 := Lib.hid hR0
    clear hR0
    go_enter Tryz.func105, Tryz.ntmps105
    go_wp2_with fail
    refine HF.out.mono ?_
    rintro e w' ⟨rfl, rfl⟩
    go_wp2_with fail
    refine HL.out.mono ?_
    rintro e w' ⟨rfl, k, rfl⟩
    have hRk := H0.out k
    clear HF HL h2 f2 H0
    generalize w.drewN k = w1 at *
    go_wp2
    clear hnl2
    go_loopg [4, 5] N (fun gg s4 s5 wr => ∃ g, g ≤ N ∧ gg = N - g ∧ s5 = .int .i64 (g : Nat) ∧ s4 = .int .u32 (rdVal s a g : Nat) ∧ RdRel w b 123 s (a + g) wr)
    case atStart => exact ⟨0, by omega, rfl, rfl, by rw [rdVal_zero]; rfl, hRk⟩
    case round =>
      obtain ⟨g, hg, rfl, rfl, rfl, hRr, hU⟩ := hrel
      clear hRk
      have k0 := hRr.1.cell 0 rfl
      have k1 := hRr.1.cell 1 rfl
      have k2 := hRr.1.frz 1
      by_cases hc : g < N
      · have hcz : (g : Int) < (N : Int) := by omega
        obtain ⟨c, f, hcf, hf7⟩ : ∃ c f, a + g = 8 * c + f ∧ f ≤ 7 := ⟨(a + g) / 8, (a + g) % 8, by omega, by omega⟩
        obtain ⟨T, hT, hT8⟩ : ∃ T, T = min (8 - f) (N - g) ∧ T ≤ 8 := ⟨_, rfl, by omega⟩
        have hcs : c < s.size := by omega
        have hval := Lib.hid (rdVal_add s a g T (by omega))
        have hbyte := rdVal_byte s c f T hcs (by omega)
        rw [← hcf] at hbyte
        rw [hbyte] at hval
        have hvl := rdVal_lt s a g
        have hor := Lib.hid (rd_or (rdVal s a g) g s[c].toNat f T hvl (by omega) s[c].toNat_lt hT8 hf7)
        have hmod : ((a + g : Nat) : Int) % 8 = (f : Int) := by omega
        have hdiv : ((a + g : Nat) : Int) / 8 = (c : Int) := by omega
        have hcs2 : (c : Int) < (s.size : Int) := by omega
        have hagb : ((a + g : Nat) : Int) ≤ 8796093022208 := by have := hRr.2; omega
        generalize rdVal s a g = v at *
        generalize hag : a + g = ag at *
        have HAG := Lib.hid hag
        have HCF := Lib.hid hcf
        have HT := Lib.hid hT
        clear hag hbyte hcf hT
        go_upto_region 9 with fail
        go_cut [6, 7] (fun s6 s7 wx => s6 = .int .i64 (f : Nat) ∧ s7 = .int .i64 (T : Nat) ∧ wr = wx)
        case first =>
          go_wp2
          all_goals go_meet
          all_goals (have hTo := HT.out; refine ⟨?_, ?_, ?_⟩ <;> first | rfl | (congr 1; done) | (congr 1; omega))
        case rest =>
          obtain ⟨rfl, rfl, rfl⟩ := hcut
          go_wp2
          go_quiet (fail)
          go_wp2
          go_roundg (N - (g + T))
          case measure => have := HT.out; omega
          case rel =>
            refine ⟨g + T, by have := HT.out; omega, rfl, by go_num, by rw [hval.out, ← hor.out], ?_, ?_⟩
            · have e : (ag : Int) + (T : Int) = ((a + (g + T) : Nat) : Int) := by have := HAG.out; omega
              rw [e]
              exact ⟨(hRr.1.drewN _).set 1 _, by have := HAG.out; have := HT.out; omega⟩
            · exact (hU.drewN _).setCell (.inl (by simp)) _
      · have hgN : g = N := by omega
        have hcz : ¬ (g : Int) < (N : Int) := by omega
        rw [hgN] at hRr ⊢
        have hcz2 : ¬ (N : Int) < (N : Int) := by omega
        clear hcz hgN
        generalize rdVal s a N = v at *
        go_wp2
        go_returns
        exact ⟨rfl, hRr, hU⟩
end Go.Proofs.YtdehkaknbmbieaaGreat
namespace Go.Proofs.YtdehkaknbmbieaaGreat
set_option linter.unusedVariables false
set_option linter.unusedSimpArgs false
set_option linter.unusedSectionVars false
open Go.RowKit
set_option linter.unusedVariables false

set_option maxHeartbeats 1600000 in
theorem align_read (b : Nat) (w : World) (s : ByteArray) (a : Nat) (bad : Bool) (hR : RdAt w b 123 s a bad) (hs : s.size ≤ 1099511627776) :
    Calls Tryz.prog 107 #[.pointer (some ⟨b, 0, none⟩)] w
      (RdPost w b 123 s (.tuple #[]) (alTo a bad) bad) := by
  have HF := Lib.hid (fine_any b w _ s a bad hR)
  have HU := Lib.hid (qused_any b w _ s a bad hR hs)
  cases bad with
  | true =>
    go_enter Tryz.func107, Tryz.ntmps107
    go_wp2_with fail
    refine HF.out.mono ?_
    rintro e w' ⟨rfl, rfl⟩
    go_wp2
    go_returns
    exact ⟨rfl, hR, .refl _ _⟩
  | false =>
    have k1 := hR.1.cell 1 rfl
    have f1 := hR.1.frz 1
    have hle := hR.2
    have hq : ((a + 7) / 8 : Nat) ≤ 1099511627776 := by omega
    have hal := Lib.hid (show alTo a false = 8 * ((a + 7) / 8) by rfl)
    have hal2 := alTo_le s a false hle
    clear hle
    generalize (a + 7) / 8 = q at *
    go_enter Tryz.func107, Tryz.ntmps107
    go_wp2_with fail
    refine HF.out.mono ?_
    rintro e w' ⟨rfl, rfl⟩
    go_wp2_with fail
    refine HU.out.mono ?_
    rintro e w' ⟨rfl, rfl⟩
    go_wp2
    go_returns
    have e : (8 * (q : Int)) = ((alTo a false : Nat) : Int) := by have := hal.out; omega
    rw [e]
    exact ⟨rfl, ⟨hR.1.set 1 _, hal2⟩, (Upd.refl _ _).setCell (.inl (by simp)) _⟩

set_option maxRecDepth 100000 in
set_option maxHeartbeats 1600000 in
theorem text_read (b : Nat) (n : Int) (w : World) (s : ByteArray) (a : Nat) (bad : Bool) (hR : RdAt w b 123 s a bad) (hs : s.size ≤ 1099511627776) :
    Calls Tryz.prog 108 #[.pointer (some ⟨b, 0, none⟩), .int .i64 n] w
      (RdPost w b 123 s (.string (txStr s a bad n)) (txTo s a bad n) (txBad s a bad n)) := by
  have HA := Lib.hid (align_read b w s a bad hR hs)
  have hal := alTo_le s a bad hR.2
  cases bad with
  | true =>
    have e1 : txBad s a true n = true := rfl
    have e2 : txStr s a true n = ⟨#[]⟩ := rfl
    have e3 : txTo s a true n = alTo a true := rfl
    rw [e1, e2, e3]
    generalize alTo a true = a1 at *
    go_enter Tryz.func108, Tryz.ntmps108
    go_wp2_with fail
    refine HA.out.mono ?_
    rintro e w' ⟨rfl, hR1, hU1⟩
    go_wp2_with fail
    refine (fine_any b w' _ s _ true hR1).mono ?_
    rintro e w2 ⟨rfl, rfl⟩
    go_wp2
    go_returns
    exact ⟨rfl, hR1, hU1⟩
  | false =>
    have hq : (a + 7) / 8 ≤ s.size := by have := hR.2; omega
    have ha1 : alTo a false = 8 * ((a + 7) / 8) := rfl
    have HBD := Lib.hid (fun (h : txBad s a false n = true) => (show txStr s a false n = ⟨#[]⟩ ∧ txTo s a false n = alTo a false by unfold txStr txTo; rw [if_pos h, if_pos h]; exact ⟨rfl, rfl⟩))
    have HGD := Lib.hid (fun (h : txBad s a false n = false) => (show txStr s a false n = s.extract ((a + 7) / 8) ((a + 7) / 8 + n.toNat) ∧ txTo s a false n = 8 * ((a + 7) / 8) + 8 * n.toNat by unfold txStr txTo; rw [if_neg (by rw [h]; decide), if_neg (by rw [h]; decide)]; exact ⟨rfl, rfl⟩))
    have hTB : txBad s a false n = (decide (n < 0) || decide (((s.size - (a + 7) / 8 : Nat) : Int) < n)) := by simp [txBad]
    generalize (a + 7) / 8 = q at *
    have H8 : Hid (8 * s.size - alTo a false = 8 * (s.size - q)) := Lib.hid (by omega)
    have HQ := Lib.hid ha1
    clear ha1
    generalize alTo a false = a1 at *
    cases hb : txBad s a false n with
    | true =>
      obtain ⟨e1, e2⟩ := HBD.out hb
      rw [e1, e2]
      rw [hTB] at hb
      simp only [Bool.or_eq_true, decide_eq_true_eq] at hb
      clear e1 e2 hTB HBD HGD
      by_cases hn : n < 0
      · clear hb
        go_enter Tryz.func108, Tryz.ntmps108
        go_wp2_with fail
        refine HA.out.mono ?_
        rintro e w' ⟨rfl, hR1, hU1⟩
        have k2 := hR1.1.cell 2 rfl
        have f2 := hR1.1.frz 2
        go_wp2_with fail
        refine (fine_any b w' _ s _ false hR1).mono ?_
        rintro e w2 ⟨rfl, rfl⟩
        go_wp2
        go_returns
        exact ⟨rfl, ⟨hR1.1.set 2 _, hR1.2⟩, hU1.setCell (.inl (by simp)) _⟩
      · have hn2 : ((s.size - q : Nat) : Int) < n := by omega
        have hsq : s.size - q ≤ 1099511627776 := by omega
        clear hb
        go_enter Tryz.func108, Tryz.ntmps108
        go_wp2_with fail
        refine HA.out.mono ?_
        rintro e w' ⟨rfl, hR1, hU1⟩
        have k2 := hR1.1.cell 2 rfl
        have f2 := hR1.1.frz 2
        go_wp2_with fail
        refine (fine_any b w' _ s _ false hR1).mono ?_
        rintro e w2 ⟨rfl, rfl⟩
        have HL := left_any b w' _ s a1 false hR1 hs
        rw [H8.out] at HL
        have hdv : ((8 * (s.size - q) : Nat) : Int) / 8 = ((s.size - q : Nat) : Int) := by omega
        generalize s.size - q = r at *
        go_wp2_with fail
        refine HL.mono ?_
        rintro e w2 ⟨rfl, k, rfl⟩
        generalize 8 * r = r8 at *
        go_wp2
        go_returns
        exact ⟨rfl, ⟨(hR1.1.drewN k).set 2 _, hR1.2⟩, (hU1.drewN k).setCell (.inl (by simp)) _⟩
    | false =>
      obtain ⟨e1, e2⟩ := HGD.out hb
      rw [e1, e2]
      rw [hTB] at hb
      simp only [Bool.or_eq_false_iff, decide_eq_false_iff_not] at hb
      obtain ⟨hn0, hn1⟩ := hb
      obtain ⟨N, rfl⟩ : ∃ N : Nat, n = (N : Int) := ⟨n.toNat, by omega⟩
      have hN : q + N ≤ s.size := by omega
      rw [Int.toNat_natCast]
      have d1 : decide ((N : Int) < 0) = false := by simp
      have hsq : s.size - q ≤ 1099511627776 := by omega
      have hnr : N ≤ s.size - q := by omega
      clear e1 e2 hTB HBD HGD hn0 hn1
      go_enter Tryz.func108, Tryz.ntmps108
      go_wp2_with fail
      refine HA.out.mono ?_
      rintro e w' ⟨rfl, hR1, hU1⟩
      go_wp2_with fail
      refine (fine_any b w' _ s _ false hR1).mono ?_
      rintro e w2 ⟨rfl, rfl⟩
      have HL := left_any b w' _ s a1 false hR1 hs
      rw [H8.out] at HL
      have hdv : ((8 * (s.size - q) : Nat) : Int) / 8 = ((s.size - q : Nat) : Int) := by omega
      have hdv2 : ((a1 : Nat) : Int) / 8 = (q : Int) := by have := HQ.out; omega
      generalize s.size - q = r at *
      have d3 : decide (r < N) = false := by simp; omega
      go_wp2_with fail
      refine HL.mono ?_
      rintro e w2 ⟨rfl, k, rfl⟩
      have k0 := hR1.1.cell 0 rfl
      have k1 := hR1.1.cell 1 rfl
      have f1 := hR1.1.frz 1
      generalize 8 * r = r8 at *
      have ha1b : a1 ≤ 8796093022208 := by omega
      go_wp2
      go_returns
      have e : (a1 : Int) + 8 * (N : Int) = ((8 * q + 8 * N : Nat) : Int) := by have := HQ.out; omega
      rw [e]
      exact ⟨rfl, ⟨(hR1.1.drewN k).set 1 _, by omega⟩, (hU1.drewN k).setCell (.inl (by simp)) _⟩
end Go.Proofs.YtdehkaknbmbieaaGreat

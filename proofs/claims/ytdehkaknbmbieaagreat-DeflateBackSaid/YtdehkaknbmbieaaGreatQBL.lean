/- The walks of a symbol's reading: (*huff.Decoder).Next; and in plain mathematics. -/
import Derived.Test.YtdehkaknbmbieaaGreatQBJ
import Derived.Test.YtdehkaknbmbieaaGreatQBK
namespace Go.Proofs.YtdehkaknbmbieaaGreat
set_option linter.unusedVariables false
set_option linter.unusedSimpArgs false
set_option linter.unusedSectionVars false
open Go.RowKit
set_option linter.unusedVariables false

/-- A symbol from bit a on, k being the length that is to be looked at, c the code so far: the symbol, where it ends, whether the bits ended first. -/
def nxtF (n : List Nat) (s : ByteArray) : Nat → Nat → Nat → Nat → Option Nat × Nat × Bool
  | 0, _, a, _ => (none, a, false)
  | f + 1, k, a, c => if a < 8 * s.size then
      match symAt n k (2 * c + rdVal s a 1) with
      | some x => (some x, a + 1, false)
      | none => nxtF n s f (k + 1) (a + 1) (2 * c + rdVal s a 1)
    else (none, a, true)
def nxt (n : List Nat) (s : ByteArray) (a : Nat) (bad : Bool) : Option Nat × Nat × Bool := if bad then (none, a, true) else nxtF n s 15 1 a 0
theorem nxtF_end {n : List Nat} {s : ByteArray} {f k a c : Nat} (h : ¬ a < 8 * s.size) : nxtF n s (f + 1) k a c = (none, a, true) := by simp [nxtF, h]
theorem nxtF_some {n : List Nat} {s : ByteArray} {f k a c x : Nat} (h : a < 8 * s.size) (hx : symAt n k (2 * c + rdVal s a 1) = some x) : nxtF n s (f + 1) k a c = (some x, a + 1, false) := by simp [nxtF, h, hx]
theorem nxtF_none {n : List Nat} {s : ByteArray} {f k a c : Nat} (h : a < 8 * s.size) (hx : symAt n k (2 * c + rdVal s a 1) = none) : nxtF n s (f + 1) k a c = nxtF n s f (k + 1) (a + 1) (2 * c + rdVal s a 1) := by simp [nxtF, h, hx]
theorem nxtF_le (n : List Nat) (s : ByteArray) (f k a c : Nat) (h : a ≤ 8 * s.size) : a ≤ (nxtF n s f k a c).2.1 ∧ (nxtF n s f k a c).2.1 ≤ 8 * s.size ∧ (nxtF n s f k a c).2.1 ≤ a + f := by
  induction f generalizing k a c with
  | zero => exact ⟨Nat.le_refl _, h, Nat.le_refl _⟩
  | succ f ih =>
    by_cases h1 : a < 8 * s.size
    · cases hx : symAt n k (2 * c + rdVal s a 1) with
      | some x => rw [nxtF_some h1 hx]; exact ⟨by simp, by simp; omega, by simp⟩
      | none =>
        rw [nxtF_none h1 hx]
        have := ih (k + 1) (a + 1) (2 * c + rdVal s a 1) (by omega)
        omega
    · rw [nxtF_end h1]; exact ⟨by simp, h, by simp⟩
theorem i64_or_bit (c r : Nat) (hc : c ≤ 1073741824) (hr : r < 2) : bits BinOp.or IntKind.i64 ((2 * c : Nat) : Int) (r : Int) = ((2 * c + r : Nat) : Int) := by
  rw [bits_join .i64 63 (by decide) (fun n h0 h1 => by rw [IntWalk.i64_in n (by omega)]) 1 _ _ (by omega) (by omega) (by omega) (by omega) (by omega) (by omega)]
  simp
def nxtVal (r : Option Nat × Nat × Bool) : Value := .tuple #[.int .i64 ((r.1.getD 0 : Nat) : Int), .bool r.1.isSome]

theorem next_nil (b : Value) (w : World) :
    Calls Tryz.prog 134 #[.pointer none, b] w fun e w' => e = .returned (.tuple #[.int .i64 0, .bool false]) ∧ w = w' := by
  go_enter Tryz.func134, Tryz.ntmps134
  go_wp2
  go_returns
  exact ⟨rfl, rfl⟩

set_option maxRecDepth 100000 in
set_option maxHeartbeats 3200000 in
theorem next_any (d b : Nat) (v : Value) (n : List Nat) (w : World) (s : ByteArray) (a : Nat) (bad : Bool) (hD : DcAt w d v n) (hR : RdAt w b 123 s a bad) (hs : s.size ≤ 1099511627776)
    (hne : d ≠ b) (hvb : v.ownBlock ≠ some b) (hps : psum n 16 ≤ 32768) (hn : n.length ≤ 300) :
    Calls Tryz.prog 134 #[.pointer (some ⟨d, 0, none⟩), .pointer (some ⟨b, 0, none⟩)] w
      (RdPost w b 123 s (nxtVal (nxt n s a bad)) (nxt n s a bad).2.1 (nxt n s a bad).2.2) := by
  cases bad with
  | true =>
    have HB := Lib.hid (rbits_read b 1 w s a true hR hs)
    have e1 : nxt n s a true = (none, a, true) := rfl
    rw [e1]
    have e2 : rdBad s a true 1 = true := rfl
    have e3 : rdTo s a true 1 = a := rfl
    have e4 : rdNum s a true 1 = 0 := rfl
    rw [e2, e3, e4] at HB
    clear e1 e2 e3 e4
    go_enter Tryz.func134, Tryz.ntmps134
    go_wp2
    refine wp_loop_rounds 1 ?_
    rw [rounds_succ]
    go_wp2_with fail
    refine HB.out.mono ?_
    rintro e w1 ⟨rfl, hR1, hU1⟩
    go_wp2_with fail
    refine (fine_any b w1 _ s a true hR1).mono ?_
    rintro e w2 ⟨rfl, rfl⟩
    go_wp2
    go_returns
    exact ⟨rfl, hR1, hU1⟩
  | false =>
    have e1 : nxt n s a false = nxtF n s 15 1 a 0 := rfl
    rw [e1]
    have hpb := Lib.hid (fun k hk => fst_cnt n hps k hk)
    have hle := hR.2
    have hRel0 : RdRel w b 123 s (a + 0) w := ⟨hR, .refl _ _⟩
    have HD := Lib.hid (fun w' (hU : Upd [b] w w') => hD.upd hU (by simpa using hne) (fun k hk hm => hvb (by simp at hm; rw [hk, hm])))
    clear hps e1 hR hD hne hvb
    go_enter Tryz.func134, Tryz.ntmps134
    go_wp2
    go_loopg [6, 7, 8, 9] 15 (fun g s6 s7 s8 s9 wr => ∃ j c, j ≤ 15 ∧ g = 15 - j ∧ s9 = .int .i64 ((j + 1 : Nat) : Int) ∧ s6 = .int .i64 ((2 * c : Nat) : Int) ∧ s7 = .int .i64 (fst n (j + 1) : Nat) ∧ s8 = .int .i64 ((symsTo n (j + 1)).length : Nat) ∧ c < 2 ^ j ∧ fst n (j + 1) ≤ 2 * c ∧ a + j ≤ 8 * s.size ∧ nxtF n s 15 1 a 0 = nxtF n s (15 - j) (j + 1) (a + j) c ∧ RdRel w b 123 s (a + j) wr)
    case atStart => exact ⟨0, 0, by omega, rfl, rfl, rfl, rfl, by rw [symsTo_1]; rfl, by simp, by simp [fst, cnt], by omega, rfl, hRel0⟩
    case round =>
      obtain ⟨j, c, hj, rfl, rfl, rfl, rfl, rfl, hc2, hfc, haj, hnx, hRr, hU⟩ := hrel
      clear hRel0
      by_cases hc : j < 15
      · have hcz : (j : Int) + 1 ≤ 15 := by omega
        have hp15 : 2 ^ j ≤ 2 ^ 15 := Nat.pow_le_pow_right (by omega) (by omega)
        have HB := Lib.hid (rbits_read b 1 wr s (a + j) false hRr hs)
        by_cases hend : a + j < 8 * s.size
        · have e2 : rdBad s (a + j) false 1 = false := by simp [rdBad]; omega
          have e3 : rdTo s (a + j) false 1 = a + j + 1 := by unfold rdTo; rw [e2]; rfl
          have e4 : rdNum s (a + j) false 1 = rdVal s (a + j) 1 := by unfold rdNum; rw [e2]; rfl
          rw [e2, e3, e4] at HB
          have hbl := rdVal_lt s (a + j) 1
          have hfk := hpb.out (j + 1) (by omega)
          have hp16 : 2 ^ (j + 1) = 2 * 2 ^ j := by rw [Nat.pow_succ, Nat.mul_comm]
          have hor := i64_or_bit c (rdVal s (a + j) 1) (by omega) (by omega)
          have hsy1 := length_symsTo_le n (j + 1)
          have hsy2 : (j + 1) * n.length ≤ 15 * 300 := Nat.mul_le_mul (by omega) (by omega)
          have hsn := Lib.hid (length_symsTo_succ n (j + 1) (by omega))
          have hfn := Lib.hid (show fst n (j + 1 + 1) = 2 * (fst n (j + 1) + cnt n (j + 1)) by rfl)
          by_cases hlt : 2 * c + rdVal s (a + j) 1 < fst n (j + 1) + cnt n (j + 1)
          · have hsome : symAt n (j + 1) (2 * c + rdVal s (a + j) 1) = some ((idx n (j + 1) n.length).getD (2 * c + rdVal s (a + j) 1 - fst n (j + 1)) 0) := by
              unfold symAt; rw [if_pos ⟨by omega, hlt⟩]
            rw [show 15 - j = (14 - j) + 1 by omega, nxtF_some hend hsome] at hnx
            have HN := Lib.hid hnx
            have hget := syms_get n (j + 1) (2 * c + rdVal s (a + j) 1 - fst n (j + 1)) (by omega) (by omega) (by omega)
            generalize (idx n (j + 1) n.length).getD (2 * c + rdVal s (a + j) 1 - fst n (j + 1)) 0 = x at *
            obtain ⟨q, hq⟩ : ∃ q, 2 * c + rdVal s (a + j) 1 = fst n (j + 1) + q := ⟨2 * c + rdVal s (a + j) 1 - fst n (j + 1), by omega⟩
            rw [hq] at hor
            rw [show 2 * c + rdVal s (a + j) 1 - fst n (j + 1) = q by omega] at hget
            have hq2 : q < cnt n (j + 1) := by omega
            have hpos : 0 < (symsTo n 16).length := by have := (List.getElem?_eq_some_iff.1 hget).1; omega
            have hc2b : 2 * c ≤ 65536 := by omega
            have hqi := (List.getElem?_eq_some_iff.1 hget).1
            have hF16 : fst n (j + 1) ≤ 65536 := by omega
            have hL16 : (symsTo n (j + 1)).length ≤ 4500 := by omega
            have hq16 : q ≤ 65536 := by omega
            clear hnx hsome e2 e3 e4 hlt hq hsy2 hp16 hc2 hfc
            generalize 2 * c = c2 at *
            rw [Int.natCast_add] at hor
            generalize rdVal s (a + j) 1 = r at *
            go_wp2_with fail
            refine HB.out.mono ?_
            rintro e w1 ⟨rfl, hR1, hU1⟩
            go_wp2_with fail
            refine (fine_any b w1 _ s _ false hR1).mono ?_
            rintro e w2 ⟨rfl, rfl⟩
            have hD := HD.out _ (hU.then hU1)
            obtain ⟨g, vc, rfl, hg1, hg2⟩ := hD.row.form' hpos
            have d1 := hD.blk.cell (j + 1) (v := .int .i64 (cnt n (j + 1) : Nat)) (by rw [List.getElem?_append_left (by rw [length_i64s, length_cl]; omega), i64s_get _ _ _ (cl_get n (j + 1) (by omega))])
            have d2 := hD.blk.cell 16 (v := .slice (some ⟨g, 0, none⟩) (symsTo n 16).length vc) (by rw [List.getElem?_append_right (by rw [length_i64s, length_cl]; omega), length_i64s, length_cl]; rfl)
            have d3 := Row.cell hD.row _ (i64s_get _ _ _ hget)
            generalize (symsTo n (j + 1)).length = L at *
            generalize (symsTo n 16).length = L16 at *
            generalize fst n (j + 1) = F at *
            generalize cnt n (j + 1) = C at *
            have d4 : w1.cell? ⟨g, L + (F + q) - F, none⟩ = some (.int .i64 (x : Nat)) := by rw [show L + (F + q) - F = L + q by omega]; exact d3
            clear d3
            go_wp2
            go_returns
            rw [HN.out]
            exact ⟨rfl, hR1, hU.then hU1⟩
          · have hnone : symAt n (j + 1) (2 * c + rdVal s (a + j) 1) = none := by
              unfold symAt; rw [if_neg (by omega)]
            rw [show 15 - j = (14 - j) + 1 by omega, nxtF_none hend hnone] at hnx
            have hge : fst n (j + 1) + cnt n (j + 1) ≤ 2 * c + rdVal s (a + j) 1 := by omega
            obtain ⟨c', hc'⟩ : ∃ c', c' = 2 * c + rdVal s (a + j) 1 := ⟨_, rfl⟩
            rw [← hc'] at hnx hge hor
            have hc2' : c' < 2 ^ (j + 1) := by omega
            have hc16 : c' ≤ 65536 := by omega
            have hlt' : decide ((c' : Int) - (fst n (j + 1) : Int) < (cnt n (j + 1) : Int)) = false := by simp; omega
            have HN := Lib.hid hnx
            have HC2 := Lib.hid hc2'
            have hF16 : fst n (j + 1) + cnt n (j + 1) ≤ 65536 := by omega
            have hL16 : (symsTo n (j + 1)).length ≤ 4500 := by omega
            have hc2b : 2 * c ≤ 65536 := by omega
            clear hnx hnone e2 e3 e4 hlt hsy2 hp16 hc2 hfc hc' hc2'
            generalize 2 * c = c2 at *
            generalize rdVal s (a + j) 1 = r at *
            go_wp2_with fail
            refine HB.out.mono ?_
            rintro e w1 ⟨rfl, hR1, hU1⟩
            go_wp2_with fail
            refine (fine_any b w1 _ s _ false hR1).mono ?_
            rintro e w2 ⟨rfl, rfl⟩
            have hD := HD.out _ (hU.then hU1)
            have d1 := hD.blk.cell (j + 1) (v := .int .i64 (cnt n (j + 1) : Nat)) (by rw [List.getElem?_append_left (by rw [length_i64s, length_cl]; omega), i64s_get _ _ _ (cl_get n (j + 1) (by omega))])
            generalize (symsTo n (j + 1)).length = L at *
            generalize fst n (j + 1) = F at *
            generalize cnt n (j + 1) = C at *
            go_wp2
            go_roundg (15 - (j + 1))
            case measure => omega
            case rel =>
              refine ⟨j + 1, c', by omega, rfl, by go_num, by go_num, by rw [hfn.out]; go_num, by rw [hsn.out]; go_num, HC2.out, by rw [hfn.out]; omega, by omega, ?_, ?_⟩
              · rw [HN.out, show 15 - (j + 1) = 14 - j by omega, Nat.add_assoc a j 1]
              · rw [← Nat.add_assoc]; exact ⟨hR1, hU.then hU1⟩
        · have e2 : rdBad s (a + j) false 1 = true := by simp [rdBad]; omega
          have e3 : rdTo s (a + j) false 1 = a + j := by unfold rdTo; rw [e2]; rfl
          have e4 : rdNum s (a + j) false 1 = 0 := by unfold rdNum; rw [e2]; rfl
          rw [e2, e3, e4] at HB
          rw [show 15 - j = (14 - j) + 1 by omega, nxtF_end hend] at hnx
          rw [hnx]
          clear e2 e3 e4 hnx
          have hcb : 2 * c ≤ 65536 := by omega
          generalize 2 * c = c2 at *
          generalize fst n (j + 1) = F at *
          generalize (symsTo n (j + 1)).length = L at *
          go_wp2_with fail
          refine HB.out.mono ?_
          rintro e w1 ⟨rfl, hR1, hU1⟩
          go_wp2_with fail
          refine (fine_any b w1 _ s _ true hR1).mono ?_
          rintro e w2 ⟨rfl, rfl⟩
          go_wp2
          go_returns
          exact ⟨rfl, hR1, hU.then hU1⟩
      · have hj15 : j = 15 := by omega
        have hcz : ¬ (j : Int) + 1 ≤ 15 := by omega
        subst hj15
        have HN := Lib.hid (show nxtF n s 15 1 a 0 = (none, a + 15, false) from hnx)
        clear hnx
        generalize fst n (15 + 1) = F at *
        generalize (symsTo n (15 + 1)).length = L at *
        generalize 2 * c = c2 at *
        go_wp2
        go_returns
        rw [HN.out]
        exact ⟨rfl, hRr, hU⟩
end Go.Proofs.YtdehkaknbmbieaaGreat
namespace Go.Proofs.YtdehkaknbmbieaaGreat
set_option linter.unusedVariables false
set_option linter.unusedSimpArgs false
set_option linter.unusedSectionVars false
open Go.RowKit
set_option linter.unusedVariables false

theorem idx_prefix (n : List Nat) (k i m : Nat) : ∃ r, idx n k (i + m) = idx n k i ++ r := by
  induction m with
  | zero => exact ⟨[], by simp⟩
  | succ m ih =>
    obtain ⟨r, hr⟩ := ih
    exact ⟨r ++ if n.getD (i + m) 0 = k then [i + m] else [], by rw [← Nat.add_assoc, idx_succ, hr, List.append_assoc]⟩
theorem symAt_code (n : List Nat) (i k : Nat) (h1 : 1 ≤ k) (hi : i < n.length) (hk : n.getD i 0 = k) : symAt n k (codeAt n i) = some i := by
  have hc : codeAt n i = fst n k + (n.take i).count k := by unfold codeAt; rw [if_neg (by omega), hk]
  have hlt := count_le_of n i k hi hk
  have hcn : cnt n k = n.count k := by unfold cnt; rw [if_neg (by omega)]
  unfold symAt
  rw [hc, if_pos ⟨by omega, by omega⟩, Nat.add_sub_cancel_left]
  obtain ⟨r, hr⟩ := idx_prefix n k (i + 1) (n.length - (i + 1))
  rw [show i + 1 + (n.length - (i + 1)) = n.length by omega, idx_succ, if_pos hk] at hr
  have hl := length_idx n k i (by omega)
  rw [hr, ← hl, List.append_assoc, List.getD, List.getElem?_append_right (by omega)]
  simp
theorem symAt_none' (n : List Nat) (k c : Nat) (h : ¬ (fst n k ≤ c ∧ c < fst n k + cnt n k)) : symAt n k c = none := by unfold symAt; rw [if_neg h]
theorem codes_get (n : List Nat) (i : Nat) (h : i < n.length) : (codes n)[i]? = some (codeAt n i) := by simp [codes, h]

set_option maxRecDepth 100000 in
set_option maxHeartbeats 3200000 in
theorem rnext_any (x : Option Addr) (cap g b : Nat) (l : List Int) (w : World) (s : ByteArray) (a : Nat) (bad : Bool) (hI : IntsIn w x l.length l)
    (hC : Row w 53 1 (.slice (some ⟨g, 0, none⟩) l.length l.length) l.length (u32s (codes (nats l))))
    (hR : RdAt w b 67 s a bad) (hs : s.size ≤ 1099511627776)
    (hx : ∀ b' off, x = some ⟨b', off, none⟩ → b' ∉ [b]) (hgb : g ≠ b) (hk3 : kindOf l ≠ 3) :
    Calls Tryz.prog 97 #[.slice x l.length cap, .slice (some ⟨g, 0, none⟩) l.length l.length, .pointer (some ⟨b, 0, none⟩)] w
      (RdPost w b 67 s (nxtVal (nxt (nats l) s a bad)) (nxt (nats l) s a bad).2.1 (nxt (nats l) s a bad).2.2) := by
  obtain ⟨hok, hps⟩ := kindOf_ok hk3
  clear hk3
  have hnl := length_nats l
  have h300 := (okLens_spec hok).1
  cases bad with
  | true =>
    have HB := Lib.hid (rrbits_any b 1 w s a true hR hs)
    have e1 : nxt (nats l) s a true = (none, a, true) := rfl
    rw [e1]
    have e2 : rdBad s a true 1 = true := rfl
    have e3 : rdTo s a true 1 = a := rfl
    have e4 : rdNum s a true 1 = 0 := rfl
    rw [e2, e3, e4] at HB
    clear e1 e2 e3 e4
    go_enter Tryz.func97, Tryz.ntmps97
    go_wp2
    refine wp_loop_rounds 1 ?_
    rw [rounds_succ]
    go_wp2_with fail
    refine HB.out.mono ?_
    rintro e w1 ⟨rfl, hR1, hU1⟩
    have k2 := hR1.1.cell 2 rfl
    go_wp2
    go_returns
    exact ⟨rfl, hR1, hU1⟩
  | false =>
    have e1 : nxt (nats l) s a false = nxtF (nats l) s 15 1 a 0 := rfl
    rw [e1]
    have hpb := Lib.hid (fun k hk => fst_cnt (nats l) hps k hk)
    have hle := hR.2
    have HO := Lib.hid hok
    have hRel0 : RdRel w b 67 s (a + 0) w := ⟨hR, .refl _ _⟩
    have HI := Lib.hid (fun w' (hU : Upd [b] w w') => hI.upd hU hx)
    have HC := Lib.hid (fun w' (hU : Upd [b] w w') => hC.upd hU (fun k hk hm => by simp [Value.ownBlock] at hk hm; omega))
    clear hps e1 hR hI hC hx hgb hok
    go_enter Tryz.func97, Tryz.ntmps97
    go_wp2
    go_loopg [8, 9] 15 (fun g s8 s9 wr => ∃ j c, j ≤ 15 ∧ g = 15 - j ∧ s9 = .int .i64 ((j + 1 : Nat) : Int) ∧ s8 = .int .u32 (c : Nat) ∧ c < 2 ^ j ∧ a + j ≤ 8 * s.size ∧ nxtF (nats l) s 15 1 a 0 = nxtF (nats l) s (15 - j) (j + 1) (a + j) c ∧ RdRel w b 67 s (a + j) wr)
    case atStart => exact ⟨0, 0, by omega, rfl, rfl, rfl, by simp, by omega, rfl, hRel0⟩
    case round =>
      obtain ⟨j, c, hj, rfl, rfl, rfl, hc2, haj, hnx, hRr, hU⟩ := hrel
      clear hRel0
      by_cases hc : j < 15
      · have hcz : (j : Int) + 1 ≤ 15 := by omega
        have hp15 : 2 ^ j ≤ 2 ^ 14 := Nat.pow_le_pow_right (by omega) (by omega)
        have HB := Lib.hid (rrbits_any b 1 wr s (a + j) false hRr hs)
        by_cases hend : a + j < 8 * s.size
        · have e2 : rdBad s (a + j) false 1 = false := by simp [rdBad]; omega
          have e3 : rdTo s (a + j) false 1 = a + j + 1 := by unfold rdTo; rw [e2]; rfl
          have e4 : rdNum s (a + j) false 1 = rdVal s (a + j) 1 := by unfold rdNum; rw [e2]; rfl
          rw [e2, e3, e4] at HB
          have hbl := rdVal_lt s (a + j) 1
          have hp16 : 2 ^ (j + 1) = 2 * 2 ^ j := by rw [Nat.pow_succ, Nat.mul_comm]
          obtain ⟨c', hc'⟩ : ∃ c', 2 * c + rdVal s (a + j) 1 = c' := ⟨_, rfl⟩
          have hsome : ∀ i, symAt (nats l) (j + 1) c' = some i → nxtF (nats l) s 15 1 a 0 = (some i, a + j + 1, false) := fun i hi => by
            rw [hnx, show 15 - j = (14 - j) + 1 by omega, nxtF_some hend (by rw [hc']; exact hi)]
          have hnone : symAt (nats l) (j + 1) c' = none → nxtF (nats l) s 15 1 a 0 = nxtF (nats l) s (14 - j) (j + 1 + 1) (a + j + 1) c' := fun hi => by
            rw [hnx, show 15 - j = (14 - j) + 1 by omega, nxtF_none hend (by rw [hc']; exact hi), hc']
          have HS := Lib.hid hsome
          have HN := Lib.hid hnone
          have hcc : Hid (c' < 2 ^ (j + 1)) := Lib.hid (by omega)
          have hcb : c' ≤ 65536 := by omega
          have hcI : 2 * (c : Int) + ((rdVal s (a + j) 1 : Nat) : Int) = (c' : Int) := by omega
          clear hsome hnone hc' e2 e3 e4 hnx hc2 hp16
          generalize rdVal s (a + j) 1 = r at *
          go_wp2_with fail
          refine HB.out.mono ?_
          rintro e w1 ⟨rfl, hR1, hU1⟩
          have k2 := hR1.1.cell 2 rfl
          have hUw := hU.then hU1
          have hI1 := HI.out _ hUw
          have hC1 := HC.out _ hUw
          go_wp2
          go_loopg [26] l.length (fun g s26 wx => ∃ i, i ≤ l.length ∧ g = l.length - i ∧ s26 = .int .i64 (i : Nat) ∧ ¬ (fst (nats l) (j + 1) ≤ c' ∧ c' < fst (nats l) (j + 1) + ((nats l).take i).count (j + 1)) ∧ w1 = wx)
          case atStart => exact ⟨0, by omega, rfl, rfl, by simp, rfl⟩
          case round =>
            obtain ⟨i, hin, rfl, rfl, hnot, rfl⟩ := hrel
            by_cases hc3 : i < l.length
            · have hcz2 : (i : Int) < (l.length : Int) := by omega
              obtain ⟨ba, off, rfl, c0, r1, r2⟩ := hI1.cell i hc3
              have hkk := (okLens_spec HO.out).2 _ (List.getElem_mem hc3)
              obtain ⟨y, hy⟩ : ∃ y : Nat, l[i] = (y : Int) := ⟨l[i].toNat, by omega⟩
              have hin' : i < (nats l).length := by omega
              have hnk : (nats l)[i] = y := by simp [nats, hy]
              have hnd : (nats l).getD i 0 = y := by rw [List.getD, List.getElem?_eq_getElem hin']; exact hnk
              rw [hy] at c0 hkk
              have d2 := Row.cell hC1 i (u32s_get _ _ _ (codes_get (nats l) i hin'))
              have hct : ((nats l).take (i + 1)).count (j + 1) = ((nats l).take i).count (j + 1) + if y = j + 1 then 1 else 0 := by
                rw [take_snoc' (nats l) i hin', List.count_append, hnk]; simp [List.count_cons]
              clear hy r1 r2
              by_cases hyk : y = j + 1
              · have hyf : ((y : Int) == (j : Int) + 1) = true := by simp; omega
                have hcd : codeAt (nats l) i = fst (nats l) (j + 1) + ((nats l).take i).count (j + 1) := by unfold codeAt; rw [hnd, if_neg (by omega), hyk]
                by_cases hcq : codeAt (nats l) i = c'
                · have hcf : (((codeAt (nats l) i : Nat) : Int) == (c' : Int)) = true := by simp; omega
                  have hsy := Lib.hid (HS.out i (by rw [← hcq]; exact symAt_code (nats l) i (j + 1) (by omega) hin' (by rw [hnd, hyk])))
                  clear hcd hct hcq hnot hyk hnd hnk
                  generalize codeAt (nats l) i = cd at *
                  go_wp2
                  go_returns
                  rw [hsy.out]
                  exact ⟨rfl, hR1, hUw⟩
                · have hcf : (((codeAt (nats l) i : Nat) : Int) == (c' : Int)) = false := by simp; omega
                  have hnot2 : ¬ (fst (nats l) (j + 1) ≤ c' ∧ c' < fst (nats l) (j + 1) + ((nats l).take (i + 1)).count (j + 1)) := by
                    rw [hct, if_pos hyk]; omega
                  have HT := Lib.hid hnot2
                  clear hcd hct hcq hnot hnot2 hyk hnd hnk
                  generalize codeAt (nats l) i = cd at *
                  go_wp2
                  go_roundg (l.length - (i + 1))
                  case measure => omega
                  case rel => exact ⟨i + 1, by omega, rfl, by go_num, HT.out, rfl⟩
              · have hyf : ((y : Int) == (j : Int) + 1) = false := by simp; omega
                have hnot2 : ¬ (fst (nats l) (j + 1) ≤ c' ∧ c' < fst (nats l) (j + 1) + ((nats l).take (i + 1)).count (j + 1)) := by
                  rw [hct, if_neg hyk]; exact hnot
                have HT := Lib.hid hnot2
                clear hct hnot hnot2 hyk hnd hnk d2
                go_wp2
                go_roundg (l.length - (i + 1))
                case measure => omega
                case rel => exact ⟨i + 1, by omega, rfl, by go_num, HT.out, rfl⟩
            · have hi : i = (nats l).length := by omega
              have hcz2 : ¬ (i : Int) < (l.length : Int) := by omega
              rw [hi, List.take_length] at hnot
              have hnx := Lib.hid (HN.out (symAt_none' _ _ _ (by unfold cnt; rw [if_neg (by omega)]; exact hnot)))
              clear hnot hi
              go_wp2
              go_roundg (15 - (j + 1))
              case measure => omega
              case rel =>
                refine ⟨j + 1, c', by omega, rfl, by go_num, rfl, hcc.out, by omega, ?_, ?_⟩
                · rw [hnx.out, show 15 - (j + 1) = 14 - j by omega, Nat.add_assoc a j 1]
                · rw [← Nat.add_assoc]; exact ⟨hR1, hUw⟩
        · have e2 : rdBad s (a + j) false 1 = true := by simp [rdBad]; omega
          have e3 : rdTo s (a + j) false 1 = a + j := by unfold rdTo; rw [e2]; rfl
          have e4 : rdNum s (a + j) false 1 = 0 := by unfold rdNum; rw [e2]; rfl
          rw [e2, e3, e4] at HB
          rw [show 15 - j = (14 - j) + 1 by omega, nxtF_end hend] at hnx
          have HN := Lib.hid hnx
          have hcb : c ≤ 65536 := by omega
          clear e2 e3 e4 hnx
          go_wp2_with fail
          refine HB.out.mono ?_
          rintro e w1 ⟨rfl, hR1, hU1⟩
          have k2 := hR1.1.cell 2 rfl
          go_wp2
          go_returns
          rw [HN.out]
          exact ⟨rfl, hR1, hU.then hU1⟩
      · have hj15 : j = 15 := by omega
        have hcz : ¬ (j : Int) + 1 ≤ 15 := by omega
        subst hj15
        have HN := Lib.hid (show nxtF (nats l) s 15 1 a 0 = (none, a + 15, false) from hnx)
        clear hnx
        go_wp2
        go_returns
        rw [HN.out]
        exact ⟨rfl, hRr, hU⟩
end Go.Proofs.YtdehkaknbmbieaaGreat

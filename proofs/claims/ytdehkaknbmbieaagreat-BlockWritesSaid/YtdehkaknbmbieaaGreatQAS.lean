/- The walk of the reference's reading of a symbol (swingleref04.Next). -/
import Derived.Test.YtdehkaknbmbieaaGreatQAR
import Derived.Test.YtdehkaknbmbieaaGreatQAQ
import Derived.WalkLawsBesides
import Derived.Test.YtdehkaknbmbieaaGreatQAN
import Derived.Test.YtdehkaknbmbieaaGreatQAO
namespace Go.Proofs.YtdehkaknbmbieaaGreat
set_option linter.unusedVariables false
set_option linter.unusedSimpArgs false
set_option linter.unusedSectionVars false
open Go.RowKit
set_option linter.unusedVariables false

theorem idx_prefix (n : List Nat) (k i m : Nat) : ∃ r, idx n k (i + m) = idx n k i ++ r := by
  induction m with
  | zero => exact ⟨[], by simp⟩
  | succ m ih =>
    obtain ⟨r, hr⟩ := ih
    exact ⟨r ++ if n.getD (i + m) 0 = k then [i + m] else [], by rw [← Nat.add_assoc, idx_succ, hr, List.append_assoc]⟩
theorem symAt_code (n : List Nat) (i k : Nat) (h1 : 1 ≤ k) (hi : i < n.length) (hk : n.getD i 0 = k) : symAt n k (codeAt n i) = some i := by
  have hc : codeAt n i = fst n k + (n.take i).count k := by unfold codeAt; rw [if_neg (by omega), hk]
  have hlt := count_le_of n i k hi hk
  have hcn : cnt n k = n.count k := by unfold cnt; rw [if_neg (by omega)]
  unfold symAt
  rw [hc, if_pos ⟨by omega, by omega⟩, Nat.add_sub_cancel_left]
  obtain ⟨r, hr⟩ := idx_prefix n k (i + 1) (n.length - (i + 1))
  rw [show i + 1 + (n.length - (i + 1)) = n.length by omega, idx_succ, if_pos hk] at hr
  have hl := length_idx n k i (by omega)
  rw [hr, ← hl, List.append_assoc, List.getD, List.getElem?_append_right (by omega)]
  simp
theorem symAt_none' (n : List Nat) (k c : Nat) (h : ¬ (fst n k ≤ c ∧ c < fst n k + cnt n k)) : symAt n k c = none := by unfold symAt; rw [if_neg h]
theorem codes_get (n : List Nat) (i : Nat) (h : i < n.length) : (codes n)[i]? = some (codeAt n i) := by simp [codes, h]

set_option maxRecDepth 100000 in
set_option maxHeartbeats 3200000 in
theorem rnext_any (x : Option Addr) (cap g b : Nat) (l : List Int) (w : World) (s : ByteArray) (a : Nat) (bad : Bool) (hI : IntsIn w x l.length l)
    (hC : Row w 53 1 (.slice (some ⟨g, 0, none⟩) l.length l.length) l.length (u32s (codes (nats l))))
    (hR : RdAt w b 67 s a bad) (hs : s.size ≤ 1099511627776)
    (hx : ∀ b' off, x = some ⟨b', off, none⟩ → b' ∉ [b]) (hgb : g ≠ b) (hk3 : kindOf l ≠ 3) :
    Calls Tryz.prog 97 #[.slice x l.length cap, .slice (some ⟨g, 0, none⟩) l.length l.length, .pointer (some ⟨b, 0, none⟩)] w
      (RdPost w b 67 s (nxtVal (nxt (nats l) s a bad)) (nxt (nats l) s a bad).2.1 (nxt (nats l) s a bad).2.2) := by
  obtain ⟨hok, hps⟩ := kindOf_ok hk3
  clear hk3
  have hnl := length_nats l
  have h300 := (okLens_spec hok).1
  cases bad with
  | true =>
    have HB := Lib.hid (rrbits_any b 1 w s a true hR hs)
    have e1 : nxt (nats l) s a true = (none, a, true) := rfl
    rw [e1]
    have e2 : rdBad s a true 1 = true := rfl
    have e3 : rdTo s a true 1 = a := rfl
    have e4 : rdNum s a true 1 = 0 := rfl
    rw [e2, e3, e4] at HB
    clear e1 e2 e3 e4
    go_enter Tryz.func97, Tryz.ntmps97
    go_wp2
    refine wp_loop_rounds 1 ?_
    rw [rounds_succ]
    go_wp2_with fail
    refine HB.out.mono ?_
    rintro e w1 ⟨rfl, hR1, hU1⟩
    have k2 := hR1.1.cell 2 rfl
    go_wp2
    go_returns
    exact ⟨rfl, hR1, hU1⟩
  | false =>
    have e1 : nxt (nats l) s a false = nxtF (nats l) s 15 1 a 0 := rfl
    rw [e1]
    have hpb := Lib.hid (fun k hk => fst_cnt (nats l) hps k hk)
    have hle := hR.2
    have HO := Lib.hid hok
    have hRel0 : RdRel w b 67 s (a + 0) w := ⟨hR, .refl _ _⟩
    have HI := Lib.hid (fun w' (hU : Upd [b] w w') => hI.upd hU hx)
    have HC := Lib.hid (fun w' (hU : Upd [b] w w') => hC.upd hU (fun k hk hm => by simp [Value.ownBlock] at hk hm; omega))
    clear hps e1 hR hI hC hx hgb hok
    go_enter Tryz.func97, Tryz.ntmps97
    go_wp2
    go_loopg [8, 9] 15 (fun g s8 s9 wr => ∃ j c, j ≤ 15 ∧ g = 15 - j ∧ s9 = .int .i64 ((j + 1 : Nat) : Int) ∧ s8 = .int .u32 (c : Nat) ∧ c < 2 ^ j ∧ a + j ≤ 8 * s.size ∧ nxtF (nats l) s 15 1 a 0 = nxtF (nats l) s (15 - j) (j + 1) (a + j) c ∧ RdRel w b 67 s (a + j) wr)
    case atStart => exact ⟨0, 0, by omega, rfl, rfl, rfl, by simp, by omega, rfl, hRel0⟩
    case round =>
      obtain ⟨j, c, hj, rfl, rfl, rfl, hc2, haj, hnx, hRr, hU⟩ := hrel
      clear hRel0
      by_cases hc : j < 15
      · have hcz : (j : Int) + 1 ≤ 15 := by omega
        have hp15 : 2 ^ j ≤ 2 ^ 14 := Nat.pow_le_pow_right (by omega) (by omega)
        have HB := Lib.hid (rrbits_any b 1 wr s (a + j) false hRr hs)
        by_cases hend : a + j < 8 * s.size
        · have e2 : rdBad s (a + j) false 1 = false := by simp [rdBad]; omega
          have e3 : rdTo s (a + j) false 1 = a + j + 1 := by unfold rdTo; rw [e2]; rfl
          have e4 : rdNum s (a + j) false 1 = rdVal s (a + j) 1 := by unfold rdNum; rw [e2]; rfl
          rw [e2, e3, e4] at HB
          have hbl := rdVal_lt s (a + j) 1
          have hp16 : 2 ^ (j + 1) = 2 * 2 ^ j := by rw [Nat.pow_succ, Nat.mul_comm]
          obtain ⟨c', hc'⟩ : ∃ c', 2 * c + rdVal s (a + j) 1 = c' := ⟨_, rfl⟩
          have hsome : ∀ i, symAt (nats l) (j + 1) c' = some i → nxtF (nats l) s 15 1 a 0 = (some i, a + j + 1, false) := fun i hi => by
            rw [hnx, show 15 - j = (14 - j) + 1 by omega, nxtF_some hend (by rw [hc']; exact hi)]
          have hnone : symAt (nats l) (j + 1) c' = none → nxtF (nats l) s 15 1 a 0 = nxtF (nats l) s (14 - j) (j + 1 + 1) (a + j + 1) c' := fun hi => by
            rw [hnx, show 15 - j = (14 - j) + 1 by omega, nxtF_none hend (by rw [hc']; exact hi), hc']
          have HS := Lib.hid hsome
          have HN := Lib.hid hnone
          have hcc : Hid (c' < 2 ^ (j + 1)) := Lib.hid (by omega)
          have hcb : c' ≤ 65536 := by omega
          have hcI : 2 * (c : Int) + ((rdVal s (a + j) 1 : Nat) : Int) = (c' : Int) := by omega
          clear hsome hnone hc' e2 e3 e4 hnx hc2 hp16
          generalize rdVal s (a + j) 1 = r at *
          go_wp2_with fail
          refine HB.out.mono ?_
          rintro e w1 ⟨rfl, hR1, hU1⟩
          have k2 := hR1.1.cell 2 rfl
          have hUw := hU.then hU1
          have hI1 := HI.out _ hUw
          have hC1 := HC.out _ hUw
          go_wp2
          go_loopg [26] l.length (fun g s26 wx => ∃ i, i ≤ l.length ∧ g = l.length - i ∧ s26 = .int .i64 (i : Nat) ∧ ¬ (fst (nats l) (j + 1) ≤ c' ∧ c' < fst (nats l) (j + 1) + ((nats l).take i).count (j + 1)) ∧ w1 = wx)
          case atStart => exact ⟨0, by omega, rfl, rfl, by simp, rfl⟩
          case round =>
            obtain ⟨i, hin, rfl, rfl, hnot, rfl⟩ := hrel
            by_cases hc3 : i < l.length
            · have hcz2 : (i : Int) < (l.length : Int) := by omega
              obtain ⟨ba, off, rfl, c0, r1, r2⟩ := hI1.cell i hc3
              have hkk := (okLens_spec HO.out).2 _ (List.getElem_mem hc3)
              obtain ⟨y, hy⟩ : ∃ y : Nat, l[i] = (y : Int) := ⟨l[i].toNat, by omega⟩
              have hin' : i < (nats l).length := by omega
              have hnk : (nats l)[i] = y := by simp [nats, hy]
              have hnd : (nats l).getD i 0 = y := by rw [List.getD, List.getElem?_eq_getElem hin']; exact hnk
              rw [hy] at c0 hkk
              have d2 := Row.cell hC1 i (u32s_get _ _ _ (codes_get (nats l) i hin'))
              have hct : ((nats l).take (i + 1)).count (j + 1) = ((nats l).take i).count (j + 1) + if y = j + 1 then 1 else 0 := by
                rw [take_snoc' (nats l) i hin', List.count_append, hnk]; simp [List.count_cons]
              clear hy r1 r2
              by_cases hyk : y = j + 1
              · have hyf : ((y : Int) == (j : Int) + 1) = true := by simp; omega
                have hcd : codeAt (nats l) i = fst (nats l) (j + 1) + ((nats l).take i).count (j + 1) := by unfold codeAt; rw [hnd, if_neg (by omega), hyk]
                by_cases hcq : codeAt (nats l) i = c'
                · have hcf : (((codeAt (nats l) i : Nat) : Int) == (c' : Int)) = true := by simp; omega
                  have hsy := Lib.hid (HS.out i (by rw [← hcq]; exact symAt_code (nats l) i (j + 1) (by omega) hin' (by rw [hnd, hyk])))
                  clear hcd hct hcq hnot hyk hnd hnk
                  generalize codeAt (nats l) i = cd at *
                  go_wp2
                  go_returns
                  rw [hsy.out]
                  exact ⟨rfl, hR1, hUw⟩
                · have hcf : (((codeAt (nats l) i : Nat) : Int) == (c' : Int)) = false := by simp; omega
                  have hnot2 : ¬ (fst (nats l) (j + 1) ≤ c' ∧ c' < fst (nats l) (j + 1) + ((nats l).take (i + 1)).count (j + 1)) := by
                    rw [hct, if_pos hyk]; omega
                  have HT := Lib.hid hnot2
                  clear hcd hct hcq hnot hnot2 hyk hnd hnk
                  generalize codeAt (nats l) i = cd at *
                  go_wp2
                  go_roundg (l.length - (i + 1))
                  case measure => omega
                  case rel => exact ⟨i + 1, by omega, rfl, by go_num, HT.out, rfl⟩
              · have hyf : ((y : Int) == (j : Int) + 1) = false := by simp; omega
                have hnot2 : ¬ (fst (nats l) (j + 1) ≤ c' ∧ c' < fst (nats l) (j + 1) + ((nats l).take (i + 1)).count (j + 1)) := by
                  rw [hct, if_neg hyk]; exact hnot
                have HT := Lib.hid hnot2
                clear hct hnot hnot2 hyk hnd hnk d2
                go_wp2
                go_roundg (l.length - (i + 1))
                case measure => omega
                case rel => exact ⟨i + 1, by omega, rfl, by go_num, HT.out, rfl⟩
            · have hi : i = (nats l).length := by omega
              have hcz2 : ¬ (i : Int) < (l.length : Int) := by omega
              rw [hi, List.take_length] at hnot
              have hnx := Lib.hid (HN.out (symAt_none' _ _ _ (by unfold cnt; rw [if_neg (by omega)]; exact hnot)))
              clear hnot hi
              go_wp2
              go_roundg (15 - (j + 1))
              case measure => omega
              case rel =>
                refine ⟨j + 1, c', by omega, rfl, by go_num, rfl, hcc.out, by omega, ?_, ?_⟩
                · rw [hnx.out, show 15 - (j + 1) = 14 - j by omega, Nat.add_assoc a j 1]
                · rw [← Nat.add_assoc]; exact ⟨hR1, hUw⟩
        · have e2 : rdBad s (a + j) false 1 = true := by simp [rdBad]; omega
          have e3 : rdTo s (a + j) false 1 = a + j := by unfold rdTo; rw [e2]; rfl
          have e4 : rdNum s (a + j) false 1 = 0 := by unfold rdNum; rw [e2]; rfl
          rw [e2, e3, e4] at HB
          rw [show 15 - j = (14 - j) + 1 by omega, nxtF_end hend] at hnx
          have HN := Lib.hid hnx
          have hcb : c ≤ 65536 := by omega
          clear e2 e3 e4 hnx
          go_wp2_with fail
          refine HB.out.mono ?_
          rintro e w1 ⟨rfl, hR1, hU1⟩
          have k2 := hR1.1.cell 2 rfl
          go_wp2
          go_returns
          rw [HN.out]
          exact ⟨rfl, hR1, hU.then hU1⟩
      · have hj15 : j = 15 := by omega
        have hcz : ¬ (j : Int) + 1 ≤ 15 := by omega
        subst hj15
        have HN := Lib.hid (show nxtF (nats l) s 15 1 a 0 = (none, a + 15, false) from hnx)
        clear hnx
        go_wp2
        go_returns
        rw [HN.out]
        exact ⟨rfl, hRr, hU⟩
end Go.Proofs.YtdehkaknbmbieaaGreat
namespace Go.Proofs.YtdehkaknbmbieaaGreat
set_option linter.unusedVariables false
set_option linter.unusedSimpArgs false
set_option linter.unusedSectionVars false
open Go.RowKit
set_option linter.unusedVariables false

/-- A number of n bits, and where it ends; else the error's number. -/
def takeP (s : ByteArray) (a n : Nat) : Except Nat (Nat × Nat) := if a + n ≤ 8 * s.size then .ok (rdVal s a n, a + n) else .error 3
/-- A symbol, by lengths. -/
def nextP (l : List Int) (s : ByteArray) (a : Nat) : Except Nat (Nat × Nat) :=
  if kindOf l = 3 ∨ kindOf l = 0 then .error 2 else
    match nxt (nats l) s a false with
    | (some x, a', _) => .ok (x, a')
    | (none, _, true) => .error 3
    | (none, _, false) => .error 2

theorem nxtF_some_fine (n : List Nat) (s : ByteArray) (f k a c : Nat) {x : Nat} (h : (nxtF n s f k a c).1 = some x) : (nxtF n s f k a c).2.2 = false := by
  induction f generalizing k a c with
  | zero => rfl
  | succ f ih =>
    by_cases h1 : a < 8 * s.size
    · cases hx : symAt n k (2 * c + rdVal s a 1) with
      | some y => rw [nxtF_some h1 hx]
      | none => rw [nxtF_none h1 hx] at h ⊢; exact ih _ _ _ h
    · rw [nxtF_end h1] at h; cases h
theorem nxt_some (n : List Nat) (s : ByteArray) (a : Nat) {x : Nat} (h : (nxt n s a false).1 = some x) : (nxt n s a false).2.2 = false := nxtF_some_fine n s 15 1 a 0 h

/-- A decoder for lengths: none, where they are none or over. -/
def DecFor (w : World) (dv : Value) (l : List Int) (b : Nat) : Prop :=
  (dv = .pointer none ∧ (kindOf l = 3 ∨ kindOf l = 0)) ∨ (kindOf l ≠ 3 ∧ kindOf l ≠ 0 ∧ ∃ d v, dv = .pointer (some ⟨d, 0, none⟩) ∧ DcAt w d v (nats l) ∧ d ≠ b ∧ v.ownBlock ≠ some b)
theorem DecFor.upd {w w' : World} {dv : Value} {l : List Int} {b : Nat} (h : DecFor w dv l b) (hU : Upd [b] w w') : DecFor w' dv l b := by
  rcases h with h | ⟨h1, h2, d, v, e, hD, h3, h4⟩
  · exact .inl h
  · exact .inr ⟨h1, h2, d, v, e, hD.upd hU (by simpa using h3) (fun k hk hm => by simp at hm; exact h4 (by rw [hk, hm])), h3, h4⟩

end Go.Proofs.YtdehkaknbmbieaaGreat
namespace Go.Proofs.YtdehkaknbmbieaaGreat
set_option linter.unusedVariables false
set_option linter.unusedSimpArgs false
set_option linter.unusedSectionVars false
open Go.RowKit
set_option linter.unusedVariables false

/-- A symbol that says how often which length comes. -/
def againP (s : ByteArray) (sym : Nat) (L : List Nat) (a : Nat) : Except Nat ((Nat × Nat) × Nat) :=
  if sym = 16 then (if L = [] then .error 2 else (takeP s a 2).map fun r => ((3 + r.1, L.getLastD 0), r.2))
  else if sym = 17 then (takeP s a 3).map fun r => ((3 + r.1, 0), r.2)
  else (takeP s a 7).map fun r => ((11 + r.1, 0), r.2)
theorem takeP_cases (s : ByteArray) (a n : Nat) : (∃ v, v < 2 ^ n ∧ a + n ≤ 8 * s.size ∧ takeP s a n = .ok (v, a + n)) ∨ takeP s a n = .error 3 := by
  unfold takeP
  by_cases h : a + n ≤ 8 * s.size
  · exact .inl ⟨_, rdVal_lt s a n, h, by rw [if_pos h]⟩
  · exact .inr (by rw [if_neg h])

end Go.Proofs.YtdehkaknbmbieaaGreat
namespace Go.Proofs.YtdehkaknbmbieaaGreat
set_option linter.unusedVariables false
set_option linter.unusedSimpArgs false
set_option linter.unusedSectionVars false
open Go.RowKit
set_option linter.unusedVariables false

/-- A length, or how often which. -/
def oneP (s : ByteArray) (k : Nat) (L : List Nat) (a : Nat) : Except Nat ((Nat × Nat) × Nat) := if 15 < k then againP s k L a else .ok ((1, k), a)
/-- Lengths, till there are as many. -/
def rowP (l : List Int) (s : ByteArray) (many : Nat) : Nat → List Nat → Nat → Except Nat (List Nat × Nat)
  | 0, L, a => .ok (L, a)
  | f + 1, L, a =>
    if L.length < many then
      match nextP l s a with
      | .error c => .error c
      | .ok r =>
        match oneP s r.1 L r.2 with
        | .error c => .error c
        | .ok q => if q.1.1 ≤ many - L.length then rowP l s many f (L ++ List.replicate q.1.1 q.1.2) q.2 else .error 2
    else .ok (L, a)
theorem rowP_end {l : List Int} {s : ByteArray} {many f a : Nat} {L : List Nat} (h : ¬ L.length < many) : rowP l s many f L a = .ok (L, a) := by
  cases f <;> simp [rowP, h]

theorem idx_lt (n : List Nat) (k i j : Nat) {x : Nat} (h : (idx n k i)[j]? = some x) : x < i := by
  have := List.mem_of_getElem? h
  simp only [idx, List.mem_filter, List.mem_range] at this
  exact this.1
theorem symAt_lt {n : List Nat} {k c x : Nat} (h : symAt n k c = some x) (hk : 1 ≤ k) : x < n.length := by
  unfold symAt at h
  split at h
  · rename_i hr
    have hl := length_idx_all n k hk
    have hj : c - fst n k < (idx n k n.length).length := by omega
    have hx : (idx n k n.length).getD (c - fst n k) 0 = x := Option.some.inj h
    rw [List.getD, List.getElem?_eq_getElem hj] at hx
    exact idx_lt n k n.length (c - fst n k) (by rw [List.getElem?_eq_getElem hj]; exact congrArg some hx)
  · cases h
theorem nxtF_lt (n : List Nat) (s : ByteArray) (f k a c : Nat) (hk : 1 ≤ k) {x : Nat} (h : (nxtF n s f k a c).1 = some x) : x < n.length := by
  induction f generalizing k a c with
  | zero => cases h
  | succ f ih =>
    by_cases h1 : a < 8 * s.size
    · cases hx : symAt n k (2 * c + rdVal s a 1) with
      | some y => rw [nxtF_some h1 hx] at h; cases h; exact symAt_lt hx hk
      | none => rw [nxtF_none h1 hx] at h; exact ih _ _ _ (by omega) h
    · rw [nxtF_end h1] at h; cases h
end Go.Proofs.YtdehkaknbmbieaaGreat
namespace Go.Proofs.YtdehkaknbmbieaaGreat
set_option linter.unusedVariables false
set_option linter.unusedSimpArgs false
set_option linter.unusedSectionVars false
open Go.RowKit
set_option linter.unusedVariables false

def orderL : List Nat := [16, 17, 18, 0, 8, 7, 9, 6, 10, 5, 11, 4, 12, 3, 13, 2, 14, 1, 15]
/-- The lengths of the lengths: m more, of which the next is number i. -/
def firstP (s : ByteArray) : Nat → Nat → List Nat → Nat → Except Nat (List Nat × Nat)
  | 0, _, L, a => .ok (L, a)
  | m + 1, i, L, a =>
    match takeP s a 3 with
    | .error c => .error c
    | .ok r => firstP s m (i + 1) (L.set (orderL.getD i 0) r.1) r.2
def tabEnd (n : Nat) (r : List Nat × Nat) : Except Nat ((List Nat × List Nat) × Nat) :=
  if 0 < r.1.getD 256 0 ∧ lensOk (ints (r.1.take n)) = true then
    if kindOf (ints (r.1.drop n)) = 0 ∨ lensOk (ints (r.1.drop n)) = true then .ok ((r.1.take n, r.1.drop n), r.2) else .error 2
  else .error 2
def tabRow (s : ByteArray) (n m : Nat) (r : List Nat × Nat) : Except Nat ((List Nat × List Nat) × Nat) :=
  if kindOf (ints r.1) = 1 then (rowP (ints r.1) s (n + m) (n + m) [] r.2) >>= tabEnd n else .error 2
def tabFirst (s : ByteArray) (n m k a : Nat) : Except Nat ((List Nat × List Nat) × Nat) :=
  if n ≤ 286 ∧ m ≤ 30 then (firstP s k 0 (List.replicate 19 0) a) >>= tabRow s n m else .error 2
def tablesP (s : ByteArray) (a : Nat) : Except Nat ((List Nat × List Nat) × Nat) :=
  takeP s a 5 >>= fun r1 => takeP s r1.2 5 >>= fun r2 => takeP s r2.2 4 >>= fun r3 => tabFirst s (257 + r1.1) (1 + r2.1) (4 + r3.1) r3.2

theorem orderL_get (i : Nat) (h : i < 19) : orderL[i]? = some (orderL.getD i 0) := by
  rw [List.getD, List.getElem?_eq_getElem h]; rfl
theorem orderL_lt (i : Nat) (h : i < 19) : orderL.getD i 0 < 19 := by
  have : ∀ i : Fin 19, orderL.getD i.val 0 < 19 := by decide
  exact this ⟨i, h⟩
theorem qnats_ints (L : List Nat) : nats (ints L) = L := by simp [nats, ints, Function.comp_def]
theorem length_ints (L : List Nat) : (ints L).length = L.length := by simp [ints]
/-- A part of a row, as integers. -/
theorem IntsIn.part {w : World} {g n cap : Nat} {L : List Nat} (h : Row w 3 1 (.slice (some ⟨g, 0, none⟩) n cap) n (i64s L)) (hb : ∀ x ∈ L, x ≤ 1099511627776) (off len : Nat) (hl : off + len ≤ L.length) :
    IntsIn w (some ⟨g, off, none⟩) (ints ((L.drop off).take len)).length (ints ((L.drop off).take len)) :=
  ⟨rfl, fun i hi => by
    have hi' : i < len := by simp [ints] at hi; omega
    have hLi : off + i < L.length := by omega
    have he : (ints ((L.drop off).take len))[i] = ((L[off + i] : Nat) : Int) := by simp [ints]
    refine ⟨g, off, rfl, ?_, ?_⟩
    · rw [he, Row.cell h (off + i) (i64s_get _ _ _ (List.getElem?_eq_getElem hLi))]
    · have := hb _ (List.getElem_mem hLi)
      rw [he]; omega⟩
theorem oneP_ok {s : ByteArray} {k a n v a' : Nat} {L : List Nat} (hL : ∀ x ∈ L, x ≤ 15) (h : oneP s k L a = .ok ((n, v), a')) : 1 ≤ n ∧ v ≤ 15 := by
  unfold oneP at h
  split at h
  · unfold againP at h
    split at h
    · split at h
      · cases h
      · rename_i hL0
        rcases takeP_cases s a 2 with ⟨t, _, _, ht⟩ | ht
        · rw [ht] at h; cases h
          refine ⟨by omega, ?_⟩
          rw [List.getLastD_eq_getLast?, List.getLast?_eq_some_getLast hL0]
          exact hL _ (List.getLast_mem hL0)
        · rw [ht] at h; cases h
    · split at h
      · rcases takeP_cases s a 3 with ⟨t, _, _, ht⟩ | ht
        · rw [ht] at h; cases h; omega
        · rw [ht] at h; cases h
      · rcases takeP_cases s a 7 with ⟨t, _, _, ht⟩ | ht
        · rw [ht] at h; cases h; omega
        · rw [ht] at h; cases h
  · cases h; omega
theorem rowP_ok {l : List Int} {s : ByteArray} {many : Nat} : ∀ (f : Nat) (L : List Nat) (a : Nat) (L' : List Nat) (a' : Nat), (∀ x ∈ L, x ≤ 15) → L.length ≤ many → many ≤ f + L.length → rowP l s many f L a = .ok (L', a') → L'.length = many ∧ ∀ x ∈ L', x ≤ 15 := by
  intro f
  induction f with
  | zero =>
    intro L a L' a' h15 h1 h2 h
    cases h
    exact ⟨by omega, h15⟩
  | succ f ih =>
    intro L a L' a' h15 h1 h2 h
    simp only [rowP] at h
    split at h
    · split at h
      · cases h
      · split at h
        · cases h
        · rename_i q hq
          split at h
          · rename_i hle
            obtain ⟨⟨n, v⟩, a2⟩ := q
            have ho := oneP_ok h15 hq
            simp only at hle
            refine ih _ _ _ _ ?_ ?_ ?_ h
            · intro x hx
              rcases List.mem_append.1 hx with h | h
              · exact h15 x h
              · simp at h; omega
            · simp; omega
            · simp; omega
          · cases h
    · cases h
      exact ⟨by omega, h15⟩
end Go.Proofs.YtdehkaknbmbieaaGreat

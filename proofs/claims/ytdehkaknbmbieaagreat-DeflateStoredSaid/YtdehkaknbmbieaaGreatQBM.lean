/- Package lz: Match of no text: its walk. -/
import Derived.Carry
import Derived.Test.YtdehkaknbmbieaaGreatQAO
import Derived.Test.YtdehkaknbmbieaaGreatSiz
import Derived.Test.YtdehkaknbmbieaaGreatQAL
import Derived.Test.YtdehkaknbmbieaaGreatQAD
import Derived.Test.YtdehkaknbmbieaaGreatLaid
import Derived.Test.YtdehkaknbmbieaaGreatQBI
import Derived.Test.YtdehkaknbmbieaaGreatQBB
import Derived.Test.YtdehkaknbmbieaaGreatQBD
import Derived.Test.YtdehkaknbmbieaaGreatQAE
import Derived.Deep.CutBlock
import Derived.WalkSpells
import Derived.Test.YtdehkaknbmbieaaGreatQAR
namespace Go.Proofs.YtdehkaknbmbieaaGreat
set_option linter.unusedVariables false
set_option linter.unusedSimpArgs false
set_option linter.unusedSectionVars false
open Go.RowKit
attribute [local go_sem] Oper.semAt_some
set_option linter.unusedVariables false
set_option linter.unusedSimpArgs false

set_option maxRecDepth 100000 in
set_option maxHeartbeats 6400000 in
theorem lzmatch0_any (w : World) :
    Calls Tryz.prog 37 #[.string ⟨#[]⟩, .int .i64 9] w fun e w' => e = .returned (.slice none 0 0) ∧ Upd [] w w' := by
  go_enter Tryz.func37, Tryz.ntmps37
  have hm9 : max (0 : Int) 9 = 9 := by decide
  have hmm := @run_makeMap Tryz.prog
  have HU := Lib.hid ((Upd.refl [] w).alloc (.map #[] 0))
  go_upto_region 5 with fail
  go_wp2
  go_loopg [4, 8] 1 (fun gg s4 s8 wr => gg = 1 ∧ s4 = .slice none 0 0 ∧ s8 = .int .i64 0 ∧ Hid (Upd [] w wr))
  case atStart => exact ⟨rfl, rfl, rfl, Lib.hid ((HU.out.alloc _).alloc _)⟩
  case round =>
    obtain ⟨rfl, rfl, rfl, HW⟩ := hrel
    go_wp2
    go_ret
    exact ⟨rfl, HW.out⟩
end Go.Proofs.YtdehkaknbmbieaaGreat
namespace Go.Proofs.YtdehkaknbmbieaaGreat
set_option linter.unusedVariables false
set_option linter.unusedSimpArgs false
set_option linter.unusedSectionVars false
open Go.RowKit
attribute [local go_sem] Oper.semAt_some
set_option linter.unusedVariables false
set_option linter.unusedSimpArgs false

theorem fix256 : (ints (fixP 4)).getD 256 0 = 7 := by decide +kernel
theorem body_nil : bodyI (ints (fixP 4)) (ints (List.replicate 32 5)) (manyF []) = 7 := by
  rw [bodyI_bits _ _ (ints_in15 fix15.1) (ints_in15 fix15.2.1) [] (by simp) (by simp)]
  show (ints (fixP 4)).getD 256 0 = 7
  exact fix256
theorem tokIn_nil (w : World) : TokIn w none 0 [] := ⟨rfl, fun i h => absurd h (by simp)⟩
/-- Numbers without sign that can be read where a slice leads. -/
structure UintsIn (w : World) (a : Option Addr) (len : Nat) (l : List Nat) : Prop where
  len : l.length = len
  cell : ∀ i (h : i < l.length), ∃ b off, a = some ⟨b, off, none⟩ ∧ w.cell? ⟨b, off + i, none⟩ = some (.int .u64 (l[i] : Nat)) ∧ l[i] < 18446744073709551616
theorem UintsIn.pure {w w' : World} {a : Option Addr} {len : Nat} {l : List Nat} (h : UintsIn w a len l) (hU : Upd [] w w') : UintsIn w' a len l :=
  ⟨h.len, fun i hi => by
    obtain ⟨b, off, e, c, r⟩ := h.cell i hi
    exact ⟨b, off, e, (hU.at (World.block_lt_of_cell? w _ c) (by simp) _).trans c, r⟩⟩
end Go.Proofs.YtdehkaknbmbieaaGreat
namespace Go.Proofs.YtdehkaknbmbieaaGreat
set_option linter.unusedVariables false
set_option linter.unusedSimpArgs false
set_option linter.unusedSectionVars false
open Go.RowKit
attribute [local go_sem] Oper.semAt_some
set_option linter.unusedVariables false
set_option linter.unusedSimpArgs false

/-- What Best may tell. -/
def BestK (r : List Tok) (k : Nat) : Prop := ∃ (lits backs lens : List Nat) (steps : List StpD) (t : Nat), MadeO r lits backs steps lens ∧ ToldO lens t ∧
  k = bst ((35 + 8 * expLen r : Nat) : Int) (3 + bodyI (ints (fixP 4)) (ints (List.replicate 32 5)) (manyF r)) (((3 + (14 + 3 * t + szT lens steps) : Nat) : Int) + bodyI (ints lits) (ints backs) (manyF r)) 3
theorem best_kind : KindOk 38 BestK := fun r a n c w hI hn hok =>
  (dbest_any r a n c w hI hn hok).mono (by
    rintro e w' ⟨lits, backs, lens, steps, t, hM, hT, rfl, hU⟩
    exact ⟨_, rfl, by have := bst_lt ((35 + 8 * expLen r : Nat) : Int) (3 + bodyI (ints (fixP 4)) (ints (List.replicate 32 5)) (manyF r)) (((3 + (14 + 3 * t + szT lens steps) : Nat) : Int) + bodyI (ints lits) (ints backs) (manyF r)) 3; omega, ⟨lits, backs, lens, steps, t, hM, hT, rfl⟩, hU⟩)
theorem best_enters : ∀ args w, (callFunc 38 args).run Tryz.prog w = .ok (.enter 38 args) w := enters_of Tryz.func38 (by kernel_rfl) rfl
theorem best_nil {k : Nat} (h : BestK [] k) : k = 1 := by
  obtain ⟨lits, backs, lens, steps, t, hM, hT, e⟩ := h
  have hml : (manyF []).1.length = 286 ∧ (manyF []).2.length = 30 := by have := many_ok [] ([] : List Tok).length (Nat.le_refl _); rw [List.take_length] at this; exact ⟨this.la, this.lb⟩
  obtain ⟨_, _, _, _, x15, y15, _⟩ := hM.bd hml
  have hb := bodyI_bd lits backs x15 y15 [] (by simp) (by simp)
  rw [body_nil] at e
  have h0 : expLen [] = 0 := rfl
  rw [h0] at e
  have hZ : (17 : Int) ≤ ((3 + (14 + 3 * t + szT lens steps) : Nat) : Int) + bodyI (ints lits) (ints backs) (manyF []) := by omega
  generalize ((3 + (14 + 3 * t + szT lens steps) : Nat) : Int) + bodyI (ints lits) (ints backs) (manyF []) = Z at e hZ
  have hBA : (3 + 7 : Int) < ((35 + 8 * 0 : Nat) : Int) := by omega
  rw [e]
  unfold bst
  rw [if_neg (by omega : ¬ (3 : Nat) ≤ 1), if_neg (by omega : ¬ (3 : Nat) = 2)]
  simp only [if_pos hBA]
  rw [if_neg (by omega)]
set_option maxRecDepth 100000 in
theorem nil_text : strOf (pack (headK [] 1 true ++ symsB (fixP 4) (List.replicate 32 5) [])) = ⟨#[3, 0]⟩ := by decide +kernel
theorem rt_nil {M : List Bool} (h : RT [] [] BestK (rowsN 0) M) : strOf (pack M) = ⟨#[3, 0]⟩ := by
  have e1 : rowsN 0 = 0 + 1 := rfl
  rw [e1] at h
  cases h with
  | succ h hK hk hB =>
    cases h
    have hk1 := best_nil hK
    subst hk1
    rcases hB with ⟨h, _⟩ | ⟨_, e⟩ | ⟨h, _⟩
    · omega
    · rw [e]
      exact nil_text
    · omega
set_option maxRecDepth 100000 in
set_option maxHeartbeats 3200000 in
theorem lives11_any (w : World) : Calls Tryz.prog 18 #[] w fun e w' => e = .returned (.bool true) ∧ Upd [] w w' := by
  have HO : Hid (∀ w, Calls Tryz.prog 16 #[.string ⟨#[]⟩, .int .i64 9] w fun e w' => e = .returned (.string ⟨#[3, 0]⟩) ∧ Upd [] w w') := Lib.hid (fun w => by
    go_enter Tryz.func16, Tryz.ntmps16
    go_wp2_with fail
    refine (lzmatch0_any _).mono ?_
    rintro e w1 ⟨rfl, hU1⟩
    have HU1 := Lib.hid hU1
    have HL := Lib.hid (laid_any ⟨#[]⟩ [] none 0 0 38 BestK w1 (tokIn_nil w1) (.inl ⟨rfl, rfl, rfl⟩) (by omega) (by omega) rfl (by decide) (by simp) best_kind best_enters)
    clear hU1
    go_wp2_with fail
    refine HL.out.mono ?_
    rintro e w2 ⟨M, hR, rfl, hU2⟩
    have HU2 := Lib.hid (HU1.out.then hU2)
    rw [rt_nil hR]
    clear hR hU2 HL
    go_wp2
    go_ret
    exact ⟨rfl, HU2.out⟩)
  go_enter Tryz.func18, Tryz.ntmps18
  go_wp2_with fail
  refine (HO.out _).mono ?_
  rintro e w2 ⟨rfl, hU⟩
  have HU := Lib.hid hU
  clear hU HO
  go_wp2
  go_ret
  exact ⟨rfl, HU.out⟩
end Go.Proofs.YtdehkaknbmbieaaGreat
namespace Go.Proofs.YtdehkaknbmbieaaGreat
set_option linter.unusedVariables false
set_option linter.unusedSimpArgs false
set_option linter.unusedSectionVars false
open Go.RowKit
set_option linter.unusedVariables false
set_option linter.unusedSimpArgs false

/-- How many bits a block adds at most. -/
theorem blkGrow {L : List Bool} {l : List Tok} {k : Nat} {last : Bool} {M : List Bool} {lits backs lens : List Nat} {steps : List StpD} {t : Nat} (hB : IsBlock L l k last M) (hok : ∀ t ∈ l, okTok t) (hn : l.length ≤ 100000) (h0 : k ≠ 0) (hM : MadeO l lits backs steps lens) (hT : ToldO lens t) :
    ((M.length : Nat) : Int) = L.length + sizeOfK l lits backs lens steps t k := by
  have hml : (manyF l).1.length = 286 ∧ (manyF l).2.length = 30 := by have := many_ok l l.length (Nat.le_refl _); rw [List.take_length] at this; exact ⟨this.la, this.lb⟩
  rcases hB with ⟨h, e⟩ | ⟨h, e⟩ | ⟨h, lits', backs', steps', lens', t', hM', hT', e⟩
  · exact absurd h h0
  · subst h
    rw [e, List.length_append, head_len]
    have := symsB_bits (fixP 4) (List.replicate 32 5) l
    have h2 := bodyI_bits _ _ (ints_in15 fix15.1) (ints_in15 fix15.2.1) l hn hok
    show _ = _ + (3 + bodyI (ints (fixP 4)) (ints (List.replicate 32 5)) (manyF l))
    rw [h2, ← this]
    omega
  · subst h
    obtain ⟨rfl, rfl, rfl, rfl⟩ := hM'.uniq hM
    obtain rfl := hT'.uniq hT
    obtain ⟨_, _, _, _, x15, y15, _⟩ := hM'.bd hml
    rw [e, List.length_append, List.length_append, head_len, tabB_sz _ _ _ _ _ hT'.hi]
    have := symsB_bits lits' backs' l
    have h2 := bodyI_bits _ _ (ints_in15 x15) (ints_in15 y15) l hn hok
    show _ = _ + (((3 + (14 + 3 * t' + szT lens' steps') : Nat) : Int) + bodyI (ints lits') (ints backs') (manyF l))
    rw [h2, ← this]
    omega
theorem store_len {L : List Bool} {l : List Tok} {last : Bool} {M : List Bool} (hB : IsBlock L l 0 last M) : M.length = (alignL (headK L 0 last)).length + 32 + 8 * l.length := by
  rcases hB with ⟨h, e⟩ | ⟨h, e⟩ | ⟨h, _⟩
  · have hbl : (litBytes l).length = l.length := List.length_map _
    rw [e]
    unfold storeL
    first | (rw [List.length_append, List.length_append, List.length_append, length_low, length_low, length_textBits, hbl]; done) | (rw [List.length_append, List.length_append, List.length_append, length_low, length_low, length_textBits, hbl]; omega)
  · omega
  · omega
theorem best_le {r : List Tok} {k : Nat} (h : BestK r k) : ∃ (lits backs lens : List Nat) (steps : List StpD) (t : Nat), MadeO r lits backs steps lens ∧ ToldO lens t ∧ k < 3 ∧ sizeOfK r lits backs lens steps t k ≤ ((35 + 8 * expLen r : Nat) : Int) := by
  obtain ⟨lits, backs, lens, steps, t, hM, hT, e⟩ := h
  refine ⟨lits, backs, lens, steps, t, hM, hT, ?_, ?_⟩
  · rw [e]; exact bst_lt _ _ _ _
  · have h1 := (bst_least ((35 + 8 * expLen r : Nat) : Int) (3 + bodyI (ints (fixP 4)) (ints (List.replicate 32 5)) (manyF r)) (((3 + (14 + 3 * t + szT lens steps) : Nat) : Int) + bodyI (ints lits) (ints backs) (manyF r)) 0 (by omega)).1
    have hk : k < 3 := by rw [e]; exact bst_lt _ _ _ _
    rw [← e] at h1
    have e2 : sizeOfK r lits backs lens steps t k = at3 ((35 + 8 * expLen r : Nat) : Int) (3 + bodyI (ints (fixP 4)) (ints (List.replicate 32 5)) (manyF r)) (((3 + (14 + 3 * t + szT lens steps) : Nat) : Int) + bodyI (ints lits) (ints backs) (manyF r)) k := by
      obtain rfl | rfl | rfl : k = 0 ∨ k = 1 ∨ k = 2 := by omega
      all_goals rfl
    rw [e2]
    exact h1
theorem align_len (L : List Bool) : (alignL L).length ≤ L.length + 7 ∧ (L.length = 3 → (alignL L).length = 8) := by
  rw [length_alignL]
  omega
/-- A row adds at most 42 bits beside those of its bytes; the first one 40. -/
theorem row_len {bs : List Nat} {l : List Tok} {q k : Nat} {L M : List Bool} (hok : ∀ t ∈ l, okTok t) (hbs : bs.length ≤ 65000) (hK : BestK (rowL l q) k) (hB : IsBlock L (rowT bs l q k) k (decide (q + 1 = rowsN l.length)) M) :
    M.length ≤ L.length + 8 * expLen (rowL l q) + 42 ∧ (L = [] → M.length ≤ 8 * expLen (rowL l q) + 40) := by
  obtain ⟨lits, backs, lens, steps, t, hM, hT, hk3, hle⟩ := best_le hK
  by_cases h0 : k = 0
  · subst h0
    have h := store_len hB
    have hl : (rowT bs l q 0).length ≤ expLen (rowL l q) := by
      unfold rowT plainT
      rw [if_pos rfl, List.length_map, List.length_take]
      omega
    have ha := align_len (headK L 0 (decide (q + 1 = rowsN l.length)))
    rw [head_len] at ha
    refine ⟨by omega, fun e => ?_⟩
    subst e
    have := ha.2 rfl
    omega
  · have e : rowT bs l q k = rowL l q := by unfold rowT; rw [if_neg h0]
    rw [e] at hB
    have h := blkGrow hB (rowL_ok hok q) (by rw [rowL_len]; omega) h0 hM hT
    refine ⟨by omega, fun e => ?_⟩
    subst e
    simp at h
    omega
theorem rowsB_step (l : List Tok) (q : Nat) : rowsB l (q + 1) = rowsB l q + expLen (rowL l q) := by
  unfold rowsB rowL
  rw [← expLen_append]
  congr 1
  rw [show 8000 * (q + 1) = 8000 * q + 8000 by omega, List.take_add]
/-- What Of lays has at most so many bits. -/
theorem laid_len {bs : List Nat} {l : List Tok} (hok : ∀ t ∈ l, okTok t) (hbs : bs.length ≤ 65000) {q : Nat} {L : List Bool} (h : RT bs l BestK q L) : L.length ≤ 8 * rowsB l q + 42 * q ∧ (q = 1 → L.length ≤ 8 * rowsB l q + 40) := by
  induction h with
  | zero => exact ⟨by simp, fun h => by omega⟩
  | @succ q k L M h hK hk hB ih =>
    have hr := row_len hok hbs hK hB
    have hs := rowsB_step l q
    refine ⟨by omega, fun e => ?_⟩
    obtain rfl : q = 0 := by omega
    have e2 : rowsB l 0 = 0 := rfl
    cases h
    have := hr.2 rfl
    omega
/-- Stored rows have at most so many bits. -/
theorem stored_max {bs : List Nat} {l : List Tok} {q : Nat} {L : List Bool} (h : RT bs l (fun _ k => k = 0) q L) : L.length ≤ 8 * rowsB l q + 42 * q := by
  induction h with
  | zero => simp
  | @succ q k L M h hK hk hB ih =>
    subst hK
    have h := store_len hB
    have hl : (rowT bs l q 0).length ≤ expLen (rowL l q) := by
      unfold rowT plainT
      rw [if_pos rfl, List.length_map, List.length_take]
      omega
    have ha := (align_len (headK L 0 (decide (q + 1 = rowsN l.length)))).1
    rw [head_len] at ha
    have hs := rowsB_step l q
    omega
/-- Stored blocks: the one of a short text. -/
theorem stored_len {bs : List Nat} (hn : bs.length ≤ 8000) {M : List Bool} (h : RT bs (plainT bs) (fun _ k => k = 0) (rowsN (plainT bs).length) M) : M.length = 8 * bs.length + 40 := by
  have hl : (plainT bs).length = bs.length := List.length_map _
  have h1 : rowsN (plainT bs).length = 0 + 1 := by rw [hl]; unfold rowsN; split <;> omega
  rw [h1] at h
  cases h with
  | succ h hK hk hB =>
    cases h
    subst hK
    have h := store_len hB
    have hx : expLen (plainT bs) = bs.length := by
      have : ∀ b : List Nat, expLen (plainT b) = b.length := fun b => by
        induction b with
        | nil => rfl
        | cons x b ih =>
          have e : plainT (x :: b) = [⟨x, 0, 0⟩] ++ plainT b := rfl
          rw [e, expLen_append, ih, List.length_cons]
          have : expLen [⟨x, 0, 0⟩] = 1 := rfl
          omega
      exact this bs
    have hrl : rowL (plainT bs) 0 = plainT bs := by unfold rowL; rw [Nat.mul_zero, List.drop_zero]; exact List.take_of_length_le (by rw [hl]; exact hn)
    have e : (rowT bs (plainT bs) 0 0).length = bs.length := by
      unfold rowT
      rw [if_pos rfl, hrl, hx]
      have e2 : rowsB (plainT bs) 0 = 0 := rfl
      rw [e2, List.drop_zero]
      unfold plainT
      rw [List.length_map, List.length_take]
      omega
    have ha := (align_len (headK [] 0 (decide (0 + 1 = rowsN (plainT bs).length)))).2 (by rw [head_len]; rfl)
    omega
end Go.Proofs.YtdehkaknbmbieaaGreat
namespace Go.Proofs.YtdehkaknbmbieaaGreat
set_option linter.unusedVariables false
set_option linter.unusedSimpArgs false
set_option linter.unusedSectionVars false
open Go.RowKit

def RCodesRel (w : World) (n : List Nat) (g k i : Nat) (wr : World) : Prop :=
  Row wr 53 1 (.slice (some ⟨g, 0, none⟩) n.length n.length) n.length (u32s (outq n k i)) ∧ Upd [] w wr

set_option maxRecDepth 100000 in
set_option maxHeartbeats 3200000 in
theorem rcodes_any (a : Option Addr) (len cap : Nat) (l : List Int) (w : World) (hlen : len ≤ 9223372036854775807) (hI : IntsIn w a len l) :
    Calls Tryz.prog 62 #[.slice a len cap] w (CodesPost w l) := by
  have hll := hI.len
  have HI := Lib.hid hI
  clear hI
  subst hll
  have HK := Lib.hid (rkind_any a l.length cap l w hlen HI.out)
  obtain ⟨i0, hi0, hz0, hz1, hz2⟩ := info_parts infoU32
  by_cases hk3 : kindOf l = 3
  · have H3 := Lib.hid hk3
    rw [hk3] at HK
    clear hk3
    go_enter Tryz.func62, Tryz.ntmps62
    go_wp2_with fail
    refine HK.out.mono ?_
    rintro e w1 ⟨rfl, rfl⟩
    go_wp2
    go_returns
    exact ⟨.refl _ _, .inl ⟨H3.out, rfl⟩⟩
  · obtain ⟨hok, hps⟩ := kindOf_ok hk3
    have hkb : ((kindOf l : Nat) : Int) ≠ 3 := by omega
    have H3 := Lib.hid hk3
    have HO := Lib.hid hok
    generalize kindOf l = kk at HK hkb
    clear hk3
    have hnl := length_nats l
    have h300 := (okLens_spec HO.out).1
    have hpb := Lib.hid (fun k hk => fst_cnt (nats l) hps k hk)
    clear hps hok
    go_enter Tryz.func62, Tryz.ntmps62
    go_wp2_with fail
    refine HK.out.mono ?_
    rintro e w1 ⟨rfl, rfl⟩
    go_wp2_with (refine wpList_mk _ rfl _ _ 105 rfl 53 i0 _ Tryz.underlying105 hi0 hz0 hz1 rfl .i64 .i64 _ _ l.length rfl rfl rfl rfl (by rw [hz2]; omega) (by unfold maxLen; omega) ?_; intro w6 hR6 hU6 hs6)
    have hRel0 : RCodesRel w (nats l) w.heap.size 1 0 w6 := by
      refine ⟨?_, hU6⟩
      rw [outq_1, hnl]
      have e : u32s (List.replicate l.length 0) = List.replicate l.length (.int .u32 0) := by simp [u32s]
      rw [e]; exact hR6
    clear hR6 hU6 hs6
    have hgs : w.heap.size ≤ w.heap.size := Nat.le_refl _
    generalize hgg : w.heap.size = g at *
    have HG := Lib.hid hgg
    clear hgg
    go_loopg [4, 5] 15 (fun gg s4 s5 wr => ∃ k, k ≤ 15 ∧ gg = 15 - k ∧ s5 = .int .i64 ((k + 1 : Nat) : Int) ∧ s4 = .int .u32 ((fst (nats l) k + cnt (nats l) k : Nat) : Int) ∧ RCodesRel w (nats l) g (k + 1) 0 wr)
    case atStart => exact ⟨0, by omega, rfl, rfl, rfl, hRel0⟩
    case round =>
      obtain ⟨k, hk, rfl, rfl, rfl, hR, hU⟩ := hrel
      clear hRel0
      have hle := hpb.out k hk
      have hp15 : 2 ^ k ≤ 2 ^ 15 := Nat.pow_le_pow_right (by omega) (by omega)
      have hfs : fst (nats l) (k + 1) = 2 * (fst (nats l) k + cnt (nats l) k) := rfl
      by_cases hc : k < 15
      · have hcz : (k : Int) + 1 ≤ 15 := by omega
        have hle2 := hpb.out (k + 1) (by omega)
        have hp16 : 2 ^ (k + 1) ≤ 2 ^ 15 := Nat.pow_le_pow_right (by omega) (by omega)
        have hf1 : ((2 * (fst (nats l) k + cnt (nats l) k) : Nat) : Int) = ((fst (nats l) (k + 1) + cnt ((nats l).take 0) (k + 1) : Nat) : Int) := by rw [hfs]; simp [cnt]
        have HF := Lib.hid hf1
        clear hf1 hfs
        generalize fst (nats l) k + cnt (nats l) k = q at *
        go_wp2
        go_loopg [4, 21] l.length (fun gg s4 s21 wx => ∃ i, i ≤ l.length ∧ gg = l.length - i ∧ s21 = .int .i64 (i : Nat) ∧ s4 = .int .u32 ((fst (nats l) (k + 1) + cnt ((nats l).take i) (k + 1) : Nat) : Int) ∧ RCodesRel w (nats l) g (k + 1) i wx)
        case atStart => exact ⟨0, by omega, rfl, rfl, by rw [← HF.out]; simp, hR, hU⟩
        case round =>
          obtain ⟨i, hin, rfl, rfl, rfl, hR2, hU2⟩ := hrel
          have hct := cnt_take_le (nats l) i (k + 1)
          by_cases hc2 : i < l.length
          · have hcz2 : (i : Int) < (l.length : Int) := by omega
            obtain ⟨b, off, rfl, c0, r1, r2⟩ := (HI.out.pure hU2).cell i hc2
            have hkk := (okLens_spec HO.out).2 _ (List.getElem_mem hc2)
            obtain ⟨x, hx⟩ : ∃ x : Nat, l[i] = (x : Int) := ⟨l[i].toNat, by omega⟩
            have hin' : i < (nats l).length := by omega
            have hnk : (nats l)[i] = x := by simp [nats, hx]
            have hnd : (nats l).getD i 0 = x := by rw [List.getD, List.getElem?_eq_getElem hin']; exact hnk
            rw [hx] at c0 hkk
            have hcs := cnt_take (nats l) i (k + 1) hin'
            rw [hnk] at hcs
            clear hx r1 r2
            have hqb : fst (nats l) (k + 1) + cnt ((nats l).take i) (k + 1) ≤ 32768 := by omega
            have hR3 := hR2
            rw [hnl] at hR3
            obtain ⟨xo, hxo⟩ : ∃ x, (u32s (outq (nats l) (k + 1) i))[i]? = some x := ⟨_, List.getElem?_eq_getElem (by rw [length_u32s, length_outq]; omega)⟩
            have d2 := Row.cell hR3 i hxo
            have f2 := Row.frz hR3 i
            by_cases hxk : x = k + 1
            · have h2 := outq_set (nats l) (k + 1) i (by rw [hnd, hxk])
              have h3 := codeAt_pos (nats l) i hin' (by omega)
              rw [hnk, hxk] at h3
              rw [h3] at h2
              have H2 := Lib.hid h2
              have hxz : (x : Int) = (k : Int) + 1 := by omega
              have hcs2 : Hid (fst (nats l) (k + 1) + cnt ((nats l).take i) (k + 1) + 1 = fst (nats l) (k + 1) + cnt ((nats l).take (i + 1)) (k + 1)) := Lib.hid (by rw [hcs, if_pos ⟨hxk, by omega⟩]; omega)
              clear h2 h3 hcs hnk hnd hxo hxk hct hle2 hR2
              generalize fst (nats l) (k + 1) + cnt ((nats l).take i) (k + 1) = q2 at *
              go_wp2
              go_roundg (l.length - (i + 1))
              case measure => omega
              case rel =>
                refine ⟨i + 1, by omega, rfl, by go_num, by rw [← hcs2.out]; go_num, ?_, hU2.setCell (.inr (by rw [HG.out]; exact Nat.le_refl _)) _⟩
                rw [← H2.out, u32s_set, hnl]
                exact hR3.set i _
            · have h2 := Lib.hid (outq_same (nats l) (k + 1) i (by rw [hnd]; exact hxk))
              have hxz : ¬ (x : Int) = (k : Int) + 1 := by omega
              have hcs2 : Hid (fst (nats l) (k + 1) + cnt ((nats l).take i) (k + 1) = fst (nats l) (k + 1) + cnt ((nats l).take (i + 1)) (k + 1)) := Lib.hid (by rw [hcs, if_neg (fun e => hxk e.1)]; omega)
              clear hcs hnk hnd hxo hxk hct hle2
              generalize fst (nats l) (k + 1) + cnt ((nats l).take i) (k + 1) = q2 at *
              go_wp2
              go_roundg (l.length - (i + 1))
              case measure => omega
              case rel => exact ⟨i + 1, by omega, rfl, by go_num, by rw [hcs2.out], by rw [h2.out]; exact hR2, hU2⟩
          · have hcz2 : ¬ (i : Int) < (l.length : Int) := by omega
            have hi : i = (nats l).length := by omega
            have hq : Hid (fst (nats l) (k + 1) + cnt ((nats l).take i) (k + 1) = fst (nats l) (k + 1) + cnt (nats l) (k + 1)) := Lib.hid (by rw [hi, List.take_length])
            have hR3 : Row wr 53 1 (.slice (some ⟨g, 0, none⟩) (nats l).length (nats l).length) (nats l).length (u32s (outq (nats l) (k + 1 + 1) 0)) := by
              rw [hi] at hR2; rw [← outq_next]; exact hR2
            clear hi
            generalize fst (nats l) (k + 1) + cnt ((nats l).take i) (k + 1) = q2 at *
            go_wp2
            go_roundg (15 - (k + 1))
            case measure => omega
            case rel => exact ⟨k + 1, by omega, rfl, by go_num, by rw [hq.out], hR3, hU2⟩
      · have hk15 : k = 15 := by omega
        have hcz : ¬ (k : Int) + 1 ≤ 15 := by omega
        rw [hk15, outq_16 _ (nats_le HO.out), hnl] at hR
        clear hfs hle hp15 hk15
        generalize fst (nats l) k + cnt (nats l) k = q at *
        go_wp2
        go_returns
        exact ⟨hU, .inr ⟨H3.out, g, rfl, by rw [HG.out]; exact Nat.le_refl _, hR⟩⟩
end Go.Proofs.YtdehkaknbmbieaaGreat
namespace Go.Proofs.YtdehkaknbmbieaaGreat
set_option linter.unusedVariables false
set_option linter.unusedSimpArgs false
set_option linter.unusedSectionVars false
open Go.RowKit
set_option linter.unusedVariables false

/-- A Decoder at block b of lengths n; v: its symbols. -/
structure DcAt (w : World) (b : Nat) (v : Value) (n : List Nat) : Prop where
  blk : Blk w b (i64s (cl n) ++ [v]) 178
  row : Row w 3 1 v (symsTo n 16).length (i64s (symsTo n 16))
  far : v.ownBlock ≠ some b
theorem DcAt.upd {w w' : World} {b : Nat} {v : Value} {n : List Nat} {fp : List Nat} (h : DcAt w b v n) (hu : Upd fp w w') (hb : b ∉ fp) (hv : ∀ k, v.ownBlock = some k → k ∉ fp) : DcAt w' b v n :=
  ⟨h.blk.upd hu hb, h.row.upd hu hv, h.far⟩
end Go.Proofs.YtdehkaknbmbieaaGreat
namespace Go.Proofs.YtdehkaknbmbieaaGreat
set_option linter.unusedVariables false
set_option linter.unusedSimpArgs false
set_option linter.unusedSectionVars false
open Go.RowKit
set_option linter.unusedVariables false

def sbits (s : ByteArray) : List Bool := textBits (bytesOf s)
theorem length_sbits (s : ByteArray) : (sbits s).length = 8 * s.size := by rw [sbits, length_textBits, length_bytesOf]
/-- The number of the n bits from at on. -/
def rdVal (s : ByteArray) (at_ n : Nat) : Nat := val (((sbits s).drop at_).take n)
theorem rdVal_lt (s : ByteArray) (a n : Nat) : rdVal s a n < 2 ^ n := val_take_lt _ _ _
theorem rdVal_zero (s : ByteArray) (a : Nat) : rdVal s a 0 = 0 := by simp [rdVal, val]
theorem rdVal_add (s : ByteArray) (a m n : Nat) (h : a + m ≤ 8 * s.size) : rdVal s a (m + n) = rdVal s a m + 2 ^ m * rdVal s (a + m) n := by
  unfold rdVal
  have h1 : ((sbits s).drop a).take (m + n) = ((sbits s).drop a).take m ++ ((sbits s).drop (a + m)).take n := by
    rw [List.take_add, List.drop_drop]
  have h2 : (((sbits s).drop a).take m).length = m := by rw [List.length_take, List.length_drop, length_sbits]; omega
  rw [h1, val_append, h2]
theorem textBits_drop (l : List Nat) (q : Nat) : (textBits l).drop (8 * q) = textBits (l.drop q) := by
  induction l generalizing q with
  | nil => simp [textBits]
  | cons x l ih =>
    cases q with
    | zero => simp
    | succ q =>
      have e : textBits (x :: l) = low 8 x ++ textBits l := rfl
      rw [e, show 8 * (q + 1) = (low 8 x).length + 8 * q by rw [length_low]; omega, ← List.drop_drop, List.drop_left, ih]
      rfl
/-- A byte's bits. -/
theorem rdVal_byte (s : ByteArray) (q f t : Nat) (hq : q < s.size) (hft : f + t ≤ 8) : rdVal s (8 * q + f) t = s[q].toNat / 2 ^ f % 2 ^ t := by
  have hb : q < (bytesOf s).length := by rw [length_bytesOf]; exact hq
  have e1 : (sbits s).drop (8 * q + f) = (textBits ((bytesOf s).drop q)).drop f := by
    rw [← List.drop_drop, sbits, textBits_drop]
  have e2 : (bytesOf s).drop q = (bytesOf s)[q] :: (bytesOf s).drop (q + 1) := List.drop_eq_getElem_cons hb
  have e3 : textBits ((bytesOf s).drop q) = low 8 (bytesOf s)[q] ++ textBits ((bytesOf s).drop (q + 1)) := by rw [e2]; rfl
  unfold rdVal
  rw [e1, e3, List.drop_append_of_le_length (by rw [length_low]; omega), List.take_append_of_le_length (by rw [List.length_drop, length_low]; omega), val_take _ _ (by rw [List.length_drop, length_low]; omega), val_drop _ _ (by rw [length_low]; omega), val_low, bytesOf_get s q hq hb]
  have hlt := s[q].toNat_lt
  rw [Nat.mod_eq_of_lt hlt]

/-- A Reader (or the reference's) at block b. -/
def RdAt (w : World) (b : Nat) (t : TypeId) (s : ByteArray) (at_ : Nat) (bad : Bool) : Prop := Blk w b [.string s, .int .i64 (at_ : Nat), .bool bad] t ∧ at_ ≤ 8 * s.size
theorem RdAt.upd {w w' : World} {b : Nat} {t : TypeId} {s : ByteArray} {at_ : Nat} {bad : Bool} {fp : List Nat} (h : RdAt w b t s at_ bad) (hU : Upd fp w w') (hn : b ∉ fp) : RdAt w' b t s at_ bad := ⟨h.1.upd hU hn, h.2⟩

/-- What Bits tells, and where it is then. -/
def rdBad (s : ByteArray) (at_ : Nat) (bad : Bool) (n : Int) : Bool := bad || decide (n < 0) || decide (32 < n) || decide (((8 * s.size - at_ : Nat) : Int) < n)
def rdNum (s : ByteArray) (at_ : Nat) (bad : Bool) (n : Int) : Nat := if rdBad s at_ bad n then 0 else rdVal s at_ n.toNat
def rdTo (s : ByteArray) (at_ : Nat) (bad : Bool) (n : Int) : Nat := if rdBad s at_ bad n then at_ else at_ + n.toNat
/-- Align; Text. -/
def alTo (at_ : Nat) (bad : Bool) : Nat := if bad then at_ else 8 * ((at_ + 7) / 8)
def txBad (s : ByteArray) (at_ : Nat) (bad : Bool) (n : Int) : Bool := bad || decide (n < 0) || decide (((s.size - (at_ + 7) / 8 : Nat) : Int) < n)
def txStr (s : ByteArray) (at_ : Nat) (bad : Bool) (n : Int) : ByteArray := if txBad s at_ bad n then ⟨#[]⟩ else s.extract ((at_ + 7) / 8) ((at_ + 7) / 8 + n.toNat)
def txTo (s : ByteArray) (at_ : Nat) (bad : Bool) (n : Int) : Nat := if txBad s at_ bad n then alTo at_ bad else 8 * ((at_ + 7) / 8) + 8 * n.toNat
theorem alTo_le (s : ByteArray) (a : Nat) (bad : Bool) (h : a ≤ 8 * s.size) : alTo a bad ≤ 8 * s.size := by unfold alTo; split <;> omega

theorem rd_new (w : World) (s : ByteArray) (t : TypeId) : RdAt (w.alloc (.cells #[.string s, .int .i64 0, .bool false] t)) w.heap.size t s 0 false :=
  ⟨Blk.new w [.string s, .int .i64 0, .bool false] t, Nat.zero_le _⟩

/-- Behind a Reader's step. -/
def RdPost (w : World) (b : Nat) (t : TypeId) (s : ByteArray) (r : Value) (a' : Nat) (bad' : Bool) (e : Ending) (w' : World) : Prop :=
  e = .returned r ∧ RdAt w' b t s a' bad' ∧ Upd [b] w w'
def RdRel (w : World) (b : Nat) (t : TypeId) (s : ByteArray) (a' : Nat) (w' : World) : Prop := RdAt w' b t s a' false ∧ Upd [b] w w'

end Go.Proofs.YtdehkaknbmbieaaGreat

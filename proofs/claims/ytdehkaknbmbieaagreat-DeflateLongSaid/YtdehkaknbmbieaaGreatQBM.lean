/- Package lz: Match of no text: its walk. -/
import Derived.Carry
import Derived.Test.YtdehkaknbmbieaaGreatQAO
import Derived.Test.YtdehkaknbmbieaaGreatSiz
import Derived.Test.YtdehkaknbmbieaaGreatQAL
import Derived.Test.YtdehkaknbmbieaaGreatQAD
import Derived.Test.YtdehkaknbmbieaaGreatLaid
import Derived.Test.YtdehkaknbmbieaaGreatQBI
import Derived.Test.YtdehkaknbmbieaaGreatQAE
import Derived.Test.YtdehkaknbmbieaaGreatQBC
namespace Go.Proofs.YtdehkaknbmbieaaGreat
set_option linter.unusedVariables false
set_option linter.unusedSimpArgs false
set_option linter.unusedSectionVars false
open Go.RowKit
attribute [local go_sem] Oper.semAt_some
set_option linter.unusedVariables false
set_option linter.unusedSimpArgs false

set_option maxRecDepth 100000 in
set_option maxHeartbeats 6400000 in
theorem lzmatch0_any (w : World) :
    Calls Tryz.prog 37 #[.string ⟨#[]⟩, .int .i64 9] w fun e w' => e = .returned (.slice none 0 0) ∧ Upd [] w w' := by
  go_enter Tryz.func37, Tryz.ntmps37
  have hm9 : max (0 : Int) 9 = 9 := by decide
  have hmm := @run_makeMap Tryz.prog
  have HU := Lib.hid ((Upd.refl [] w).alloc (.map #[] 0))
  go_upto_region 5 with fail
  go_wp2
  go_loopg [4, 8] 1 (fun gg s4 s8 wr => gg = 1 ∧ s4 = .slice none 0 0 ∧ s8 = .int .i64 0 ∧ Hid (Upd [] w wr))
  case atStart => exact ⟨rfl, rfl, rfl, Lib.hid ((HU.out.alloc _).alloc _)⟩
  case round =>
    obtain ⟨rfl, rfl, rfl, HW⟩ := hrel
    go_wp2
    go_ret
    exact ⟨rfl, HW.out⟩
end Go.Proofs.YtdehkaknbmbieaaGreat
namespace Go.Proofs.YtdehkaknbmbieaaGreat
set_option linter.unusedVariables false
set_option linter.unusedSimpArgs false
set_option linter.unusedSectionVars false
open Go.RowKit
attribute [local go_sem] Oper.semAt_some
set_option linter.unusedVariables false
set_option linter.unusedSimpArgs false

theorem fix256 : (ints (fixP 4)).getD 256 0 = 7 := by decide +kernel
theorem body_nil : bodyI (ints (fixP 4)) (ints (List.replicate 32 5)) (manyF []) = 7 := by
  rw [bodyI_bits _ _ (ints_in15 fix15.1) (ints_in15 fix15.2.1) [] (by simp) (by simp)]
  show (ints (fixP 4)).getD 256 0 = 7
  exact fix256
theorem tokIn_nil (w : World) : TokIn w none 0 [] := ⟨rfl, fun i h => absurd h (by simp)⟩
/-- Numbers without sign that can be read where a slice leads. -/
structure UintsIn (w : World) (a : Option Addr) (len : Nat) (l : List Nat) : Prop where
  len : l.length = len
  cell : ∀ i (h : i < l.length), ∃ b off, a = some ⟨b, off, none⟩ ∧ w.cell? ⟨b, off + i, none⟩ = some (.int .u64 (l[i] : Nat)) ∧ l[i] < 18446744073709551616
theorem UintsIn.pure {w w' : World} {a : Option Addr} {len : Nat} {l : List Nat} (h : UintsIn w a len l) (hU : Upd [] w w') : UintsIn w' a len l :=
  ⟨h.len, fun i hi => by
    obtain ⟨b, off, e, c, r⟩ := h.cell i hi
    exact ⟨b, off, e, (hU.at (World.block_lt_of_cell? w _ c) (by simp) _).trans c, r⟩⟩
end Go.Proofs.YtdehkaknbmbieaaGreat
namespace Go.Proofs.YtdehkaknbmbieaaGreat
set_option linter.unusedVariables false
set_option linter.unusedSimpArgs false
set_option linter.unusedSectionVars false
open Go.RowKit
attribute [local go_sem] Oper.semAt_some
set_option linter.unusedVariables false
set_option linter.unusedSimpArgs false

/-- What Best may tell. -/
def BestK (r : List Tok) (k : Nat) : Prop := ∃ (lits backs lens : List Nat) (steps : List StpD) (t : Nat), MadeO r lits backs steps lens ∧ ToldO lens t ∧
  k = bst ((35 + 8 * expLen r : Nat) : Int) (3 + bodyI (ints (fixP 4)) (ints (List.replicate 32 5)) (manyF r)) (((3 + (14 + 3 * t + szT lens steps) : Nat) : Int) + bodyI (ints lits) (ints backs) (manyF r)) 3
theorem best_kind : KindOk 38 BestK := fun r a n c w hI hn hok =>
  (dbest_any r a n c w hI hn hok).mono (by
    rintro e w' ⟨lits, backs, lens, steps, t, hM, hT, rfl, hU⟩
    exact ⟨_, rfl, by have := bst_lt ((35 + 8 * expLen r : Nat) : Int) (3 + bodyI (ints (fixP 4)) (ints (List.replicate 32 5)) (manyF r)) (((3 + (14 + 3 * t + szT lens steps) : Nat) : Int) + bodyI (ints lits) (ints backs) (manyF r)) 3; omega, ⟨lits, backs, lens, steps, t, hM, hT, rfl⟩, hU⟩)
theorem best_enters : ∀ args w, (callFunc 38 args).run Tryz.prog w = .ok (.enter 38 args) w := enters_of Tryz.func38 (by kernel_rfl) rfl
theorem best_nil {k : Nat} (h : BestK [] k) : k = 1 := by
  obtain ⟨lits, backs, lens, steps, t, hM, hT, e⟩ := h
  have hml : (manyF []).1.length = 286 ∧ (manyF []).2.length = 30 := by have := many_ok [] ([] : List Tok).length (Nat.le_refl _); rw [List.take_length] at this; exact ⟨this.la, this.lb⟩
  obtain ⟨_, _, _, _, x15, y15, _⟩ := hM.bd hml
  have hb := bodyI_bd lits backs x15 y15 [] (by simp) (by simp)
  rw [body_nil] at e
  have h0 : expLen [] = 0 := rfl
  rw [h0] at e
  have hZ : (17 : Int) ≤ ((3 + (14 + 3 * t + szT lens steps) : Nat) : Int) + bodyI (ints lits) (ints backs) (manyF []) := by omega
  generalize ((3 + (14 + 3 * t + szT lens steps) : Nat) : Int) + bodyI (ints lits) (ints backs) (manyF []) = Z at e hZ
  have hBA : (3 + 7 : Int) < ((35 + 8 * 0 : Nat) : Int) := by omega
  rw [e]
  unfold bst
  rw [if_neg (by omega : ¬ (3 : Nat) ≤ 1), if_neg (by omega : ¬ (3 : Nat) = 2)]
  simp only [if_pos hBA]
  rw [if_neg (by omega)]
set_option maxRecDepth 100000 in
theorem nil_text : strOf (pack (headK [] 1 true ++ symsB (fixP 4) (List.replicate 32 5) [])) = ⟨#[3, 0]⟩ := by decide +kernel
theorem rt_nil {M : List Bool} (h : RT [] [] BestK (rowsN 0) M) : strOf (pack M) = ⟨#[3, 0]⟩ := by
  have e1 : rowsN 0 = 0 + 1 := rfl
  rw [e1] at h
  cases h with
  | succ h hK hk hB =>
    cases h
    have hk1 := best_nil hK
    subst hk1
    rcases hB with ⟨h, _⟩ | ⟨_, e⟩ | ⟨h, _⟩
    · omega
    · rw [e]
      exact nil_text
    · omega
set_option maxRecDepth 100000 in
set_option maxHeartbeats 3200000 in
theorem lives11_any (w : World) : Calls Tryz.prog 18 #[] w fun e w' => e = .returned (.bool true) ∧ Upd [] w w' := by
  have HO : Hid (∀ w, Calls Tryz.prog 16 #[.string ⟨#[]⟩, .int .i64 9] w fun e w' => e = .returned (.string ⟨#[3, 0]⟩) ∧ Upd [] w w') := Lib.hid (fun w => by
    go_enter Tryz.func16, Tryz.ntmps16
    go_wp2_with fail
    refine (lzmatch0_any _).mono ?_
    rintro e w1 ⟨rfl, hU1⟩
    have HU1 := Lib.hid hU1
    have HL := Lib.hid (laid_any ⟨#[]⟩ [] none 0 0 38 BestK w1 (tokIn_nil w1) (.inl ⟨rfl, rfl, rfl⟩) (by omega) (by omega) rfl (by decide) (by simp) best_kind best_enters)
    clear hU1
    go_wp2_with fail
    refine HL.out.mono ?_
    rintro e w2 ⟨M, hR, rfl, hU2⟩
    have HU2 := Lib.hid (HU1.out.then hU2)
    rw [rt_nil hR]
    clear hR hU2 HL
    go_wp2
    go_ret
    exact ⟨rfl, HU2.out⟩)
  go_enter Tryz.func18, Tryz.ntmps18
  go_wp2_with fail
  refine (HO.out _).mono ?_
  rintro e w2 ⟨rfl, hU⟩
  have HU := Lib.hid hU
  clear hU HO
  go_wp2
  go_ret
  exact ⟨rfl, HU.out⟩
end Go.Proofs.YtdehkaknbmbieaaGreat
namespace Go.Proofs.YtdehkaknbmbieaaGreat
set_option linter.unusedVariables false
set_option linter.unusedSimpArgs false
set_option linter.unusedSectionVars false
open Go.RowKit
set_option linter.unusedVariables false
set_option linter.unusedSimpArgs false

/-- How many bits a block adds at most. -/
theorem blkGrow {L : List Bool} {l : List Tok} {k : Nat} {last : Bool} {M : List Bool} {lits backs lens : List Nat} {steps : List StpD} {t : Nat} (hB : IsBlock L l k last M) (hok : ∀ t ∈ l, okTok t) (hn : l.length ≤ 100000) (h0 : k ≠ 0) (hM : MadeO l lits backs steps lens) (hT : ToldO lens t) :
    ((M.length : Nat) : Int) = L.length + sizeOfK l lits backs lens steps t k := by
  have hml : (manyF l).1.length = 286 ∧ (manyF l).2.length = 30 := by have := many_ok l l.length (Nat.le_refl _); rw [List.take_length] at this; exact ⟨this.la, this.lb⟩
  rcases hB with ⟨h, e⟩ | ⟨h, e⟩ | ⟨h, lits', backs', steps', lens', t', hM', hT', e⟩
  · exact absurd h h0
  · subst h
    rw [e, List.length_append, head_len]
    have := symsB_bits (fixP 4) (List.replicate 32 5) l
    have h2 := bodyI_bits _ _ (ints_in15 fix15.1) (ints_in15 fix15.2.1) l hn hok
    show _ = _ + (3 + bodyI (ints (fixP 4)) (ints (List.replicate 32 5)) (manyF l))
    rw [h2, ← this]
    omega
  · subst h
    obtain ⟨rfl, rfl, rfl, rfl⟩ := hM'.uniq hM
    obtain rfl := hT'.uniq hT
    obtain ⟨_, _, _, _, x15, y15, _⟩ := hM'.bd hml
    rw [e, List.length_append, List.length_append, head_len, tabB_sz _ _ _ _ _ hT'.hi]
    have := symsB_bits lits' backs' l
    have h2 := bodyI_bits _ _ (ints_in15 x15) (ints_in15 y15) l hn hok
    show _ = _ + (((3 + (14 + 3 * t' + szT lens' steps') : Nat) : Int) + bodyI (ints lits') (ints backs') (manyF l))
    rw [h2, ← this]
    omega
theorem store_len {L : List Bool} {l : List Tok} {last : Bool} {M : List Bool} (hB : IsBlock L l 0 last M) : M.length = (alignL (headK L 0 last)).length + 32 + 8 * l.length := by
  rcases hB with ⟨h, e⟩ | ⟨h, e⟩ | ⟨h, _⟩
  · have hbl : (litBytes l).length = l.length := List.length_map _
    rw [e]
    unfold storeL
    first | (rw [List.length_append, List.length_append, List.length_append, length_low, length_low, length_textBits, hbl]; done) | (rw [List.length_append, List.length_append, List.length_append, length_low, length_low, length_textBits, hbl]; omega)
  · omega
  · omega
theorem best_le {r : List Tok} {k : Nat} (h : BestK r k) : ∃ (lits backs lens : List Nat) (steps : List StpD) (t : Nat), MadeO r lits backs steps lens ∧ ToldO lens t ∧ k < 3 ∧ sizeOfK r lits backs lens steps t k ≤ ((35 + 8 * expLen r : Nat) : Int) := by
  obtain ⟨lits, backs, lens, steps, t, hM, hT, e⟩ := h
  refine ⟨lits, backs, lens, steps, t, hM, hT, ?_, ?_⟩
  · rw [e]; exact bst_lt _ _ _ _
  · have h1 := (bst_least ((35 + 8 * expLen r : Nat) : Int) (3 + bodyI (ints (fixP 4)) (ints (List.replicate 32 5)) (manyF r)) (((3 + (14 + 3 * t + szT lens steps) : Nat) : Int) + bodyI (ints lits) (ints backs) (manyF r)) 0 (by omega)).1
    have hk : k < 3 := by rw [e]; exact bst_lt _ _ _ _
    rw [← e] at h1
    have e2 : sizeOfK r lits backs lens steps t k = at3 ((35 + 8 * expLen r : Nat) : Int) (3 + bodyI (ints (fixP 4)) (ints (List.replicate 32 5)) (manyF r)) (((3 + (14 + 3 * t + szT lens steps) : Nat) : Int) + bodyI (ints lits) (ints backs) (manyF r)) k := by
      obtain rfl | rfl | rfl : k = 0 ∨ k = 1 ∨ k = 2 := by omega
      all_goals rfl
    rw [e2]
    exact h1
theorem align_len (L : List Bool) : (alignL L).length ≤ L.length + 7 ∧ (L.length = 3 → (alignL L).length = 8) := by
  rw [length_alignL]
  omega
/-- A row adds at most 42 bits beside those of its bytes; the first one 40. -/
theorem row_len {bs : List Nat} {l : List Tok} {q k : Nat} {L M : List Bool} (hok : ∀ t ∈ l, okTok t) (hbs : bs.length ≤ 65000) (hK : BestK (rowL l q) k) (hB : IsBlock L (rowT bs l q k) k (decide (q + 1 = rowsN l.length)) M) :
    M.length ≤ L.length + 8 * expLen (rowL l q) + 42 ∧ (L = [] → M.length ≤ 8 * expLen (rowL l q) + 40) := by
  obtain ⟨lits, backs, lens, steps, t, hM, hT, hk3, hle⟩ := best_le hK
  by_cases h0 : k = 0
  · subst h0
    have h := store_len hB
    have hl : (rowT bs l q 0).length ≤ expLen (rowL l q) := by
      unfold rowT plainT
      rw [if_pos rfl, List.length_map, List.length_take]
      omega
    have ha := align_len (headK L 0 (decide (q + 1 = rowsN l.length)))
    rw [head_len] at ha
    refine ⟨by omega, fun e => ?_⟩
    subst e
    have := ha.2 rfl
    omega
  · have e : rowT bs l q k = rowL l q := by unfold rowT; rw [if_neg h0]
    rw [e] at hB
    have h := blkGrow hB (rowL_ok hok q) (by rw [rowL_len]; omega) h0 hM hT
    refine ⟨by omega, fun e => ?_⟩
    subst e
    simp at h
    omega
theorem rowsB_step (l : List Tok) (q : Nat) : rowsB l (q + 1) = rowsB l q + expLen (rowL l q) := by
  unfold rowsB rowL
  rw [← expLen_append]
  congr 1
  rw [show 8000 * (q + 1) = 8000 * q + 8000 by omega, List.take_add]
/-- What Of lays has at most so many bits. -/
theorem laid_len {bs : List Nat} {l : List Tok} (hok : ∀ t ∈ l, okTok t) (hbs : bs.length ≤ 65000) {q : Nat} {L : List Bool} (h : RT bs l BestK q L) : L.length ≤ 8 * rowsB l q + 42 * q ∧ (q = 1 → L.length ≤ 8 * rowsB l q + 40) := by
  induction h with
  | zero => exact ⟨by simp, fun h => by omega⟩
  | @succ q k L M h hK hk hB ih =>
    have hr := row_len hok hbs hK hB
    have hs := rowsB_step l q
    refine ⟨by omega, fun e => ?_⟩
    obtain rfl : q = 0 := by omega
    have e2 : rowsB l 0 = 0 := rfl
    cases h
    have := hr.2 rfl
    omega
/-- Stored rows have at most so many bits. -/
theorem stored_max {bs : List Nat} {l : List Tok} {q : Nat} {L : List Bool} (h : RT bs l (fun _ k => k = 0) q L) : L.length ≤ 8 * rowsB l q + 42 * q := by
  induction h with
  | zero => simp
  | @succ q k L M h hK hk hB ih =>
    subst hK
    have h := store_len hB
    have hl : (rowT bs l q 0).length ≤ expLen (rowL l q) := by
      unfold rowT plainT
      rw [if_pos rfl, List.length_map, List.length_take]
      omega
    have ha := (align_len (headK L 0 (decide (q + 1 = rowsN l.length)))).1
    rw [head_len] at ha
    have hs := rowsB_step l q
    omega
/-- Stored blocks: the one of a short text. -/
theorem stored_len {bs : List Nat} (hn : bs.length ≤ 8000) {M : List Bool} (h : RT bs (plainT bs) (fun _ k => k = 0) (rowsN (plainT bs).length) M) : M.length = 8 * bs.length + 40 := by
  have hl : (plainT bs).length = bs.length := List.length_map _
  have h1 : rowsN (plainT bs).length = 0 + 1 := by rw [hl]; unfold rowsN; split <;> omega
  rw [h1] at h
  cases h with
  | succ h hK hk hB =>
    cases h
    subst hK
    have h := store_len hB
    have hx : expLen (plainT bs) = bs.length := by
      have : ∀ b : List Nat, expLen (plainT b) = b.length := fun b => by
        induction b with
        | nil => rfl
        | cons x b ih =>
          have e : plainT (x :: b) = [⟨x, 0, 0⟩] ++ plainT b := rfl
          rw [e, expLen_append, ih, List.length_cons]
          have : expLen [⟨x, 0, 0⟩] = 1 := rfl
          omega
      exact this bs
    have hrl : rowL (plainT bs) 0 = plainT bs := by unfold rowL; rw [Nat.mul_zero, List.drop_zero]; exact List.take_of_length_le (by rw [hl]; exact hn)
    have e : (rowT bs (plainT bs) 0 0).length = bs.length := by
      unfold rowT
      rw [if_pos rfl, hrl, hx]
      have e2 : rowsB (plainT bs) 0 = 0 := rfl
      rw [e2, List.drop_zero]
      unfold plainT
      rw [List.length_map, List.length_take]
      omega
    have ha := (align_len (headK [] 0 (decide (0 + 1 = rowsN (plainT bs).length)))).2 (by rw [head_len]; rfl)
    omega
end Go.Proofs.YtdehkaknbmbieaaGreat
namespace Go.Proofs.YtdehkaknbmbieaaGreat
set_option linter.unusedVariables false
set_option linter.unusedSimpArgs false
set_option linter.unusedSectionVars false
open Go.RowKit
set_option linter.unusedVariables false

/-- A Decoder at block b of lengths n; v: its symbols. -/
structure DcAt (w : World) (b : Nat) (v : Value) (n : List Nat) : Prop where
  blk : Blk w b (i64s (cl n) ++ [v]) 178
  row : Row w 3 1 v (symsTo n 16).length (i64s (symsTo n 16))
  far : v.ownBlock ≠ some b
theorem DcAt.upd {w w' : World} {b : Nat} {v : Value} {n : List Nat} {fp : List Nat} (h : DcAt w b v n) (hu : Upd fp w w') (hb : b ∉ fp) (hv : ∀ k, v.ownBlock = some k → k ∉ fp) : DcAt w' b v n :=
  ⟨h.blk.upd hu hb, h.row.upd hu hv, h.far⟩
def NewPost (w : World) (l : List Int) (e : Ending) (w' : World) : Prop :=
  Upd [] w w' ∧ (((kindOf l = 3 ∨ kindOf l = 0) ∧ e = .returned (.tuple #[.pointer none, .bool false])) ∨
    (kindOf l ≠ 3 ∧ kindOf l ≠ 0 ∧ ∃ b v, e = .returned (.tuple #[.pointer (some ⟨b, 0, none⟩), .bool true]) ∧ DcAt w' b v (nats l) ∧ w.heap.size ≤ b ∧ ∀ k, v.ownBlock = some k → w.heap.size ≤ k))
def NewRel (w : World) (b : Nat) (n : List Nat) (k i : Nat) (wr : World) : Prop :=
  Upd [] w wr ∧ ∃ v, Blk wr b (i64s (cl n) ++ [v]) 178 ∧ Row wr 3 1 v ((symsTo n k).length + (idx n k i).length) (i64s (symsTo n k ++ idx n k i)) ∧ v.ownBlock ≠ some b ∧ ∀ k, v.ownBlock = some k → w.heap.size ≤ k

set_option maxRecDepth 100000 in
set_option maxHeartbeats 3200000 in
theorem new_any (a : Option Addr) (len cap : Nat) (l : List Int) (w : World) (hlen : len ≤ 9223372036854775807) (hI : IntsIn w a len l) :
    Calls Tryz.prog 110 #[.slice a len cap] w (NewPost w l) := by
  have hll := hI.len
  have HI := Lib.hid hI
  clear hI
  subst hll
  have HK := Lib.hid (kind_any a l.length cap l w hlen HI.out)
  have HC := Lib.hid (fun w1 (hU : Upd [] w w1) => qcount_any a l.length cap l w1 hlen (HI.out.pure hU))
  obtain ⟨i0, hi0, hz0, hz1, hz2⟩ := info_parts infoInt
  by_cases hk3 : kindOf l = 3
  · have H3 := Lib.hid hk3
    rw [hk3] at HK
    clear hk3
    go_enter Tryz.func110, Tryz.ntmps110
    go_wp2_with fail
    refine HK.out.mono ?_
    rintro e w1 ⟨rfl, hU1⟩
    go_wp2
    go_returns
    exact ⟨hU1, .inl ⟨.inl H3.out, rfl⟩⟩
  · by_cases hk0 : kindOf l = 0
    · have H0 := Lib.hid hk0
      rw [hk0] at HK
      clear hk0 hk3
      go_enter Tryz.func110, Tryz.ntmps110
      go_wp2_with fail
      refine HK.out.mono ?_
      rintro e w1 ⟨rfl, hU1⟩
      go_wp2
      go_returns
      exact ⟨hU1, .inl ⟨.inr H0.out, rfl⟩⟩
    · obtain ⟨hok, hps⟩ := kindOf_ok hk3
      have hkb : ((kindOf l : Nat) : Int) ≠ 3 := by omega
      have hkb0 : ((kindOf l : Nat) : Int) ≠ 0 := by omega
      have hkf : (((kindOf l : Nat) : Int) == 3) = false := by simpa using hkb
      have hkf0 : (((kindOf l : Nat) : Int) == 0) = false := by simpa using hkb0
      have H3 := Lib.hid hk3
      have H0 := Lib.hid hk0
      have HO := Lib.hid hok
      generalize kindOf l = kk at HK hkb hkb0 hkf hkf0
      clear hk3 hk0
      have hnl := length_nats l
      have h300 := (okLens_spec HO.out).1
      go_enter Tryz.func110, Tryz.ntmps110
      go_wp2_with fail
      refine HK.out.mono ?_
      rintro e w1 ⟨rfl, hU1⟩
      go_wp2_with fail
      refine (HC.out _ (hU1.alloc _)).mono ?_
      rintro e w2 ⟨hU2, ⟨_, rfl⟩ | ⟨hno, _⟩⟩
      case inr => rw [hok] at hno; cases hno
      have hlen0 : (i64s (cl (nats l))).length = 16 := by rw [length_i64s, length_cl]
      clear hok
      have hBn := (Blk.new w1 (i64s (List.replicate 16 0) ++ [.slice none 0 0]) 178).upd hU2 (by simp)
      go_wp2_with (refine wpList_storePre rfl 160 _ _ rfl w1.heap.size rfl _ rfl 178 (i64s (List.replicate 16 0)) [.slice none 0 0] hBn (by kernel_rfl) hlen0 (i64s_one _) ?_; intro w3 hB3 hU3)
      have hb : w.heap.size ≤ w1.heap.size := hU1.size
      have hU13 : Upd [] w w3 := ((hU1.alloc _).then hU2).trans hU3 (fun k hk => by simp at hk; right; omega)
      clear hBn hU1 hU2 hU3
      generalize hg : w1.heap.size = b at *
      clear hg
      have hRel0 : NewRel w b (nats l) 1 0 w3 := ⟨hU13, .slice none 0 0, hB3, by rw [symsTo_1]; exact Row.nil _ _ _, by simp [Value.ownBlock], by simp [Value.ownBlock]⟩
      clear hB3 hU13
      go_loopg [6] 15 (fun g s6 wr => ∃ k, k ≤ 15 ∧ g = 15 - k ∧ s6 = .int .i64 ((k + 1 : Nat) : Int) ∧ NewRel w b (nats l) (k + 1) 0 wr)
      case atStart => exact ⟨0, by omega, rfl, rfl, hRel0⟩
      case round =>
        obtain ⟨k, hk, rfl, rfl, hR⟩ := hrel
        clear hRel0
        by_cases hc : k < 15
        · have hcz : (k : Int) + 1 ≤ 15 := by omega
          go_wp2
          go_loopg [33] l.length (fun g s33 wx => ∃ i, i ≤ l.length ∧ g = l.length - i ∧ s33 = .int .i64 (i : Nat) ∧ NewRel w b (nats l) (k + 1) i wx)
          case atStart => exact ⟨0, by omega, rfl, rfl, hR⟩
          case round =>
            obtain ⟨i, hin, rfl, rfl, hUx, v, hB, hRow, hne, hnew⟩ := hrel
            clear hR
            by_cases hc2 : i < l.length
            · have hcz2 : (i : Int) < (l.length : Int) := by omega
              obtain ⟨ba, off, rfl, c0, r1, r2⟩ := (HI.out.pure hUx).cell i hc2
              have hkk := (okLens_spec HO.out).2 _ (List.getElem_mem hc2)
              obtain ⟨x, hx⟩ : ∃ x : Nat, l[i] = (x : Int) := ⟨l[i].toNat, by omega⟩
              have hin' : i < (nats l).length := by omega
              have hnd : (nats l).getD i 0 = x := by rw [List.getD, List.getElem?_eq_getElem hin']; simp [nats, hx]
              rw [hx] at c0 hkk
              have hs := idx_succ (nats l) (k + 1) i
              rw [hnd] at hs
              clear hx r1 r2 hnd
              by_cases hxk : x = k + 1
              · have hxz : (x : Int) = (k : Int) + 1 := by omega
                rw [if_pos hxk] at hs
                have H2 := Lib.hid hs
                clear hs hxk
                have hl1 := length_symsTo_le (nats l) (k + 1)
                have hl2 := length_idx_le (nats l) (k + 1) i
                have hl3 : (k + 1) * (nats l).length ≤ 15 * 300 := Nat.mul_le_mul (by omega) (by omega)
                obtain ⟨va, vc, rfl⟩ := hRow.form
                have d1 := hB.cell 16 (v := .slice va ((symsTo (nats l) (k + 1)).length + (idx (nats l) (k + 1) i).length) vc) (by rw [List.getElem?_append_right (by omega), hlen0]; rfl)
                have f1 := hB.frz 16
                have hlt := Row.lt hRow
                have hbl := hB.lt
                obtain ⟨XS, hXS⟩ : ∃ XS, symsTo (nats l) (k + 1) ++ idx (nats l) (k + 1) i = XS := ⟨_, rfl⟩
                have hXL : (symsTo (nats l) (k + 1)).length + (idx (nats l) (k + 1) i).length = XS.length := by rw [← hXS, List.length_append]
                have hXb : XS.length ≤ 5000 := by omega
                rw [hXL] at hRow hlt d1 hB hne hnew
                rw [hXS] at hRow
                have HXS := Lib.hid hXS
                have HXL := Lib.hid hXL
                clear hXS hXL hl1 hl2 hl3
                go_wp2_with (at_builtin; refine wpList_app _ rfl _ _ 55 rfl 3 i0 _ 1 8 Tryz.underlying55 hi0 hz0 hz1 hz2 rfl (by omega) _ XS.length _ rfl (hRow.alloc _) ⟨wr.heap.size, 0, none⟩ 1 1 [_] rfl rfl (World.news_of_block (cs := #[_]) (t := 3) (fr := (0, 0)) (heap_alloc_new _ _)) (by simp [Value.oneCell']) (by unfold maxLen; omega) (by omega) ?_)
                intro v2 w4 hR4 hU4 hT4
                obtain ⟨a2, c2, rfl⟩ := hR4.form
                have hfar : b ∉ (Value.slice va XS.length vc).ownBlock.toList := by simpa [eq_comm] using hne
                have hB4 := (hB.alloc _).upd hU4 hfar
                have k4 := hB4.cell 16 (v := .slice va XS.length vc) (by rw [List.getElem?_append_right (by omega), hlen0]; rfl)
                have f4 := hB4.frz 16
                go_wp2
                go_roundg (l.length - (i + 1))
                case measure => omega
                case rel =>
                  refine ⟨i + 1, by omega, rfl, by go_num, ((hUx.alloc _).trans hU4 ?_).setCell (.inr hb) _, .slice a2 (XS.length + 1) c2, ?_, ?_, ?_, ?_⟩
                  · intro k hk; right; exact hnew k (by simpa using hk)
                  · have h := hB4.set 16 (.slice a2 (XS.length + 1) c2)
                    rw [List.set_append_right _ _ (by omega), hlen0] at h
                    exact h
                  · rw [H2.out, ← List.append_assoc, HXS.out, List.length_append, ← Nat.add_assoc, HXL.out]
                    have h := hR4.setFar (a := ⟨b, 16, none⟩) (.slice a2 (XS.length + 1) c2) (hT4.ne (by simp; omega) hne)
                    rw [show i64s (XS ++ [i]) = i64s XS ++ [.int .i64 (i : Int)] by simp [i64s]]
                    exact h
                  · exact hT4.ne (by simp; omega) hne
                  · intro k hk
                    rcases hT4 with h | ⟨g, h1, h2⟩
                    · exact hnew k (by rw [← h]; exact hk)
                    · rw [h1] at hk; simp at hk h2; have := hUx.size; omega
              · have hxz : ¬ (x : Int) = (k : Int) + 1 := by omega
                rw [if_neg hxk, List.append_nil] at hs
                have H2 := Lib.hid hs
                clear hs hxk
                go_wp2
                go_roundg (l.length - (i + 1))
                case measure => omega
                case rel => exact ⟨i + 1, by omega, rfl, by go_num, hUx, v, hB, by rw [H2.out]; exact hRow, hne, hnew⟩
            · have hcz2 : ¬ (i : Int) < (l.length : Int) := by omega
              have hi : i = (nats l).length := by omega
              have H2 := Lib.hid (symsTo_succ (nats l) (k + 1) (by omega))
              have H3 := Lib.hid (show (idx (nats l) (k + 1 + 1) 0) = [] by simp [idx])
              have hRow2 : Row wr 3 1 v ((symsTo (nats l) (k + 1 + 1)).length + (idx (nats l) (k + 1 + 1) 0).length) (i64s (symsTo (nats l) (k + 1 + 1) ++ idx (nats l) (k + 1 + 1) 0)) := by
                rw [H3.out, H2.out, List.append_nil, List.length_nil, Nat.add_zero, List.length_append, ← hi]; exact hRow
              clear hi hRow
              go_wp2
              go_roundg (15 - (k + 1))
              case measure => omega
              case rel => exact ⟨k + 1, by omega, rfl, by go_num, hUx, v, hB, hRow2, hne, hnew⟩
        · have hk15 : k = 15 := by omega
          have hcz : ¬ (k : Int) + 1 ≤ 15 := by omega
          subst hk15
          obtain ⟨hUx, v, hB, hRow, hne, hnew⟩ := hR
          have H3' := Lib.hid (show (idx (nats l) (15 + 1) 0) = [] by simp [idx])
          rw [H3'.out, List.append_nil, List.length_nil, Nat.add_zero] at hRow
          go_wp2
          go_returns
          exact ⟨hUx, .inr ⟨H3.out, H0.out, b, v, rfl, ⟨hB, hRow, hne⟩, hb, hnew⟩⟩
end Go.Proofs.YtdehkaknbmbieaaGreat

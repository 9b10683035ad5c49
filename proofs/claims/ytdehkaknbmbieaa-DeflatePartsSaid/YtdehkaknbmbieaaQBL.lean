/- Package deflate: Best and long: their walks. -/
import Derived.Test.YtdehkaknbmbieaaSiz
import Derived.Test.YtdehkaknbmbieaaQBG
import Derived.Test.YtdehkaknbmbieaaQBH
import Derived.Test.YtdehkaknbmbieaaDPar
namespace Go.Proofs.Ytdehkaknbmbieaa
set_option linter.unusedVariables false
set_option linter.unusedSimpArgs false
set_option linter.unusedSectionVars false
open Go.RowKit
attribute [local go_sem] Oper.semAt_some
set_option linter.unusedVariables false
set_option linter.unusedSimpArgs false

/-- The first least of the first i of three. -/
def bst (A B C : Int) (i : Nat) : Nat :=
  if i ≤ 1 then 0 else if i = 2 then (if B < A then 1 else 0) else if C < (if B < A then B else A) then 2 else if B < A then 1 else 0
def at3 (A B C : Int) (i : Nat) : Int := if i = 0 then A else if i = 1 then B else C
theorem bst_lt (A B C : Int) (i : Nat) : bst A B C i < 3 := by
  unfold bst
  (repeat' split) <;> omega
theorem bst_least (A B C : Int) (k : Nat) (hk : k < 3) : at3 A B C (bst A B C 3) ≤ at3 A B C k ∧ (k < bst A B C 3 → at3 A B C (bst A B C 3) < at3 A B C k) := by
  obtain rfl | rfl | rfl : k = 0 ∨ k = 1 ∨ k = 2 := by omega
  all_goals (unfold bst at3; simp only [show ¬ (3 : Nat) ≤ 1 by omega, show ¬ (3 : Nat) = 2 by omega, if_false]; by_cases h1 : B < A <;> by_cases h2 : C < B <;> by_cases h3 : C < A <;> simp [h1, h2, h3] <;> omega)
/-- deflate.Best of tokens. -/
def BestP (l : List Tok) (w : World) (e : Ending) (w' : World) : Prop := ∃ (lits backs lens : List Nat) (steps : List StpD) (t : Nat), MadeO l lits backs steps lens ∧ ToldO lens t ∧
  e = .returned (.int .i64 (bst ((35 + 8 * expLen l : Nat) : Int) (3 + bodyI (ints (fixP 4)) (ints (List.replicate 32 5)) (manyF l)) (((3 + (14 + 3 * t + szT lens steps) : Nat) : Int) + bodyI (ints lits) (ints backs) (manyF l)) 3 : Nat)) ∧ Upd [] w w'
set_option maxRecDepth 100000 in
set_option maxHeartbeats 3200000 in
theorem dbest_any (l : List Tok) (a : Option Addr) (n cap : Nat) (w : World) (hI : TokIn w a n l) (hn : n ≤ 100000) (hok : ∀ t ∈ l, okTok t) :
    Calls Try.prog 32 #[.slice a n cap] w fun e w' => BestP l w e w' := by
  have HS := Lib.hid (sizes_any l a n cap w hI hn hok)
  clear hI hok
  go_enter Try.func32, Try.ntmps32
  go_wp2_with fail
  refine HS.out.mono ?_
  rintro e w1 ⟨lits, backs, lens, steps, t, hM, hT, rfl, hU⟩
  have HM := Lib.hid hM
  have HT := Lib.hid hT
  have HU1 := Lib.hid hU
  obtain ⟨X, hX⟩ : ∃ X, X = ((35 + 8 * expLen l : Nat) : Int) := ⟨_, rfl⟩
  obtain ⟨Y, hY⟩ : ∃ X, X = (3 + bodyI (ints (fixP 4)) (ints (List.replicate 32 5)) (manyF l)) := ⟨_, rfl⟩
  obtain ⟨Z, hZ⟩ : ∃ X, X = (((3 + (14 + 3 * t + szT lens steps) : Nat) : Int) + bodyI (ints lits) (ints backs) (manyF l)) := ⟨_, rfl⟩
  rw [← hX, ← hY, ← hZ]
  have HX := Lib.hid hX
  have HY := Lib.hid hY
  have HZ := Lib.hid hZ
  clear hM hT hU hX hY hZ HS
  have HIX : Hid (∀ w (i : Nat), i < 3 → (Instr.index 61 (.agg #[.int .i64 X, .int .i64 Y, .int .i64 Z]) (.int .i64 (i : Nat))).run Try.prog w = .ok (.int .i64 (at3 X Y Z i)) w) := Lib.hid (fun w i hi => by
    obtain rfl | rfl | rfl : i = 0 ∨ i = 1 ∨ i = 2 := by omega
    all_goals exact run_indexAgg (P := Try.prog) 61 3 3 Try.underlying61 .i64 Try.underlying3 (by kernel_rfl) [.int .i64 X, .int .i64 Y, .int .i64 Z] rfl .i64 _ (by omega) w)
  go_simp
  go_wp2
  have HB := Lib.hid (Blk.new w1 [.int .i64 X, .int .i64 Y, .int .i64 Z] 61)
  have HU2 := Lib.hid (HU1.out.alloc (.cells #[.int .i64 X, .int .i64 Y, .int .i64 Z] 61))
  change Code.wp _ _ _ _ (w1.alloc (.cells #[.int .i64 X, .int .i64 Y, .int .i64 Z] 61))
  generalize w1.alloc (.cells #[.int .i64 X, .int .i64 Y, .int .i64 Z] 61) = w2 at *
  generalize w1.heap.size = b at *
  go_loopg [2, 9] 3 (fun gg s2 s9 wr => ∃ i : Nat, i ≤ 3 ∧ gg = 3 - i ∧ s9 = .int .i64 (i : Nat) ∧ s2 = .int .i64 (bst X Y Z i : Nat) ∧ wr = w2)
  case atStart => exact ⟨0, by omega, by omega, rfl, rfl, rfl⟩
  case round =>
    obtain ⟨i, hi3, rfl, rfl, rfl, hwr⟩ := hrel
    subst hwr
    have hbl := bst_lt X Y Z i
    by_cases hc : i < 3
    · have hix := HIX.out wr i hc
      have hw1 : IntKind.i64.wrap ((i : Int) + 1) = ((i + 1 : Nat) : Int) := by rw [IntWalk.i64_in _ (by omega)]; rfl
      have HN : Hid (bst X Y Z (i + 1) = if at3 X Y Z i < at3 X Y Z (bst X Y Z i) then i else bst X Y Z i) := Lib.hid (by
        obtain rfl | rfl | rfl : i = 0 ∨ i = 1 ∨ i = 2 := by omega
        · simp [bst, at3]
        · by_cases h1 : Y < X <;> simp [bst, at3, h1]
        · by_cases h1 : Y < X <;> by_cases h2 : Z < Y <;> by_cases h3 : Z < X <;> simp [bst, at3, h1, h2, h3])
      have hcz : (i : Int) < 3 := by omega
      generalize bst X Y Z i = K at *
      have hKc : wr.cell? ⟨b, K, none⟩ = some (.int .i64 (at3 X Y Z K)) := by
        obtain rfl | rfl | rfl : K = 0 ∨ K = 1 ∨ K = 2 := by omega
        all_goals exact HB.out.cell _ rfl
      generalize at3 X Y Z i = V at *
      generalize at3 X Y Z K = U at *
      go_wp2
      all_goals go_roundg (3 - (i + 1))
      · exact ⟨i + 1, by omega, by first | rfl | omega, by first | rfl | go_num, by rw [HN.out, if_pos (by omega)], rfl⟩
      · omega
      · exact ⟨i + 1, by omega, by first | rfl | omega, by first | rfl | go_num, by rw [HN.out, if_neg (by omega)], rfl⟩
      · omega
    · obtain rfl : i = 3 := by omega
      go_wp2
      go_ret
      exact ⟨lits, backs, lens, steps, t, HM.out, HT.out, by rw [HX.out, HY.out, HZ.out]; rfl, HU2.out⟩
set_option maxRecDepth 100000 in
set_option maxHeartbeats 3200000 in
/-- deflate.long: how many bytes tokens make. -/
theorem dlong_any (l : List Tok) (a : Option Addr) (n cap : Nat) (w : World) (hI : TokIn w a n l) (hn : n ≤ 100000) (hok : ∀ t ∈ l, okTok t) :
    Calls Try.prog 118 #[.slice a n cap] w fun e w' => e = .returned (.int .i64 (expLen l : Nat)) ∧ Upd [] w w' := by
  have hln := hI.len
  have HEL := Lib.hid (fun i => expLen_le (l.take i) (fun t h => hok t (List.mem_of_mem_take h)))
  have HOK := Lib.hid hok
  have HI := Lib.hid hI
  have HLN := Lib.hid hln
  clear hI hok hln
  go_enter Try.func118, Try.ntmps118
  go_wp2
  go_loopg [2, 7] 200000 (fun gg s2 s7 wr => ∃ i : Nat, i ≤ n ∧ gg = 200000 - i ∧ s7 = .int .i64 (i : Nat) ∧ s2 = .int .i64 (expLen (l.take i) : Nat) ∧ Hid (Upd [] w wr))
  case atStart => exact ⟨0, by omega, by omega, rfl, rfl, Lib.hid (Upd.refl _ _)⟩
  case round =>
    obtain ⟨i, hin, rfl, rfl, rfl, HU⟩ := hrel
    have hms : expLen (l.take i) ≤ 258 * i := Nat.le_trans (HEL.out i) (Nat.mul_le_mul_left _ (List.length_take_le _ _))
    by_cases hc : i < n
    · have hcz : (i : Int) < (n : Int) := by omega
      have hil : i < l.length := by rw [HLN.out]; exact hc
      have hw1 : IntKind.i64.wrap ((i : Int) + 1) = ((i + 1 : Nat) : Int) := by rw [IntWalk.i64_in _ (by omega)]; rfl
      obtain ⟨b, off, rfl, ⟨hc1, hc2, hc3⟩, r1, r2, r3⟩ := (HI.out.pure HU.out).cell i hil
      have HSM : Hid (expLen (l.take (i + 1)) = expLen (l.take i) + tokLen l[i]) := Lib.hid (by rw [List.take_succ_eq_append_getElem hil, expLen_snoc])
      have htl := tokLen_le (HOK.out _ (List.getElem_mem hil))
      have hmx : max 1 l[i].long = (tokLen l[i] : Int) := by unfold tokLen; split <;> omega
      generalize l[i] = t at *
      generalize tokLen t = mt at *
      obtain ⟨tb, tl, tk⟩ := t
      dsimp only at hc1 hc2 hc3 r1 r2 r3 hmx
      have HU4 := Lib.hid (HU.out.alloc (.cells #[.int .u8 (tb : Nat), .int .i64 tl, .int .i64 tk] 40))
      generalize expLen (l.take i) = ms at *
      have hws : IntKind.i64.wrap ((ms : Int) + (mt : Int)) = ((ms + mt : Nat) : Int) := by rw [IntWalk.i64_in _ (by omega)]; rfl
      clear hil
      go_wp2
      go_roundg (200000 - (i + 1))
      · exact ⟨i + 1, by omega, by first | rfl | omega, by first | rfl | go_num, by rw [HSM.out]; first | rfl | go_num, HU4⟩
      · omega
    · have hcz : ¬ (i : Int) < (n : Int) := by omega
      obtain rfl : i = n := by omega
      have htk : l.take i = l := List.take_of_length_le (by rw [HLN.out]; exact Nat.le_refl _)
      rw [htk] at hms ⊢
      clear htk
      go_wp2
      go_ret
      exact ⟨rfl, HU.out⟩
end Go.Proofs.Ytdehkaknbmbieaa
namespace Go.Proofs.Ytdehkaknbmbieaa
set_option linter.unusedVariables false
set_option linter.unusedSimpArgs false
set_option linter.unusedSectionVars false
open Go.RowKit
set_option linter.unusedVariables false
set_option linter.unusedSimpArgs false

theorem block_up {L M : List Bool} {l : List Tok} {k : Nat} {last : Bool} (hB : IsBlock L l k last M) (hok : ∀ t ∈ l, okTok t) (hn : l.length ≤ 100000) : M.length ≤ L.length + 10000000 := by
  have hml : (manyF l).1.length = 286 ∧ (manyF l).2.length = 30 := by have := many_ok l l.length (Nat.le_refl _); rw [List.take_length] at this; exact ⟨this.la, this.lb⟩
  rcases hB with ⟨h, e⟩ | ⟨h, e⟩ | ⟨h, lits', backs', steps', lens', t', hM', hT', e⟩
  · have hbl : (litBytes l).length = l.length := List.length_map _
    rw [e]
    unfold storeL
    rw [List.length_append, List.length_append, List.length_append, length_alignL, head_len, length_low, length_low, length_textBits, hbl]
    omega
  · rw [e, List.length_append, head_len]
    have := symsB_bits (fixP 4) (List.replicate 32 5) l
    have h2 := bodyI_bits _ _ (ints_in15 fix15.1) (ints_in15 fix15.2.1) l hn hok
    have h3 := bodyI_bd _ _ fix15.1 fix15.2.1 l hn hok
    omega
  · obtain ⟨_, _, _, _, x15, y15, hsy, hl7, _, hsl⟩ := hM'.bd hml
    rw [e, List.length_append, List.length_append, head_len]
    have h1 := tabB_le lits'.length backs'.length t' lens' steps' hT'.hi (fun x hx => by have := hl7 x hx; omega) (fun s hs => (hsy s hs).2)
    have := symsB_bits lits' backs' l
    have h2 := bodyI_bits _ _ (ints_in15 x15) (ints_in15 y15) l hn hok
    have h3 := bodyI_bd _ _ x15 y15 l hn hok
    omega
/-- How many bytes the first rows make. -/
def rowsB (l : List Tok) (q : Nat) : Nat := expLen (l.take (8000 * q))
theorem expLen_append (l r : List Tok) : expLen (l ++ r) = expLen l + expLen r := by unfold expLen; rw [List.map_append, List.sum_append]
theorem rowsB_succ (l : List Tok) (q : Nat) : rowsB l (q + 1) = rowsB l q + expLen (rowL l q) := by
  unfold rowsB rowL
  rw [← expLen_append, show 8000 * (q + 1) = 8000 * q + 8000 by omega, List.take_add]
theorem rowsB_le (l : List Tok) (q : Nat) : rowsB l q ≤ expLen l := by
  unfold rowsB
  have h : expLen l = expLen (l.take (8000 * q)) + expLen (l.drop (8000 * q)) := by rw [← expLen_append, List.take_append_drop]
  omega
/-- What a row is written as. -/
def rowT (bs : List Nat) (l : List Tok) (q k : Nat) : List Tok := if k = 0 then plainT ((bs.drop (rowsB l q)).take (expLen (rowL l q))) else rowL l q
/-- The first rows are written: bits L. KK tells which kinds may be. -/
inductive RT (bs : List Nat) (l : List Tok) (KK : List Tok → Nat → Prop) : Nat → List Bool → Prop
  | zero : RT bs l KK 0 []
  | succ {q k : Nat} {L M : List Bool} : RT bs l KK q L → KK (rowL l q) k → k ≤ 2 → IsBlock L (rowT bs l q k) k (decide (q + 1 = rowsN l.length)) M → RT bs l KK (q + 1) M
theorem rowL_ok {l : List Tok} (hok : ∀ t ∈ l, okTok t) (q : Nat) : ∀ t ∈ rowL l q, okTok t := fun t ht => hok t (List.mem_of_mem_drop (List.mem_of_mem_take ht))
theorem plainT_ok {bs : List Nat} (h : ∀ b ∈ bs, b < 256) : ∀ t ∈ plainT bs, okTok t := fun t ht => by
  obtain ⟨b, hb, rfl⟩ := List.mem_map.1 ht
  exact .inl ⟨rfl, rfl, h b hb⟩
theorem farN_plainT : ∀ b : List Nat, farN (plainT b) = 0
  | [] => rfl
  | x :: b => by
    have := farN_plainT b
    show farN (⟨x, 0, 0⟩ :: plainT b) = 0
    simp [farN] at this ⊢
    exact this
theorem rowT_ok {bs : List Nat} {l : List Tok} (hok : ∀ t ∈ l, okTok t) (hb : ∀ b ∈ bs, b < 256) (q k : Nat) : ∀ t ∈ rowT bs l q k, okTok t := by
  unfold rowT
  split
  · exact plainT_ok (fun b h => hb b (List.mem_of_mem_drop (List.mem_of_mem_take h)))
  · exact rowL_ok hok q
theorem rowT_len {bs : List Nat} {l : List Tok} (hbs : bs.length ≤ 65000) (q k : Nat) : (rowT bs l q k).length ≤ 65000 := by
  unfold rowT plainT
  split
  · rw [List.length_map, List.length_take, List.length_drop]; omega
  · rw [rowL_len]; omega
theorem RT.up {bs : List Nat} {l : List Tok} {KK : List Tok → Nat → Prop} (hok : ∀ t ∈ l, okTok t) (hb : ∀ b ∈ bs, b < 256) (hbs : bs.length ≤ 65000) : ∀ {q : Nat} {L : List Bool}, RT bs l KK q L → L.length ≤ 10000000 * q
  | _, _, .zero => by simp
  | _, _, .succ h _ _ hB => by
    have h1 := h.up hok hb hbs
    have h2 := block_up hB (rowT_ok hok hb _ _) (Nat.le_trans (rowT_len hbs _ _) (by omega))
    omega
end Go.Proofs.Ytdehkaknbmbieaa

/- Package deflate: Best and long: their walks. -/
import Derived.Test.YtdehkaknbmbieaaGreatSiz
import Derived.Test.YtdehkaknbmbieaaGreatQBE
import Derived.Test.YtdehkaknbmbieaaGreatQBF
import Derived.Test.YtdehkaknbmbieaaGreatQAN
namespace Go.Proofs.YtdehkaknbmbieaaGreat
set_option linter.unusedVariables false
set_option linter.unusedSimpArgs false
set_option linter.unusedSectionVars false
open Go.RowKit
attribute [local go_sem] Oper.semAt_some
set_option linter.unusedVariables false
set_option linter.unusedSimpArgs false

/-- The first least of the first i of three. -/
def bst (A B C : Int) (i : Nat) : Nat :=
  if i ≤ 1 then 0 else if i = 2 then (if B < A then 1 else 0) else if C < (if B < A then B else A) then 2 else if B < A then 1 else 0
def at3 (A B C : Int) (i : Nat) : Int := if i = 0 then A else if i = 1 then B else C
theorem bst_lt (A B C : Int) (i : Nat) : bst A B C i < 3 := by
  unfold bst
  (repeat' split) <;> omega
theorem bst_least (A B C : Int) (k : Nat) (hk : k < 3) : at3 A B C (bst A B C 3) ≤ at3 A B C k ∧ (k < bst A B C 3 → at3 A B C (bst A B C 3) < at3 A B C k) := by
  obtain rfl | rfl | rfl : k = 0 ∨ k = 1 ∨ k = 2 := by omega
  all_goals (unfold bst at3; simp only [show ¬ (3 : Nat) ≤ 1 by omega, show ¬ (3 : Nat) = 2 by omega, if_false]; by_cases h1 : B < A <;> by_cases h2 : C < B <;> by_cases h3 : C < A <;> simp [h1, h2, h3] <;> omega)
/-- deflate.Best of tokens. -/
def BestP (l : List Tok) (w : World) (e : Ending) (w' : World) : Prop := ∃ (lits backs lens : List Nat) (steps : List StpD) (t : Nat), MadeO l lits backs steps lens ∧ ToldO lens t ∧
  e = .returned (.int .i64 (bst ((35 + 8 * expLen l : Nat) : Int) (3 + bodyI (ints (fixP 4)) (ints (List.replicate 32 5)) (manyF l)) (((3 + (14 + 3 * t + szT lens steps) : Nat) : Int) + bodyI (ints lits) (ints backs) (manyF l)) 3 : Nat)) ∧ Upd [] w w'
set_option maxRecDepth 100000 in
set_option maxHeartbeats 3200000 in
theorem dbest_any (l : List Tok) (a : Option Addr) (n cap : Nat) (w : World) (hI : TokIn w a n l) (hn : n ≤ 100000) (hok : ∀ t ∈ l, okTok t) :
    Calls Tryz.prog 38 #[.slice a n cap] w fun e w' => BestP l w e w' := by
  have HS := Lib.hid (sizes_any l a n cap w hI hn hok)
  clear hI hok
  go_enter Tryz.func38, Tryz.ntmps38
  go_wp2_with fail
  refine HS.out.mono ?_
  rintro e w1 ⟨lits, backs, lens, steps, t, hM, hT, rfl, hU⟩
  have HM := Lib.hid hM
  have HT := Lib.hid hT
  have HU1 := Lib.hid hU
  obtain ⟨X, hX⟩ : ∃ X, X = ((35 + 8 * expLen l : Nat) : Int) := ⟨_, rfl⟩
  obtain ⟨Y, hY⟩ : ∃ X, X = (3 + bodyI (ints (fixP 4)) (ints (List.replicate 32 5)) (manyF l)) := ⟨_, rfl⟩
  obtain ⟨Z, hZ⟩ : ∃ X, X = (((3 + (14 + 3 * t + szT lens steps) : Nat) : Int) + bodyI (ints lits) (ints backs) (manyF l)) := ⟨_, rfl⟩
  rw [← hX, ← hY, ← hZ]
  have HX := Lib.hid hX
  have HY := Lib.hid hY
  have HZ := Lib.hid hZ
  clear hM hT hU hX hY hZ HS
  have HIX : Hid (∀ w (i : Nat), i < 3 → (Instr.index 39 (.agg #[.int .i64 X, .int .i64 Y, .int .i64 Z]) (.int .i64 (i : Nat))).run Tryz.prog w = .ok (.int .i64 (at3 X Y Z i)) w) := Lib.hid (fun w i hi => by
    obtain rfl | rfl | rfl : i = 0 ∨ i = 1 ∨ i = 2 := by omega
    all_goals exact run_indexAgg (P := Tryz.prog) 39 3 3 Tryz.underlying39 .i64 Tryz.underlying3 (by kernel_rfl) [.int .i64 X, .int .i64 Y, .int .i64 Z] rfl .i64 _ (by omega) w)
  go_simp
  go_wp2
  have HB := Lib.hid (Blk.new w1 [.int .i64 X, .int .i64 Y, .int .i64 Z] 39)
  have HU2 := Lib.hid (HU1.out.alloc (.cells #[.int .i64 X, .int .i64 Y, .int .i64 Z] 39))
  change Code.wp _ _ _ _ (w1.alloc (.cells #[.int .i64 X, .int .i64 Y, .int .i64 Z] 39))
  generalize w1.alloc (.cells #[.int .i64 X, .int .i64 Y, .int .i64 Z] 39) = w2 at *
  generalize w1.heap.size = b at *
  go_loopg [2, 9] 3 (fun gg s2 s9 wr => ∃ i : Nat, i ≤ 3 ∧ gg = 3 - i ∧ s9 = .int .i64 (i : Nat) ∧ s2 = .int .i64 (bst X Y Z i : Nat) ∧ wr = w2)
  case atStart => exact ⟨0, by omega, by omega, rfl, rfl, rfl⟩
  case round =>
    obtain ⟨i, hi3, rfl, rfl, rfl, hwr⟩ := hrel
    subst hwr
    have hbl := bst_lt X Y Z i
    by_cases hc : i < 3
    · have hix := HIX.out wr i hc
      have hw1 : IntKind.i64.wrap ((i : Int) + 1) = ((i + 1 : Nat) : Int) := by rw [IntWalk.i64_in _ (by omega)]; rfl
      have HN : Hid (bst X Y Z (i + 1) = if at3 X Y Z i < at3 X Y Z (bst X Y Z i) then i else bst X Y Z i) := Lib.hid (by
        obtain rfl | rfl | rfl : i = 0 ∨ i = 1 ∨ i = 2 := by omega
        · simp [bst, at3]
        · by_cases h1 : Y < X <;> simp [bst, at3, h1]
        · by_cases h1 : Y < X <;> by_cases h2 : Z < Y <;> by_cases h3 : Z < X <;> simp [bst, at3, h1, h2, h3])
      have hcz : (i : Int) < 3 := by omega
      generalize bst X Y Z i = K at *
      have hKc : wr.cell? ⟨b, K, none⟩ = some (.int .i64 (at3 X Y Z K)) := by
        obtain rfl | rfl | rfl : K = 0 ∨ K = 1 ∨ K = 2 := by omega
        all_goals exact HB.out.cell _ rfl
      generalize at3 X Y Z i = V at *
      generalize at3 X Y Z K = U at *
      go_wp2
      all_goals go_roundg (3 - (i + 1))
      · exact ⟨i + 1, by omega, by first | rfl | omega, by first | rfl | go_num, by rw [HN.out, if_pos (by omega)], rfl⟩
      · omega
      · exact ⟨i + 1, by omega, by first | rfl | omega, by first | rfl | go_num, by rw [HN.out, if_neg (by omega)], rfl⟩
      · omega
    · obtain rfl : i = 3 := by omega
      go_wp2
      go_ret
      exact ⟨lits, backs, lens, steps, t, HM.out, HT.out, by rw [HX.out, HY.out, HZ.out]; rfl, HU2.out⟩
set_option maxRecDepth 100000 in
set_option maxHeartbeats 3200000 in
/-- deflate.long: how many bytes tokens make. -/
theorem dlong_any (l : List Tok) (a : Option Addr) (n cap : Nat) (w : World) (hI : TokIn w a n l) (hn : n ≤ 100000) (hok : ∀ t ∈ l, okTok t) :
    Calls Tryz.prog 74 #[.slice a n cap] w fun e w' => e = .returned (.int .i64 (expLen l : Nat)) ∧ Upd [] w w' := by
  have hln := hI.len
  have HEL := Lib.hid (fun i => expLen_le (l.take i) (fun t h => hok t (List.mem_of_mem_take h)))
  have HOK := Lib.hid hok
  have HI := Lib.hid hI
  have HLN := Lib.hid hln
  clear hI hok hln
  go_enter Tryz.func74, Tryz.ntmps74
  go_wp2
  go_loopg [2, 7] 200000 (fun gg s2 s7 wr => ∃ i : Nat, i ≤ n ∧ gg = 200000 - i ∧ s7 = .int .i64 (i : Nat) ∧ s2 = .int .i64 (expLen (l.take i) : Nat) ∧ Hid (Upd [] w wr))
  case atStart => exact ⟨0, by omega, by omega, rfl, rfl, Lib.hid (Upd.refl _ _)⟩
  case round =>
    obtain ⟨i, hin, rfl, rfl, rfl, HU⟩ := hrel
    have hms : expLen (l.take i) ≤ 258 * i := Nat.le_trans (HEL.out i) (Nat.mul_le_mul_left _ (List.length_take_le _ _))
    by_cases hc : i < n
    · have hcz : (i : Int) < (n : Int) := by omega
      have hil : i < l.length := by rw [HLN.out]; exact hc
      have hw1 : IntKind.i64.wrap ((i : Int) + 1) = ((i + 1 : Nat) : Int) := by rw [IntWalk.i64_in _ (by omega)]; rfl
      obtain ⟨b, off, rfl, ⟨hc1, hc2, hc3⟩, r1, r2, r3⟩ := (HI.out.pure HU.out).cell i hil
      have HSM : Hid (expLen (l.take (i + 1)) = expLen (l.take i) + tokLen l[i]) := Lib.hid (by rw [List.take_succ_eq_append_getElem hil, expLen_snoc])
      have htl := tokLen_le (HOK.out _ (List.getElem_mem hil))
      have hmx : max 1 l[i].long = (tokLen l[i] : Int) := by unfold tokLen; split <;> omega
      generalize l[i] = t at *
      generalize tokLen t = mt at *
      obtain ⟨tb, tl, tk⟩ := t
      dsimp only at hc1 hc2 hc3 r1 r2 r3 hmx
      have HU4 := Lib.hid (HU.out.alloc (.cells #[.int .u8 (tb : Nat), .int .i64 tl, .int .i64 tk] 49))
      generalize expLen (l.take i) = ms at *
      have hws : IntKind.i64.wrap ((ms : Int) + (mt : Int)) = ((ms + mt : Nat) : Int) := by rw [IntWalk.i64_in _ (by omega)]; rfl
      clear hil
      go_wp2
      go_roundg (200000 - (i + 1))
      · exact ⟨i + 1, by omega, by first | rfl | omega, by first | rfl | go_num, by rw [HSM.out]; first | rfl | go_num, HU4⟩
      · omega
    · have hcz : ¬ (i : Int) < (n : Int) := by omega
      obtain rfl : i = n := by omega
      have htk : l.take i = l := List.take_of_length_le (by rw [HLN.out]; exact Nat.le_refl _)
      rw [htk] at hms ⊢
      clear htk
      go_wp2
      go_ret
      exact ⟨rfl, HU.out⟩
end Go.Proofs.YtdehkaknbmbieaaGreat
namespace Go.Proofs.YtdehkaknbmbieaaGreat
set_option linter.unusedVariables false
set_option linter.unusedSimpArgs false
set_option linter.unusedSectionVars false
open Go.RowKit
set_option linter.unusedVariables false
set_option linter.unusedSimpArgs false

theorem block_up {L M : List Bool} {l : List Tok} {k : Nat} {last : Bool} (hB : IsBlock L l k last M) (hok : ∀ t ∈ l, okTok t) (hn : l.length ≤ 100000) : M.length ≤ L.length + 10000000 := by
  have hml : (manyF l).1.length = 286 ∧ (manyF l).2.length = 30 := by have := many_ok l l.length (Nat.le_refl _); rw [List.take_length] at this; exact ⟨this.la, this.lb⟩
  rcases hB with ⟨h, e⟩ | ⟨h, e⟩ | ⟨h, lits', backs', steps', lens', t', hM', hT', e⟩
  · have hbl : (litBytes l).length = l.length := List.length_map _
    rw [e]
    unfold storeL
    rw [List.length_append, List.length_append, List.length_append, length_alignL, head_len, length_low, length_low, length_textBits, hbl]
    omega
  · rw [e, List.length_append, head_len]
    have := symsB_bits (fixP 4) (List.replicate 32 5) l
    have h2 := bodyI_bits _ _ (ints_in15 fix15.1) (ints_in15 fix15.2.1) l hn hok
    have h3 := bodyI_bd _ _ fix15.1 fix15.2.1 l hn hok
    omega
  · obtain ⟨_, _, _, _, x15, y15, hsy, hl7, _, hsl⟩ := hM'.bd hml
    rw [e, List.length_append, List.length_append, head_len]
    have h1 := tabB_le lits'.length backs'.length t' lens' steps' hT'.hi (fun x hx => by have := hl7 x hx; omega) (fun s hs => (hsy s hs).2)
    have := symsB_bits lits' backs' l
    have h2 := bodyI_bits _ _ (ints_in15 x15) (ints_in15 y15) l hn hok
    have h3 := bodyI_bd _ _ x15 y15 l hn hok
    omega
/-- How many bytes the first rows make. -/
def rowsB (l : List Tok) (q : Nat) : Nat := expLen (l.take (8000 * q))
theorem expLen_append (l r : List Tok) : expLen (l ++ r) = expLen l + expLen r := by unfold expLen; rw [List.map_append, List.sum_append]
theorem rowsB_succ (l : List Tok) (q : Nat) : rowsB l (q + 1) = rowsB l q + expLen (rowL l q) := by
  unfold rowsB rowL
  rw [← expLen_append, show 8000 * (q + 1) = 8000 * q + 8000 by omega, List.take_add]
theorem rowsB_le (l : List Tok) (q : Nat) : rowsB l q ≤ expLen l := by
  unfold rowsB
  have h : expLen l = expLen (l.take (8000 * q)) + expLen (l.drop (8000 * q)) := by rw [← expLen_append, List.take_append_drop]
  omega
/-- What a row is written as. -/
def rowT (bs : List Nat) (l : List Tok) (q k : Nat) : List Tok := if k = 0 then plainT ((bs.drop (rowsB l q)).take (expLen (rowL l q))) else rowL l q
/-- The first rows are written: bits L. KK tells which kinds may be. -/
inductive RT (bs : List Nat) (l : List Tok) (KK : List Tok → Nat → Prop) : Nat → List Bool → Prop
  | zero : RT bs l KK 0 []
  | succ {q k : Nat} {L M : List Bool} : RT bs l KK q L → KK (rowL l q) k → k ≤ 2 → IsBlock L (rowT bs l q k) k (decide (q + 1 = rowsN l.length)) M → RT bs l KK (q + 1) M
theorem rowL_ok {l : List Tok} (hok : ∀ t ∈ l, okTok t) (q : Nat) : ∀ t ∈ rowL l q, okTok t := fun t ht => hok t (List.mem_of_mem_drop (List.mem_of_mem_take ht))
theorem plainT_ok {bs : List Nat} (h : ∀ b ∈ bs, b < 256) : ∀ t ∈ plainT bs, okTok t := fun t ht => by
  obtain ⟨b, hb, rfl⟩ := List.mem_map.1 ht
  exact .inl ⟨rfl, rfl, h b hb⟩
theorem farN_plainT : ∀ b : List Nat, farN (plainT b) = 0
  | [] => rfl
  | x :: b => by
    have := farN_plainT b
    show farN (⟨x, 0, 0⟩ :: plainT b) = 0
    simp [farN] at this ⊢
    exact this
theorem rowT_ok {bs : List Nat} {l : List Tok} (hok : ∀ t ∈ l, okTok t) (hb : ∀ b ∈ bs, b < 256) (q k : Nat) : ∀ t ∈ rowT bs l q k, okTok t := by
  unfold rowT
  split
  · exact plainT_ok (fun b h => hb b (List.mem_of_mem_drop (List.mem_of_mem_take h)))
  · exact rowL_ok hok q
theorem rowT_len {bs : List Nat} {l : List Tok} (hbs : bs.length ≤ 65000) (q k : Nat) : (rowT bs l q k).length ≤ 65000 := by
  unfold rowT plainT
  split
  · rw [List.length_map, List.length_take, List.length_drop]; omega
  · rw [rowL_len]; omega
theorem RT.up {bs : List Nat} {l : List Tok} {KK : List Tok → Nat → Prop} (hok : ∀ t ∈ l, okTok t) (hb : ∀ b ∈ bs, b < 256) (hbs : bs.length ≤ 65000) : ∀ {q : Nat} {L : List Bool}, RT bs l KK q L → L.length ≤ 10000000 * q
  | _, _, .zero => by simp
  | _, _, .succ h _ _ hB => by
    have h1 := h.up hok hb hbs
    have h2 := block_up hB (rowT_ok hok hb _ _) (Nat.le_trans (rowT_len hbs _ _) (by omega))
    omega
theorem expTo_append : ∀ (A B : List Tok) (s : List Nat), expTo (A ++ B) s = (expTo A s).bind (expTo B)
  | [], B, s => rfl
  | t :: A, B, s => by
    rw [List.cons_append, expTo_cons, expTo_cons]
    split
    · split
      · rfl
      · exact expTo_append A B _
    · split
      · rfl
      · exact expTo_append A B _
theorem copyN_pre (s : List Nat) (back : Nat) : ∀ k, s <+: copyN s back k
  | 0 => List.prefix_refl _
  | k + 1 => by rw [copyN_succ]; exact (copyN_pre s back k).trans (List.prefix_append _ _)
theorem expTo_pre : ∀ (A : List Tok) (s r : List Nat), expTo A s = some r → s <+: r
  | [], s, r, h => by
    have e : s = r := by simpa [expTo] using h
    rw [e]; exact List.prefix_refl _
  | t :: A, s, r, h => by
    rw [expTo_cons] at h
    split at h
    · split at h
      · cases h
      · exact (List.prefix_append _ _).trans (expTo_pre A _ r h)
    · split at h
      · cases h
      · exact (copyN_pre _ _ _).trans (expTo_pre A _ r h)
theorem exp_plainT : ∀ (b s : List Nat), s.length + b.length ≤ 65000 → expTo (plainT b) s = some (s ++ b)
  | [], s, _ => by rw [List.append_nil]; rfl
  | x :: b, s, h => by
    have e : plainT (x :: b) = ⟨x, 0, 0⟩ :: plainT b := rfl
    rw [List.length_cons] at h
    rw [e, expTo_cons, if_pos rfl, if_neg (by rintro (h | h); exact h rfl; omega), exp_plainT b (s ++ [x]) (by rw [List.length_append, List.length_singleton]; omega), List.append_assoc]
    rfl
theorem exp_take {l : List Tok} {bs : List Nat} (hok : ∀ t ∈ l, okTok t) (he : expTo l [] = some bs) (m : Nat) : expTo (l.take m) [] = some (bs.take (expLen (l.take m))) := by
  have h := he
  rw [← List.take_append_drop m l, expTo_append] at h
  cases hr : expTo (l.take m) [] with
  | none => rw [hr] at h; cases h
  | some r =>
    rw [hr] at h
    have hp := expTo_pre _ _ _ h
    have hl := exp_length (l.take m) [] r (fun t ht => hok t (List.mem_of_mem_take ht)) hr
    rw [List.length_nil, Nat.zero_add] at hl
    rw [← hl, ← List.prefix_iff_eq_take.1 hp]
/-- A row expands to its bytes, whatever it is written as. -/
theorem exp_row {l : List Tok} {bs : List Nat} (hok : ∀ t ∈ l, okTok t) (he : expTo l [] = some bs) (hbs : bs.length ≤ 65000) (q k : Nat) : expTo (rowT bs l q k) (bs.take (rowsB l q)) = some (bs.take (rowsB l (q + 1))) := by
  unfold rowT
  split
  · rw [exp_plainT _ _ (by rw [List.length_take, List.length_take, List.length_drop]; omega), rowsB_succ, List.take_add]
  · have h := exp_take hok he (8000 * (q + 1))
    rw [show 8000 * (q + 1) = 8000 * q + 8000 by omega, List.take_add, expTo_append, exp_take hok he (8000 * q)] at h
    rw [show rowsB l (q + 1) = expLen (l.take (8000 * q) ++ (l.drop (8000 * q)).take 8000) by unfold rowsB; rw [show 8000 * (q + 1) = 8000 * q + 8000 by omega, List.take_add]]
    exact h
end Go.Proofs.YtdehkaknbmbieaaGreat
namespace Go.Proofs.YtdehkaknbmbieaaGreat
set_option linter.unusedVariables false
set_option linter.unusedSimpArgs false
set_option linter.unusedSectionVars false
open Go.RowKit
set_option linter.unusedVariables false
set_option linter.unusedSimpArgs false

theorem exp_snoc_byte {l : List Tok} {bs : List Nat} {i : Nat} (he : expTo l [] = some (bs.take i)) (hi : i < bs.length) (hb : bs.length ≤ 65000) : expTo (l ++ [⟨bs[i], 0, 0⟩]) [] = some (bs.take (i + 1)) := by
  rw [expTo_append, he]
  show expTo [⟨bs[i], 0, 0⟩] (bs.take i) = _
  rw [expTo_cons, if_pos rfl, if_neg (by rw [List.length_take]; rintro (h | h); exact h rfl; omega), List.take_succ_eq_append_getElem hi]
  rfl
theorem SameB.less {S : ByteArray} {i b m m' : Nat} (h : SameB S i b m) (hm : m' ≤ m) : SameB S i b m' := by
  obtain ⟨x1, x2, x3, x4, x5⟩ := h
  exact ⟨x1, x2, by omega, by omega, fun k hk => x5 k (by omega)⟩
theorem copyN_take (S : ByteArray) (i b : Nat) : ∀ m, SameB S i b m → copyN ((bytesOf S).take i) b m = (bytesOf S).take (i + m)
  | 0, _ => rfl
  | m + 1, h => by
    have hl := length_bytesOf S
    obtain ⟨x1, x2, x3, x4, x5⟩ := h
    have e := x5 m (by omega) (by omega) (by omega)
    rw [copyN_succ, copyN_take S i b m (SameB.less ⟨x1, x2, x3, x4, x5⟩ (by omega))]
    have hlt : ((bytesOf S).take (i + m)).length = i + m := by rw [List.length_take]; omega
    have hi : i + m < (bytesOf S).length := by omega
    rw [hlt, ← Nat.add_assoc, List.take_succ_eq_append_getElem hi]
    congr 2
    rw [List.getD_eq_getElem?_getD, List.getElem?_take, if_pos (by omega), List.getElem?_eq_getElem (by omega), Option.getD_some, bytesOf_get S _ (by omega), bytesOf_get S _ (by omega), e]
theorem exp_snoc_copy {l : List Tok} {S : ByteArray} {i b m : Nat} (he : expTo l [] = some ((bytesOf S).take i)) (hS : S.size ≤ 65000) (hb : b ≤ 32768) (hm : 3 ≤ m) (h : SameB S i b m) : expTo (l ++ [⟨0, (m : Int), (b : Int)⟩]) [] = some ((bytesOf S).take (i + m)) := by
  have hl := length_bytesOf S
  have hc := copyN_take S i b m h
  obtain ⟨x1, x2, x3, x4, x5⟩ := h
  have hlt : ((bytesOf S).take i).length = i := by rw [List.length_take]; omega
  rw [expTo_append, he]
  show expTo [⟨0, (m : Int), (b : Int)⟩] ((bytesOf S).take i) = _
  rw [expTo_cons, if_neg (by show ¬ (m : Int) = 0; omega), if_neg (by unfold badCopy; rw [hlt]; dsimp only; omega)]
  show some _ = _
  rw [Int.toNat_natCast, Int.toNat_natCast, hc]
theorem ok_byte {x : Nat} (h : x < 256) : okTok ⟨x, 0, 0⟩ := .inl ⟨rfl, rfl, h⟩
theorem ok_copy {S : ByteArray} {i b m : Nat} (hb : b ≤ 32768) (hm : 3 ≤ m) (h : SameB S i b m) : okTok ⟨0, (m : Int), (b : Int)⟩ := by
  obtain ⟨x1, x2, x3, x4, x5⟩ := h
  exact .inr ⟨rfl, by show (3 : Int) ≤ m; omega, by show (m : Int) ≤ 258; omega, by show (1 : Int) ≤ b; omega, by show (b : Int) ≤ 32768; omega⟩
theorem ok_snoc {l : List Tok} {t : Tok} (h : ∀ t ∈ l, okTok t) (ht : okTok t) : ∀ u ∈ l ++ [t], okTok u := fun u hu => by
  rcases List.mem_append.1 hu with h' | h'
  · exact h u h'
  · simp at h'; subst h'; exact ht
/-- Between two rounds: p places are put, the tokens l make i bytes. -/
structure MatI (S : ByteArray) (w1 : World) (fb mb nb : Nat) (D : Int) (p i : Nat) (v o : Value) (n : Nat) (l : List Tok) (W : World) : Prop where
  fin : FinAt W fb mb S v p D
  row : Row W 49 3 o n (tcs l)
  len : l.length = n
  ok : ∀ t ∈ l, okTok t
  exp : expTo l [] = some ((bytesOf S).take i)
  le : n ≤ i
  vo : ∀ k, v.ownBlock = some k → w1.heap.size ≤ k
  oo : ∀ k, o.ownBlock = some k → w1.heap.size ≤ k
  bl : fb < w1.heap.size ∧ mb < w1.heap.size ∧ nb < w1.heap.size ∧ nb ≠ fb ∧ nb ≠ mb
  up : Upd [fb, mb, nb] w1 W
theorem Row.ne_cells {w : World} {e e' : TypeId} {size n : Nat} {v : Value} {xs cs : List Value} {b : Nat} (h : Row w e size v n xs) (hB : Blk w b cs e') (ht : e ≠ e') : v.ownBlock ≠ some b := fun hk => by
  rcases h.2 with ⟨rfl, _⟩ | ⟨g, cap, cur, rfl, hb, hh, _⟩
  · simp [Value.ownBlock] at hk
  · simp [Value.ownBlock] at hk
    subst hk
    unfold Blk at hB
    rw [hh] at hB
    simp at hB
    exact ht hB.2
theorem Row.ne_cells2 {w : World} {e e' : TypeId} {size size' n n' : Nat} {v v' : Value} {xs xs' : List Value} (h : Row w e size v n xs) (h' : Row w e' size' v' n' xs') (ht : e ≠ e') : ∀ k, v.ownBlock = some k → k ∉ v'.ownBlock.toList := fun k hk hm => by
  have hm' : v'.ownBlock = some k := by simpa using hm
  rcases h.2 with ⟨rfl, _⟩ | ⟨g, cap, cur, rfl, hb, hh, _⟩
  · simp [Value.ownBlock] at hk
  · rcases h'.2 with ⟨rfl, _⟩ | ⟨g2, cap2, cur2, rfl, hb2, hh2, _⟩
    · simp [Value.ownBlock] at hm'
    · simp [Value.ownBlock] at hk hm'
      subst hk hm'
      rw [hh] at hh2
      simp at hh2
      exact ht hh2.2
theorem FinAt.row {W : World} {fb mb : Nat} {S : ByteArray} {v : Value} {p : Nat} {D : Int} (h : FinAt W fb mb S v p D) : ∃ xs : List Int, Row W 3 1 v p (zvs xs) := by
  obtain ⟨xs, _, _, h⟩ := h.1.2.1
  exact ⟨xs, h⟩
section
variable {S : ByteArray} {w1 W W' : World} {fb mb nb : Nat} {D : Int} {p i : Nat} {v o : Value} {n : Nat} {l : List Tok}
theorem MatI.size (h : MatI S w1 fb mb nb D p i v o n l W) : w1.heap.size ≤ W.heap.size := h.up.size
theorem MatI.pure (h : MatI S w1 fb mb nb D p i v o n l W) (hu : Upd [] W W') : MatI S w1 fb mb nb D p i v o n l W' :=
  ⟨h.fin.pure hu, h.row.upd hu (by simp), h.len, h.ok, h.exp, h.le, h.vo, h.oo, h.bl, h.up.trans hu (fun k hk => by simp at hk)⟩
theorem MatI.nxt (h : MatI S w1 fb mb nb D p i v o n l W) (hu : Upd [nb] W W') : MatI S w1 fb mb nb D p i v o n l W' := by
  obtain ⟨b1, b2, b3, b4, b5⟩ := h.bl
  exact ⟨h.fin.upd hu (by simpa using b4.symm) (by simpa using b5.symm) (fun k hk hm => by have := h.vo k hk; simp at hm; omega), h.row.upd hu (fun k hk hm => by have := h.oo k hk; simp at hm; omega), h.len, h.ok, h.exp, h.le, h.vo, h.oo, h.bl, h.up.trans hu (fun k hk => .inl (by simp at hk; simp [hk]))⟩
theorem MatI.tok {tb : Nat} (h : MatI S w1 fb mb nb D p i v o n l W) (hu : Upd [tb] W W') (ht : w1.heap.size ≤ tb) (ho : ∀ k, o.ownBlock = some k → k ≠ tb) (hv : v.ownBlock ≠ some tb) : MatI S w1 fb mb nb D p i v o n l W' := by
  obtain ⟨b1, b2, b3, b4, b5⟩ := h.bl
  exact ⟨h.fin.upd hu (by simp; omega) (by simp; omega) (fun k hk hm => by simp at hm; subst hm; exact hv hk), h.row.upd hu (fun k hk hm => by simp at hm; exact ho k hk hm), h.len, h.ok, h.exp, h.le, h.vo, h.oo, h.bl, h.up.trans hu (fun k hk => .inr (by simp at hk; omega))⟩
theorem MatI.put {e : Ending} (h : MatI S w1 fb mb nb D p i v o n l W) (hP : PutP W fb mb S v p D e W') : e = .returned (.tuple #[]) ∧ ∃ v', MatI S w1 fb mb nb D (p + 1) i v' o n l W' ∧ Upd (fb :: mb :: v.ownBlock.toList) W W' := by
  obtain ⟨he, v', hF, hU, hL⟩ := hP
  obtain ⟨b1, b2, b3, b4, b5⟩ := h.bl
  obtain ⟨xs, hv⟩ := h.fin.row
  refine ⟨he, v', ⟨hF, h.row.upd hU (fun k hk hm => ?_), h.len, h.ok, h.exp, h.le, fun k hk => ?_, h.oo, h.bl, h.up.trans hU (fun k hk => ?_)⟩, hU⟩
  · have := h.oo k hk
    simp only [List.mem_cons] at hm
    rcases hm with hm | hm | hm
    · omega
    · omega
    · exact h.row.ne_cells2 hv (by decide) k hk hm
  · rcases hL with e | ⟨g, e, hg⟩
    · exact h.vo k (by rw [← e]; exact hk)
    · rw [hk] at e; cases e; have := h.size; omega
  · simp only [List.mem_cons] at hk
    rcases hk with rfl | rfl | hk
    · exact .inl (by simp)
    · exact .inl (by simp)
    · exact .inr (h.vo k (by simpa using hk))
/-- A token block that is apart stays through a put. -/
theorem MatI.far (h : MatI S w1 fb mb nb D p i v o n l W) {b : Nat} {cs : List Value} (hB : Blk W b cs 49) (hU : Upd (fb :: mb :: v.ownBlock.toList) W W') (hf : b = nb ∨ w1.heap.size ≤ b) : Blk W' b cs 49 := by
  obtain ⟨b1, b2, b3, b4, b5⟩ := h.bl
  obtain ⟨xs, hv⟩ := h.fin.row
  refine hB.upd hU (fun hm => ?_)
  simp only [List.mem_cons] at hm
  rcases hm with hm | hm | hm
  · rcases hf with rfl | hf
    · exact b4 hm
    · omega
  · rcases hf with rfl | hf
    · exact b5 hm
    · omega
  · exact hv.ne_cells hB (by decide) (by simpa using hm)
/-- A token more. -/
theorem MatI.app {o5 : Value} {w5 wa : World} {t : Tok} {i' : Nat} (h : MatI S w1 fb mb nb D p i v o n l W) (hA : Upd [] W wa) (hR5 : Row w5 49 3 o5 (n + 1) (tcs l ++ t.cs)) (hU5 : Upd o.ownBlock.toList wa w5) (hT5 : Later wa o o5)
    (ht : okTok t) (he : expTo (l ++ [t]) [] = some ((bytesOf S).take i')) (hi : i < i') : MatI S w1 fb mb nb D p i' v o5 (n + 1) (l ++ [t]) w5 := by
  obtain ⟨b1, b2, b3, b4, b5⟩ := h.bl
  have h5 : Upd o.ownBlock.toList W w5 := (hA.mono (fun k hk => by simp at hk)).then hU5
  obtain ⟨xs, hv⟩ := h.fin.row
  refine ⟨h.fin.upd h5 (fun hm => ?_) (fun hm => ?_) (fun k hk hm => ?_), by rw [tcs_append, tcs_single]; exact hR5, by rw [List.length_append, h.len]; rfl, ok_snoc h.ok ht, he, by have := h.le; omega, h.vo, fun k hk => ?_, h.bl, h.up.trans h5 (fun k hk => .inr (h.oo k (by simpa using hk)))⟩
  · have := h.oo fb (by simpa using hm); omega
  · have := h.oo mb (by simpa using hm); omega
  · exact hv.ne_cells2 h.row (by decide) k hk hm
  · rcases hT5 with e | ⟨g, e, hg⟩
    · exact h.oo k (by rw [← e]; exact hk)
    · rw [hk] at e; cases e; have := h.size; have := hA.size; omega
end
end Go.Proofs.YtdehkaknbmbieaaGreat

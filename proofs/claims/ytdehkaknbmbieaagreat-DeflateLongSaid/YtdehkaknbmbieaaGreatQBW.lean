/- What a block's bits are read as (plain): tables, stored bytes, blocks one behind the other. -/
import Derived.Test.YtdehkaknbmbieaaGreatQBV
import Derived.Test.YtdehkaknbmbieaaGreatQBG
import Derived.Test.YtdehkaknbmbieaaGreatQBI
namespace Go.Proofs.YtdehkaknbmbieaaGreat
set_option linter.unusedVariables false
set_option linter.unusedSimpArgs false
set_option linter.unusedSectionVars false
set_option linter.unusedVariables false
set_option linter.unusedSimpArgs false

theorem ordL_is : ordL = orderL := rfl
/-- The bits of m lengths of lengths from number i on. -/
def segB (lens : List Nat) : Nat → Nat → List Bool
  | _, 0 => []
  | i, m + 1 => low 3 (lens.getD (ordL.getD i 0) 0) ++ segB lens (i + 1) m
theorem segB_eq (lens : List Nat) : ∀ (m i : Nat), i + m ≤ 19 → ((ordL.drop i).take m).flatMap (fun j => low 3 (lens.getD j 0)) = segB lens i m
  | 0, i, _ => by simp [segB]
  | m + 1, i, h => by
    have hi : i < ordL.length := by show i < 19; omega
    have e : ordL.getD i 0 = ordL[i] := by rw [List.getD_eq_getElem?_getD, List.getElem?_eq_getElem hi]; rfl
    rw [List.drop_eq_getElem_cons hi, List.take_succ_cons, List.flatMap_cons, segB_eq lens m (i + 1) (by omega), segB, e]
theorem lenBt_seg (lens : List Nat) (t : Nat) (h : t ≤ 19) : lenBt lens t = segB lens 0 t := by
  have := segB_eq lens t 0 (by omega)
  rw [List.drop_zero] at this
  exact this
def fset (lens : List Nat) : List Nat → Nat → Nat → List Nat
  | L, _, 0 => L
  | L, i, m + 1 => fset lens (L.set (orderL.getD i 0) (lens.getD (ordL.getD i 0) 0)) (i + 1) m
theorem first_back (lens : List Nat) (h7 : ∀ j, lens.getD j 0 ≤ 7) (T : List Bool) : ∀ (m i : Nat) (L : List Nat) (a : Nat), StandsAt T a (segB lens i m) → firstP (packS T) m i L a = .ok (fset lens L i m, a + 3 * m)
  | 0, i, L, a, _ => rfl
  | m + 1, i, L, a, h => by
    obtain ⟨h1, h2⟩ := StandsAt.app (M := low 3 (lens.getD (ordL.getD i 0) 0)) (N := segB lens (i + 1) m) h
    have e := take_at h1 (by have := h7 (ordL.getD i 0); omega)
    rw [length_low] at h2
    unfold firstP
    rw [e]
    dsimp only
    rw [first_back lens h7 T m (i + 1) _ (a + 3) h2, fset]
    congr 2
    omega
theorem ord_inj : ∀ p q : Fin 19, ordL.getD p.val 0 = ordL.getD q.val 0 → p = q := by decide +kernel
theorem ord_all : ∀ j : Fin 19, ∃ q : Fin 19, ordL.getD q.val 0 = j.val := by decide +kernel
structure FInv (lens L : List Nat) (i : Nat) : Prop where
  len : L.length = 19
  done : ∀ q, q < i → L.getD (ordL.getD q 0) 0 = lens.getD (ordL.getD q 0) 0
  rest : ∀ q, i ≤ q → q < 19 → L.getD (ordL.getD q 0) 0 = 0
theorem FInv.step {lens L : List Nat} {i : Nat} (h : FInv lens L i) (hi : i < 19) : FInv lens (L.set (orderL.getD i 0) (lens.getD (ordL.getD i 0) 0)) (i + 1) := by
  have hs : orderL.getD i 0 = ordL.getD i 0 := by rw [ordL_is]
  rw [hs]
  have hj : ordL.getD i 0 < L.length := by rw [h.len]; exact (ordL_lt ⟨i, hi⟩).1
  refine ⟨by rw [List.length_set]; exact h.len, fun q hq => ?_, fun q h1 h2 => ?_⟩
  · by_cases e : q = i
    · subst e
      rw [List.getD_eq_getElem?_getD, List.getElem?_set_self hj]
      rfl
    · have hne : ordL.getD i 0 ≠ ordL.getD q 0 := fun e2 => e (by have := ord_inj ⟨i, hi⟩ ⟨q, by omega⟩ e2; cases this; rfl)
      rw [List.getD_eq_getElem?_getD, List.getElem?_set_ne hne, ← List.getD_eq_getElem?_getD]
      exact h.done q (by omega)
  · have hne : ordL.getD i 0 ≠ ordL.getD q 0 := fun e2 => by have := ord_inj ⟨i, hi⟩ ⟨q, h2⟩ e2; cases this; omega
    rw [List.getD_eq_getElem?_getD, List.getElem?_set_ne hne, ← List.getD_eq_getElem?_getD]
    exact h.rest q (by omega) h2
theorem fset_inv (lens : List Nat) : ∀ (m i : Nat) (L : List Nat), i + m ≤ 19 → FInv lens L i → FInv lens (fset lens L i m) (i + m)
  | 0, i, L, _, h => h
  | m + 1, i, L, hm, h => by
    have := fset_inv lens m (i + 1) _ (by omega) (h.step (by omega))
    rw [show i + (m + 1) = i + 1 + m by omega]
    exact this
theorem fset_all {lens : List Nat} {t : Nat} (hl : lens.length = 19) (ht : ToldO lens t) : fset lens (List.replicate 19 0) 0 t = lens := by
  have h0 : FInv lens (List.replicate 19 0) 0 := ⟨List.length_replicate, fun q hq => by omega, fun q _ hq => by rw [List.getD_eq_getElem?_getD, List.getElem?_replicate]; split <;> rfl⟩
  have h := fset_inv lens t 0 _ (by have := ht.hi; omega) h0
  rw [Nat.zero_add] at h
  refine List.ext_getElem? (fun j => ?_)
  rcases Nat.lt_or_ge j 19 with hj | hj
  · obtain ⟨q, hq⟩ := ord_all ⟨j, hj⟩
    dsimp only at hq
    have e : (fset lens (List.replicate 19 0) 0 t).getD j 0 = lens.getD j 0 := by
      rw [← hq]
      rcases Nat.lt_or_ge q.val t with h1 | h1
      · exact h.done q.val h1
      · rw [h.rest q.val h1 q.isLt, ht.zero q.val h1 q.isLt]
    rw [List.getD_eq_getElem?_getD, List.getD_eq_getElem?_getD, List.getElem?_eq_getElem (by rw [h.len]; exact hj), List.getElem?_eq_getElem (by omega)] at e
    rw [List.getElem?_eq_getElem (by rw [h.len]; exact hj), List.getElem?_eq_getElem (by omega)]
    exact congrArg some e
  · rw [List.getElem?_eq_none (by rw [h.len]; exact hj), List.getElem?_eq_none (by omega)]
theorem timesN_pos (s : StpD) : 1 ≤ timesN s := by unfold timesN; split; omega; split; omega; split <;> omega
theorem dec1_len (out : List Nat) (s : StpD) : (dec1 out s).length = out.length + timesN s := by unfold dec1; rw [List.length_append, List.length_replicate]
theorem dec_grow : ∀ (l : List StpD) (out : List Nat), out.length ≤ (l.foldl dec1 out).length
  | [], out => Nat.le_refl _
  | s :: l, out => by
    have := dec_grow l (dec1 out s)
    rw [dec1_len] at this
    rw [List.foldl_cons]
    omega
theorem one_back {T : List Bool} {a : Nat} {out : List Nat} {s : StpD} (h : OkS out s) (hs : StandsAt T a (low s.bits s.more)) : oneP (packS T) s.sym out a = .ok ((timesN s, valN out s), a + s.bits) := by
  obtain ⟨h18, hb, hm, hne, hr⟩ := h
  have e := take_at hs (by rw [hb]; exact hm)
  unfold oneP
  by_cases h15 : 15 < s.sym
  · rw [if_pos h15]
    unfold againP timesN valN
    by_cases h16 : s.sym = 16
    · have hb2 : s.bits = 2 := by rw [hb, h16]; rfl
      rw [hb2] at e ⊢
      rw [if_pos h16, if_neg (hne h16), e, if_pos h16, if_pos h16]
      show Except.ok ((3 + s.more, out.getLastD 0), a + 2) = _
      have hl : out.getLastD 0 = out.getD (out.length - 1) 0 := by
        have hn := hne h16
        rw [List.getLastD_eq_getLast?, List.getLast?_eq_getElem?, List.getD_eq_getElem?_getD]
      rw [hl]
    · by_cases h17 : s.sym = 17
      · have hb2 : s.bits = 3 := by rw [hb, h17]; rfl
        rw [hb2] at e ⊢
        rw [if_neg h16, if_pos h17, e, if_neg h16, if_pos h17, if_neg h16, if_pos h17]
        rfl
      · have h18e : s.sym = 18 := by omega
        have hb2 : s.bits = 7 := by rw [hb, h18e]; rfl
        rw [hb2] at e ⊢
        rw [if_neg h16, if_neg h17, e, if_neg h16, if_neg h17, if_pos h18e, if_neg h16, if_neg h17, if_pos h18e]
        rfl
  · have hb2 : s.bits = 0 := by rw [hb]; unfold bitsN; rw [if_pos (by omega)]
    rw [if_neg h15, hb2]
    unfold timesN valN
    rw [if_neg (by omega), if_neg (by omega), if_neg (by omega), if_neg (by omega), if_neg (by omega), if_neg (by omega)]
    rfl
theorem row_back (lens : List Nat) (hc : CodeOk lens) (T : List Bool) (many : Nat) : ∀ (l : List StpD) (f : Nat) (out : List Nat) (a : Nat), okAll out l → (l.foldl dec1 out).length = many → l.length ≤ f → (∀ s ∈ l, lens.getD s.sym 0 ≠ 0) →
    StandsAt T a (stpsB lens l) → rowP (ints lens) (packS T) many f out a = .ok (l.foldl dec1 out, a + (stpsB lens l).length)
  | [], f, out, a, _, hm, _, _, _ => by
    rw [rowP_end (by rw [← hm]; exact Nat.lt_irrefl _)]
    rfl
  | s :: l, 0, out, a, _, _, hf, _, _ => by simp at hf
  | s :: l, f + 1, out, a, hk, hm, hf, hs, hT => by
    have hsp : stpsB lens (s :: l) = stpB lens s ++ stpsB lens l := rfl
    rw [hsp] at hT ⊢
    obtain ⟨h1, h2⟩ := hT.app
    unfold stpB at h1
    obtain ⟨h3, h4⟩ := h1.app
    have e1 := next_at hc (hs s List.mem_cons_self) h3
    have e2 := one_back hk.1 h4
    have hg := dec_grow l (dec1 out s)
    rw [List.foldl_cons] at hm
    have htp := timesN_pos s
    rw [dec1_len] at hg
    have hsl : (stpB lens s).length = (symBits lens s.sym).length + s.bits := by unfold stpB; rw [List.length_append, length_low]
    have ih := row_back lens hc T many l f (dec1 out s) (a + (symBits lens s.sym).length + s.bits) hk.2 hm (by simpa using hf) (fun u hu => hs u (List.mem_cons_of_mem _ hu)) (by rw [Nat.add_assoc, ← hsl]; exact h2)
    unfold rowP
    rw [if_pos (by omega), e1]
    dsimp only
    rw [e2]
    dsimp only
    rw [if_pos (by omega)]
    show rowP (ints lens) (packS T) many f (dec1 out s) _ = _
    rw [ih, List.foldl_cons, List.length_append, hsl]
    congr 2
    omega
/-- Tables are read as they were laid. -/
theorem tables_back {l : List Tok} {lits backs lens : List Nat} {steps : List StpD} {t : Nat} (hM : MadeO l lits backs steps lens) (ht : ToldO lens t) (hl : (manyF l).1.length = 286 ∧ (manyF l).2.length = 30) (hok : ∀ t ∈ l, okTok t)
    {T : List Bool} {a : Nat} (h : StandsAt T a (tabB lits.length backs.length t lens steps)) : tablesP (packS T) a = .ok ((lits, backs), a + (tabB lits.length backs.length t lens steps).length) := by
  obtain ⟨m1, m1', m2, m2', x15, y15, hsy, hl7, hl19, hsl⟩ := hM.bd hl
  have hlaw := hM.law hl hok
  have hpl := hM.plan hl hok
  have hlo := ht.lo
  have hhi := ht.hi
  unfold tabB headB at h
  obtain ⟨h1, hst⟩ := h.app
  obtain ⟨h2, hln⟩ := h1.app
  obtain ⟨h3, h4⟩ := h2.app
  obtain ⟨h5, h6⟩ := h3.app
  simp only [List.length_append, length_low] at h4 h6 hln hst
  have e1 := take_at h5 (by omega)
  have e2 := take_at h6 (by omega)
  have e3 := take_at h4 (by omega)
  have hll := lenBt_len lens t hhi
  rw [lenBt_seg lens t hhi] at hln
  have e4 := first_back lens (fun j => getD_le hl7 j) T t 0 (List.replicate 19 0) _ hln
  rw [fset_all hl19 ht] at e4
  have hcl : CodeOk lens := ⟨by rw [hlaw.okC]; omega, by rw [hlaw.okC]; omega⟩
  have hdl : (steps.foldl dec1 []).length = lits.length + backs.length := by
    have := hlaw.dec.2
    unfold decS at this
    rw [this, List.length_append]
  have hd : steps.foldl dec1 [] = lits ++ backs := hlaw.dec.2
  have e5 := row_back lens hcl T (lits.length + backs.length) steps (lits.length + backs.length) [] _ hlaw.dec.1 hdl (by rw [hM.s]; exact ofS_le _ _ _) (fun s hs => by have := (hlaw.sy s hs).2.1; omega) hst
  rw [hd] at e5
  rw [hll] at e5
  unfold tablesP
  rw [take_bind e1]
  dsimp only
  rw [show a + 5 = a + (5 : Nat) from rfl, take_bind e2]
  dsimp only
  rw [show a + 5 + 5 = a + (5 + 5) by omega, take_bind e3]
  dsimp only
  unfold tabFirst
  rw [show 257 + (lits.length - 257) = lits.length by omega, show 1 + (backs.length - 1) = backs.length by omega, show 4 + (t - 4) = t by omega, if_pos ⟨by omega, by omega⟩]
  rw [show a + (5 + 5) + 4 = a + (5 + 5 + 4) by omega, e4]
  show tabRow (packS T) lits.length backs.length (lens, a + (5 + 5 + 4) + 3 * t) = _
  unfold tabRow
  dsimp only
  rw [if_pos hlaw.okC, show a + (5 + 5 + 4) + 3 * t = a + (5 + 5 + 4 + 3 * t) by omega, e5]
  show tabEnd lits.length (lits ++ backs, _) = _
  unfold tabEnd
  dsimp only
  have h256 : (lits ++ backs).getD 256 0 = lits.getD 256 0 := by
    rw [List.getD_eq_getElem?_getD, List.getElem?_append_left (by omega), List.getD_eq_getElem?_getD]
  rw [List.take_left, List.drop_left, h256, if_pos ⟨by have := hpl.coded.fin; omega, hlaw.okA⟩, if_pos hlaw.okB]
  have e : (tabB lits.length backs.length t lens steps).length = 5 + 5 + 4 + 3 * t + (stpsB lens steps).length := by
    unfold tabB headB
    simp only [List.length_append, length_low]
    omega
  rw [e]
  congr 2
  omega
end Go.Proofs.YtdehkaknbmbieaaGreat
namespace Go.Proofs.YtdehkaknbmbieaaGreat
set_option linter.unusedVariables false
set_option linter.unusedSimpArgs false
set_option linter.unusedSectionVars false
set_option linter.unusedVariables false
set_option linter.unusedSimpArgs false

theorem StandsAt.pre {A M T : List Bool} (h : A ++ M <+: T) : StandsAt T A.length M := by
  obtain ⟨B, rfl⟩ := h
  exact StandsAt.mk' A M B
theorem exp_lits : ∀ (l : List Tok) (out r : List Nat), farN l = 0 → expTo l out = some r → r = out ++ litBytes l
  | [], out, r, _, h => by
    have : out = r := by simpa [expTo] using h
    rw [← this]
    simp [litBytes]
  | t :: l, out, r, hf, h => by
    have h0 : t.long = 0 := by
      unfold farN at hf
      rw [List.countP_cons] at hf
      by_cases e : t.long = 0
      · exact e
      · simp [e] at hf
    have hf2 : farN l = 0 := by
      unfold farN at *
      rw [List.countP_cons] at hf
      omega
    rw [expTo_cons, if_pos h0] at h
    split at h
    · cases h
    · rw [exp_lits l _ r hf2 h]
      unfold litBytes
      rw [List.map_cons, List.append_assoc]
      rfl
theorem exp_app : ∀ (l m : List Tok) (out : List Nat), expTo (l ++ m) out = (expTo l out).bind (expTo m)
  | [], m, out => rfl
  | t :: l, m, out => by
    rw [List.cons_append, expTo_cons, expTo_cons]
    split
    · split
      · rfl
      · exact exp_app l m _
    · split
      · rfl
      · exact exp_app l m _
theorem stored_back {H T : List Bool} {bs out : List Nat} {most : Nat} (hb : ∀ x ∈ bs, x < 256) (hn : bs.length ≤ 65535) (hm : out.length + bs.length ≤ most) (hT : storeL H bs <+: T) :
    storeP (packS T) most out H.length = .ok (out ++ bs, (storeL H bs).length) := by
  have hal : alTo H.length false = (alignL H).length := by rw [length_alignL]; rfl
  have p1 : alignL H ++ low 16 bs.length <+: T := List.IsPrefix.trans ⟨low 16 (65535 - bs.length) ++ textBits bs, by unfold storeL; simp only [List.append_assoc]⟩ hT
  have p2 : (alignL H ++ low 16 bs.length) ++ low 16 (65535 - bs.length) <+: T := List.IsPrefix.trans ⟨textBits bs, by unfold storeL; rfl⟩ hT
  have e1 := take_at (StandsAt.pre p1) (by omega)
  have e2 := take_at (StandsAt.pre p2) (by omega)
  obtain ⟨X, hX⟩ : ∃ X, alignL H ++ low 16 bs.length ++ low 16 (65535 - bs.length) = X := ⟨_, rfl⟩
  have hX8 : X.length % 8 = 0 := by rw [← hX, List.length_append, List.length_append, length_low, length_low, length_alignL]; omega
  have hXl : X.length = (alignL H).length + 16 + 16 := by rw [← hX, List.length_append, List.length_append, length_low, length_low]
  have hst : storeL H bs = X ++ textBits bs := by unfold storeL; rw [hX]
  have hsz : (strOf bs).size = bs.length := size_strOf bs
  have p3 : alignL X ++ textBits (bytesOf (strOf bs)) <+: T := by rw [alignL_of X hX8, bytesOf_strOf bs hb, ← hst]; exact hT
  obtain ⟨r1, r2, r3⟩ := read_text p3
  rw [hsz] at r1 r2 r3
  unfold storeP
  rw [hal, take_bind e1]
  dsimp only
  rw [List.length_append, length_low] at e2
  rw [take_bind e2]
  unfold storeEnd
  dsimp only
  rw [show (alignL H).length + 16 + 16 = X.length from hXl.symm]
  rw [if_pos rfl]
  show (if txBad (strOf (pack T)) X.length false (bs.length : Int) = true then _ else _) = _
  rw [r1, if_neg (by simp), if_pos hm]
  show Except.ok (out ++ bytesOf (txStr (strOf (pack T)) X.length false (bs.length : Int)), txTo (strOf (pack T)) X.length false (bs.length : Int)) = _
  rw [r2, r3, bytesOf_strOf bs hb, alignL_of X hX8, ← hst]
theorem symsB_len {na nb : List Nat} : ∀ (l : List Tok), Coded na nb l → l.length < (symsB na nb l).length
  | [], h => by
    show 0 < (symBits na 256).length
    rw [length_symBits]
    have := h.fin
    omega
  | t :: l, h => by
    have ih := symsB_len l ⟨h.fin, fun u hu => h.lit u (List.mem_cons_of_mem _ hu), fun u hu => h.bak u (List.mem_cons_of_mem _ hu)⟩
    have h1 := h.lit t List.mem_cons_self
    show l.length + 1 < (tokB na nb t ++ symsB na nb l).length
    have h2 : 1 ≤ (tokB na nb t).length := by
      unfold tokB
      split
      · rename_i h0
        rw [length_symBits]
        unfold litC at h1
        rw [if_pos h0] at h1
        omega
      · rw [List.length_append, length_symBits]
        omega
    rw [List.length_append]
    omega
theorem head_back {L T : List Bool} {k : Nat} {last : Bool} (hk : k ≤ 2) (hT : headK L k last <+: T) :
    takeP (packS T) L.length 1 = .ok ((if last then 1 else 0), L.length + 1) ∧ takeP (packS T) (L.length + 1) 2 = .ok (k, L.length + 1 + 2) ∧ (headK L k last).length = L.length + 1 + 2 := by
  have p1 : L ++ low 1 (if last then 1 else 0) <+: T := List.IsPrefix.trans ⟨low 2 k, rfl⟩ hT
  have e1 := take_at (StandsAt.pre p1) (by split <;> omega)
  have e2 := take_at (StandsAt.pre (A := L ++ low 1 (if last then 1 else 0)) hT) (by omega)
  rw [List.length_append, length_low] at e2
  refine ⟨e1, e2, ?_⟩
  unfold headK
  rw [List.length_append, List.length_append, length_low, length_low]
theorem bind_eq {α β : Type} {x : Except Nat α} {v : α} (h : x = .ok v) (f : α → Except Nat β) : (x >>= f) = f v := by rw [h]; rfl
/-- A block that was written is read as its tokens' bytes. -/
theorem block_back {L M T : List Bool} {l : List Tok} {k most F : Nat} {last : Bool} {out r : List Nat} (hB : IsBlock L l k last M) (hk0 : k = 0 → farN l = 0 ∧ l.length ≤ 65535) (hok : ∀ t ∈ l, okTok t)
    (he : expTo l out = some r) (hm : r.length ≤ most) (hF : k ≠ 0 → l.length < F) (hT : M <+: T) : blockP (packS T) most F out L.length = .ok ((last, r), M.length) := by
  have hml : (manyF l).1.length = 286 ∧ (manyF l).2.length = 30 := by have := many_ok l l.length (Nat.le_refl _); rw [List.take_length] at this; exact ⟨this.la, this.lb⟩
  have hk2 : k ≤ 2 := by rcases hB with h | h | h <;> omega
  have hpre : headK L k last <+: M := by
    rcases hB with ⟨h, e⟩ | ⟨h, e⟩ | ⟨h, lits, backs, steps, lens, t, _, _, e⟩
    · rw [e, h]
      exact ⟨List.replicate ((8 - (headK L 0 last).length % 8) % 8) false ++ (low 16 (litBytes l).length ++ (low 16 (65535 - (litBytes l).length) ++ textBits (litBytes l))), by unfold storeL alignL; simp only [List.append_assoc]⟩
    · rw [e, h]; exact ⟨_, rfl⟩
    · rw [e, h]; exact ⟨tabB lits.length backs.length t lens steps ++ symsB lits backs l, by simp only [List.append_assoc]⟩
  obtain ⟨t1, t2, t3⟩ := head_back hk2 (hpre.trans hT)
  have hkind : kindP (packS T) most F out (k, L.length + 1 + 2) = .ok (r, M.length) := by
    rw [← t3]
    unfold kindP
    dsimp only
    rcases hB with ⟨h, e⟩ | ⟨h, e⟩ | ⟨h, lits, backs, steps, lens, t, hMd, hTo, e⟩
    · subst h
      obtain ⟨f0, f1⟩ := hk0 rfl
      have hr := exp_lits l out r f0 he
      rw [if_pos rfl, e, hr]
      have hbl : (litBytes l).length = l.length := List.length_map _
      have hb : ∀ x ∈ litBytes l, x < 256 := fun x hx => by
        obtain ⟨t, ht, rfl⟩ := List.mem_map.1 hx
        have := hok t ht
        unfold okTok at this
        omega
      rw [hr, List.length_append] at hm
      exact stored_back hb (by omega) hm (by rw [← e]; exact hT)
    · subst h
      have hp := fix_plan l hok
      rw [if_neg (by omega), if_pos rfl]
      have hs : StandsAt T (headK L 1 last).length (symsB (fixP 4) (List.replicate 32 5) l) := StandsAt.pre (by rw [← e]; exact hT)
      have := syms_back (fixP 4) (List.replicate 32 5) ⟨hp.a3, hp.a0⟩ most T l out r _ F hok hp.coded (fun h => ⟨hp.b3, hp.b0 h⟩) he hm (hF (by omega)) hs
      show symsP fixA fixB (packS T) most F out (headK L 1 last).length = _
      unfold fixA fixB
      rw [this, e, List.length_append]
    · subst h
      have hp := hMd.plan hml hok
      rw [if_neg (by omega), if_neg (by omega), if_pos rfl]
      have hs1 : StandsAt T (headK L 2 last).length (tabB lits.length backs.length t lens steps) := StandsAt.pre (List.IsPrefix.trans ⟨symsB lits backs l, by rw [e]⟩ hT)
      have hs2 : StandsAt T (headK L 2 last ++ tabB lits.length backs.length t lens steps).length (symsB lits backs l) := StandsAt.pre (by rw [← e]; exact hT)
      rw [List.length_append] at hs2
      have h1 := tables_back hMd hTo hml hok hs1
      have h2 := syms_back lits backs ⟨hp.a3, hp.a0⟩ most T l out r _ F hok hp.coded (fun h => ⟨hp.b3, hp.b0 h⟩) he hm (hF (by omega)) hs2
      rw [bind_eq h1]
      show symsP (ints lits) (ints backs) (packS T) most F out ((headK L 2 last).length + (tabB lits.length backs.length t lens steps).length) = _
      rw [h2, e, List.length_append, List.length_append]
  unfold blockP
  rw [bind_eq t1]
  dsimp only
  rw [bind_eq t2, bind_eq hkind]
  unfold lastP
  dsimp only
  cases last <;> rfl
/-- Bits that a block adds, at least as many as its tokens, but for a stored one. -/
theorem block_len {L M : List Bool} {l : List Tok} {k : Nat} {last : Bool} (hB : IsBlock L l k last M) (hok : ∀ t ∈ l, okTok t) : L.length + 3 ≤ M.length ∧ (k ≠ 0 → L.length + 3 + l.length < M.length) := by
  have hml : (manyF l).1.length = 286 ∧ (manyF l).2.length = 30 := by have := many_ok l l.length (Nat.le_refl _); rw [List.take_length] at this; exact ⟨this.la, this.lb⟩
  have hh : ∀ j, (headK L j last).length = L.length + 3 := fun j => by unfold headK; rw [List.length_append, List.length_append, length_low, length_low]
  rcases hB with ⟨h, e⟩ | ⟨h, e⟩ | ⟨h, lits, backs, steps, lens, t, hMd, hTo, e⟩
  · refine ⟨?_, fun h2 => absurd h h2⟩
    rw [e]
    unfold storeL
    rw [List.length_append, List.length_append, List.length_append, length_alignL, hh]
    omega
  · have hp := fix_plan l hok
    have := symsB_len l hp.coded
    rw [e, List.length_append, hh]
    exact ⟨by omega, fun _ => by omega⟩
  · have hp := hMd.plan hml hok
    have := symsB_len l hp.coded
    rw [e, List.length_append, List.length_append, hh]
    exact ⟨by omega, fun _ => by omega⟩
/-- Blocks one behind the other, of which the last alone is marked. -/
def Blocks : List Bool → List (List Tok × Nat) → List Bool → Prop
  | _, [], _ => False
  | L, [b], M => IsBlock L b.1 b.2 true M
  | L, b :: c :: r, M => ∃ N, IsBlock L b.1 b.2 false N ∧ Blocks N (c :: r) M
theorem blocks_pre : ∀ (bs : List (List Tok × Nat)) (L M : List Bool), Blocks L bs M → (∀ b ∈ bs, ∀ t ∈ b.1, okTok t) → L.length < M.length
  | [b], L, M, h, hok => by have := (block_len h (hok b List.mem_cons_self)).1; omega
  | b :: c :: r, L, M, ⟨N, h1, h2⟩, hok => by
    have := (block_len h1 (hok b List.mem_cons_self)).1
    have := blocks_pre (c :: r) N M h2 (fun x hx => hok x (List.mem_cons_of_mem _ hx))
    omega
theorem isBlock_pre {L M : List Bool} {l : List Tok} {k : Nat} {last : Bool} (hB : IsBlock L l k last M) : L <+: M := by
  have hh : ∀ j, L <+: headK L j last := fun j => ⟨low 1 (if last then 1 else 0) ++ low 2 j, by unfold headK; simp only [List.append_assoc]⟩
  rcases hB with ⟨h, e⟩ | ⟨h, e⟩ | ⟨h, lits, backs, steps, lens, t, _, _, e⟩
  · rw [e]
    exact (hh 0).trans ⟨List.replicate ((8 - (headK L 0 last).length % 8) % 8) false ++ (low 16 (litBytes l).length ++ (low 16 (65535 - (litBytes l).length) ++ textBits (litBytes l))), by unfold storeL alignL; simp only [List.append_assoc]⟩
  · rw [e]; exact (hh 1).trans ⟨_, rfl⟩
  · rw [e]; exact (hh 2).trans ⟨tabB lits.length backs.length t lens steps ++ symsB lits backs l, by simp only [List.append_assoc]⟩
theorem blocks_pre2 : ∀ (bs : List (List Tok × Nat)) (L M : List Bool), Blocks L bs M → L <+: M
  | [b], L, M, h => isBlock_pre h
  | b :: c :: r, L, M, ⟨N, h1, h2⟩ => (isBlock_pre h1).trans (blocks_pre2 (c :: r) N M h2)
theorem loop_back (most F : Nat) (T : List Bool) : ∀ (bs : List (List Tok × Nat)) (L M : List Bool) (out r : List Nat) (g : Nat), Blocks L bs M → (∀ b ∈ bs, (∀ t ∈ b.1, okTok t) ∧ (b.2 = 0 → farN b.1 = 0 ∧ b.1.length ≤ 65535)) →
    expTo (bs.flatMap Prod.fst) out = some r → r.length ≤ most → M.length ≤ F → M <+: T → bs.length ≤ g → ofLoop (packS T) most F g out L.length = .ok (r, M.length)
  | [b], L, M, out, r, g + 1, hB, hok, he, hm, hF, hT, hg => by
    have hb := hok b List.mem_cons_self
    have hl := block_len hB hb.1
    have he2 : expTo b.1 out = some r := by simpa using he
    have h := block_back (F := F) hB hb.2 hb.1 he2 hm (fun h => by have := hl.2 h; omega) hT
    unfold ofLoop
    rw [bind_eq h]
    rfl
  | b :: c :: rs, L, M, out, r, g + 1, ⟨N, h1, h2⟩, hok, he, hm, hF, hT, hg => by
    have hb := hok b List.mem_cons_self
    have hl := block_len h1 hb.1
    have hNM := blocks_pre (c :: rs) N M h2 (fun x hx => (hok x (List.mem_cons_of_mem _ hx)).1)
    rw [List.flatMap_cons, exp_app] at he
    obtain ⟨m, hm1, hm2⟩ := Option.bind_eq_some_iff.1 he
    have hle := expTo_len _ _ _ hm2
    have h := block_back (F := F) (most := most) h1 hb.2 hb.1 hm1 (by omega) (fun h => by have := hl.2 h; omega) ((blocks_pre2 (c :: rs) N M h2).trans hT)
    have ih := loop_back most F T (c :: rs) N M m r g h2 (fun x hx => hok x (List.mem_cons_of_mem _ hx)) hm2 hm hF hT (by simpa using hg)
    unfold ofLoop
    rw [bind_eq h]
    show ofLoop (packS T) most F g m N.length = _
    exact ih
theorem blocks_num : ∀ (bs : List (List Tok × Nat)) (L M : List Bool), Blocks L bs M → (∀ b ∈ bs, ∀ t ∈ b.1, okTok t) → bs.length + L.length ≤ M.length
  | [b], L, M, h, hok => by have := (block_len h (hok b List.mem_cons_self)).1; simp; omega
  | b :: c :: r, L, M, ⟨N, h1, h2⟩, hok => by
    have h3 := (block_len h1 (hok b List.mem_cons_self)).1
    have h4 := blocks_num (c :: r) N M h2 (fun x hx => hok x (List.mem_cons_of_mem _ hx))
    simp only [List.length_cons] at h4 ⊢
    omega
/-- **What is written is read.** -/
theorem of_back (most : Int) (bs : List (List Tok × Nat)) (M : List Bool) (r : List Nat) (hB : Blocks [] bs M) (hok : ∀ b ∈ bs, (∀ t ∈ b.1, okTok t) ∧ (b.2 = 0 → farN b.1 = 0 ∧ b.1.length ≤ 65535))
    (he : expTo (bs.flatMap Prod.fst) [] = some r) (hm : r.length ≤ capI most) : ofP (packS M) most = .ok (r, M.length) := by
  have hn := blocks_num bs [] M hB (fun b hb => (hok b hb).1)
  have hs : M.length ≤ 8 * (packS M).size := by unfold packS; rw [size_pack]; omega
  unfold ofP
  exact loop_back _ _ M bs [] M [] r _ hB hok he hm (by omega) (List.prefix_refl _) (by simp at hn; omega)
end Go.Proofs.YtdehkaknbmbieaaGreat
namespace Go.Proofs.YtdehkaknbmbieaaGreat
set_option linter.unusedVariables false
set_option linter.unusedSimpArgs false
set_option linter.unusedSectionVars false
open Go.RowKit
set_option linter.unusedVariables false
set_option linter.unusedSimpArgs false

theorem RT.blocks {bs : List Nat} {l : List Tok} {KK : List Tok → Nat → Prop} (hok : ∀ t ∈ l, okTok t) (hb : ∀ b ∈ bs, b < 256) (hbs : bs.length ≤ 65000) (he : expTo l [] = some bs) {q : Nat} {L : List Bool} (h : RT bs l KK q L) :
    ∃ p : List (List Tok × Nat), (∀ b ∈ p, (∀ t ∈ b.1, okTok t) ∧ (b.2 = 0 → farN b.1 = 0 ∧ b.1.length ≤ 65535)) ∧ expTo (p.flatMap Prod.fst) [] = some (bs.take (rowsB l q)) ∧
      (q < rowsN l.length → ∀ r M, Blocks L r M → Blocks [] (p ++ r) M) ∧ (q = rowsN l.length → 0 < q → Blocks [] p L) := by
  induction h with
  | zero => exact ⟨[], by simp, by simp [rowsB, expLen, expTo], fun _ r M hr => hr, fun _ h => by omega⟩
  | @succ q k L M h hK hk hB ih =>
    obtain ⟨p, h1, h2, h3, h4⟩ := ih
    refine ⟨p ++ [(rowT bs l q k, k)], ?_, ?_, ?_, ?_⟩
    · intro b hbm
      rcases List.mem_append.1 hbm with hbm | hbm
      · exact h1 b hbm
      · rw [List.mem_singleton] at hbm
        subst hbm
        refine ⟨rowT_ok hok hb q k, fun h0 => ⟨?_, Nat.le_trans (rowT_len hbs q k) (by omega)⟩⟩
        have h0' : k = 0 := h0
        show farN (rowT bs l q k) = 0
        unfold rowT
        rw [if_pos h0']
        exact farN_plainT _
    · rw [List.flatMap_append, expTo_append, h2]
      have e : [(rowT bs l q k, k)].flatMap Prod.fst = rowT bs l q k := by simp
      rw [e]
      exact exp_row hok he hbs q k
    · intro hq r M' hr
      rw [List.append_assoc]
      refine h3 (by omega) _ _ ?_
      rw [decide_eq_false (by omega)] at hB
      cases r with
      | nil => exact hr.elim
      | cons c r => exact ⟨M, hB, hr⟩
    · intro hq _
      rw [decide_eq_true hq] at hB
      exact h3 (by omega) [(rowT bs l q k, k)] M hB
theorem rowsN_pos (n : Nat) : 0 < rowsN n := by unfold rowsN; split <;> omega
theorem rowsB_all (l : List Tok) : rowsB l (rowsN l.length) = expLen l := by
  unfold rowsB
  rw [List.take_of_length_le]
  unfold rowsN
  split <;> omega
/-- What is laid is read. -/
theorem laid_back {bs : List Nat} {l : List Tok} {KK : List Tok → Nat → Prop} (hok : ∀ t ∈ l, okTok t) (hb : ∀ b ∈ bs, b < 256) (hbs : bs.length ≤ 65000) (he : expTo l [] = some bs) {M : List Bool} (h : RT bs l KK (rowsN l.length) M) (most : Int) (hm : bs.length ≤ capI most) : ofP (packS M) most = .ok (bs, M.length) := by
  obtain ⟨p, h1, h2, _, h4⟩ := h.blocks hok hb hbs he
  have hl := exp_length l [] bs hok he
  rw [List.length_nil, Nat.zero_add] at hl
  rw [rowsB_all, ← hl, List.take_length] at h2
  exact of_back most p M bs (h4 rfl (rowsN_pos _)) h1 h2 hm
end Go.Proofs.YtdehkaknbmbieaaGreat

/- BlockWrites: plain: how many bits a block has. -/
import Derived.Test.YtdehkaknbmbieaaGreatQBM
import Derived.Test.YtdehkaknbmbieaaGreatSiz
namespace Go.Proofs.YtdehkaknbmbieaaGreat
set_option linter.unusedVariables false
set_option linter.unusedSimpArgs false
set_option linter.unusedSectionVars false
set_option linter.unusedVariables false
set_option linter.unusedSimpArgs false

theorem tokB_bits (na nb : List Nat) (t : Tok) : (((tokB na nb t).length : Nat) : Int) = tokBits (ints na) (ints nb) t := by
  unfold tokB tokBits
  by_cases h0 : t.long = 0
  · rw [if_pos h0, if_pos h0, length_symBits, ints_getD]
  · rw [if_neg h0, if_neg h0]
    simp only [List.length_append, length_symBits, length_low]
    rw [ints_getD, ints_getD]
    have h1 : litC t = 257 + (findL t.long.toNat 29 0).getD 0 := by unfold litC; rw [if_neg h0]
    have h2 : bakC t = (findD t.back.toNat 30 0).getD 0 := rfl
    rw [h1, h2]
    omega
theorem foldl_tok (na nb : List Nat) : ∀ (l : List Tok) (x : Int), l.foldl (fun n t => n + tokBits (ints na) (ints nb) t) x = x + ((toksB na nb l).length : Nat)
  | [], x => by simp [toksB]
  | t :: l, x => by
    have e : toksB na nb (t :: l) = tokB na nb t ++ toksB na nb l := by unfold toksB; rw [List.flatMap_cons]
    rw [List.foldl_cons, foldl_tok na nb l, e, List.length_append, ← tokB_bits]
    omega
theorem symsB_bits (na nb : List Nat) (l : List Tok) : (((symsB na nb l).length : Nat) : Int) = bitsOf (ints na) (ints nb) l := by
  rw [symsB_toks, List.length_append, length_symBits]
  unfold bitsOf
  rw [foldl_tok, ints_getD]
  omega
theorem stpsB_sz (lens : List Nat) : ∀ l, (stpsB lens l).length = szT lens l
  | [] => rfl
  | s :: l => by
    have e : stpsB lens (s :: l) = stpB lens s ++ stpsB lens l := by unfold stpsB; rw [List.flatMap_cons]
    have e2 : szT lens (s :: l) = (lens.getD s.sym 0 + s.bits) + szT lens l := by unfold szT; rw [List.map_cons, List.sum_cons]
    rw [e, e2, List.length_append, stpsB_sz lens l]
    unfold stpB
    rw [List.length_append, length_symBits, length_low]
theorem tabB_sz (m1 m2 t : Nat) (lens : List Nat) (steps : List StpD) (ht : t ≤ 19) : (tabB m1 m2 t lens steps).length = 14 + 3 * t + szT lens steps := by
  unfold tabB headB
  simp only [List.length_append, length_low]
  rw [lenBt_len lens t ht, stpsB_sz]
theorem TrimO.uniq {l : List Nat} {least : Int} {n m k : Nat} (h : TrimO l least n m) (g : TrimO l least n k) : m = k := by
  have key : ∀ {m k : Nat}, TrimO l least n m → TrimO l least n k → ¬ m < k := fun {m k} h g hlt => by
    rcases g.last with h1 | h1 | h1
    · omega
    · rcases h.few with h2 | h2
      · have := g.le; omega
      · omega
    · exact h1 (h.zero (k - 1) (by omega) (by have := g.le; omega))
  have := key h g
  have := key g h
  omega
theorem MadeO.uniq {l : List Tok} {a b c d : List Nat} {s r : List StpD} {e f : List Nat} (h : MadeO l a b s e) (g : MadeO l c d r f) : a = c ∧ b = d ∧ s = r ∧ e = f := by
  obtain ⟨u1, m1, h1, h2, h3⟩ := h.a
  obtain ⟨u2, m2, g1, g2, g3⟩ := g.a
  obtain rfl := h1.uniq g1
  obtain rfl := h2.uniq g2
  have ea : a = c := by rw [h3, g3]
  obtain ⟨v1, k1, p1, p2, p3⟩ := h.b
  obtain ⟨v2, k2, q1, q2, q3⟩ := g.b
  obtain rfl := p1.uniq q1
  obtain rfl := p2.uniq q2
  have eb : b = d := by rw [p3, q3]
  have es : s = r := by rw [h.s, g.s, ea, eb]
  subst ea eb es
  obtain ⟨x1, r1, r2⟩ := h.c
  obtain ⟨x2, t1, t2⟩ := g.c
  obtain rfl := r1.uniq t1
  exact ⟨rfl, rfl, rfl, by rw [r2, t2]⟩
theorem exp_length : ∀ (l : List Tok) (out r : List Nat), (∀ t ∈ l, okTok t) → expTo l out = some r → r.length = out.length + expLen l
  | [], out, r, _, h => by
    have : out = r := by simpa [expTo] using h
    rw [← this]
    simp [expLen]
  | t :: l, out, r, hok, h => by
    have ht := hok t List.mem_cons_self
    have e : expLen (t :: l) = tokLen t + expLen l := by unfold expLen; rw [List.map_cons, List.sum_cons]
    have hok2 : ∀ u ∈ l, okTok u := fun u hu => hok u (List.mem_cons_of_mem _ hu)
    rw [expTo_cons] at h
    unfold okTok at ht
    split at h
    · rename_i h0
      split at h
      · cases h
      · have := exp_length l _ r hok2 h
        rw [List.length_append] at this
        have e2 : tokLen t = 1 := by unfold tokLen; rw [if_pos (by omega)]
        simp at this
        omega
    · rename_i h0
      split at h
      · cases h
      · have := exp_length l _ r hok2 h
        rw [copyN_len] at this
        have e2 : tokLen t = t.long.toNat := by unfold tokLen; rw [if_neg (by omega)]
        omega
theorem exp_plain : ∀ (l : List Tok), (∀ t ∈ l, okTok t) → l.length ≤ expLen l ∧ (expLen l = l.length ↔ farN l = 0)
  | [], _ => ⟨Nat.le_refl _, by simp [expLen, farN]⟩
  | t :: l, hok => by
    have ht := hok t List.mem_cons_self
    have e : expLen (t :: l) = tokLen t + expLen l := by unfold expLen; rw [List.map_cons, List.sum_cons]
    obtain ⟨h1, h2⟩ := exp_plain l (fun u hu => hok u (List.mem_cons_of_mem _ hu))
    have hf : farN (t :: l) = farN l + if t.long = 0 then 0 else 1 := by
      unfold farN
      rw [List.countP_cons]
      by_cases h0 : t.long = 0 <;> simp [h0]
    unfold okTok at ht
    rw [e, hf, List.length_cons]
    by_cases h0 : t.long = 0
    · have e2 : tokLen t = 1 := by unfold tokLen; rw [if_pos (by omega)]
      rw [e2, if_pos h0]
      refine ⟨by omega, ?_⟩
      rw [Nat.add_zero]
      exact ⟨fun h => h2.1 (by omega), fun h => by have := h2.2 h; omega⟩
    · have e2 : tokLen t = t.long.toNat := by unfold tokLen; rw [if_neg (by omega)]
      rw [e2, if_neg h0]
      exact ⟨by omega, by constructor <;> intro h <;> omega⟩
theorem head_len (L : List Bool) (k : Nat) (last : Bool) : (headK L k last).length = L.length + 3 := by unfold headK; rw [List.length_append, List.length_append, length_low, length_low]
/-- How many bits a lone block has. -/
def sizeOfK (l : List Tok) (lits backs lens : List Nat) (steps : List StpD) (t : Nat) : Nat → Int
  | 0 => ((35 + 8 * expLen l : Nat) : Int)
  | 1 => 3 + bodyI (ints (fixP 4)) (ints (List.replicate 32 5)) (manyF l)
  | _ => ((3 + (14 + 3 * t + szT lens steps) : Nat) : Int) + bodyI (ints lits) (ints backs) (manyF l)
theorem block_size {l : List Tok} {k : Nat} {M : List Bool} {lits backs lens : List Nat} {steps : List StpD} {t : Nat} (hB : IsBlock [] l k true M) (hok : ∀ t ∈ l, okTok t) (hn : l.length ≤ 100000) (hk : k = 0 → farN l = 0) (hM : MadeO l lits backs steps lens) (hT : ToldO lens t) :
    ((M.length : Nat) : Int) = sizeOfK l lits backs lens steps t k + (if k = 0 then 5 else 0) := by
  have hml : (manyF l).1.length = 286 ∧ (manyF l).2.length = 30 := by have := many_ok l l.length (Nat.le_refl _); rw [List.take_length] at this; exact ⟨this.la, this.lb⟩
  rcases hB with ⟨h, e⟩ | ⟨h, e⟩ | ⟨h, lits', backs', steps', lens', t', hM', hT', e⟩
  · subst h
    have hp := (exp_plain l hok).2.2 (hk rfl)
    have hbl : (litBytes l).length = l.length := List.length_map _
    rw [e, if_pos rfl]
    unfold storeL sizeOfK
    rw [List.length_append, List.length_append, List.length_append, length_alignL, head_len, length_low, length_low, length_textBits, hbl, hp]
    first | (simp; done) | (simp; omega)
  · subst h
    rw [e, List.length_append, head_len, if_neg (by omega)]
    have := symsB_bits (fixP 4) (List.replicate 32 5) l
    have h2 := bodyI_bits _ _ (ints_in15 fix15.1) (ints_in15 fix15.2.1) l hn hok
    unfold sizeOfK
    rw [h2, ← this]
    simp
  · subst h
    obtain ⟨rfl, rfl, rfl, rfl⟩ := hM'.uniq hM
    obtain rfl := hT'.uniq hT
    obtain ⟨_, _, _, _, x15, y15, _⟩ := hM'.bd hml
    rw [e, List.length_append, List.length_append, head_len, if_neg (by omega), tabB_sz _ _ _ _ _ hT'.hi]
    have := symsB_bits lits' backs' l
    have h2 := bodyI_bits _ _ (ints_in15 x15) (ints_in15 y15) l hn hok
    unfold sizeOfK
    rw [h2, ← this]
    first | (simp; done) | (simp; omega)
end Go.Proofs.YtdehkaknbmbieaaGreat

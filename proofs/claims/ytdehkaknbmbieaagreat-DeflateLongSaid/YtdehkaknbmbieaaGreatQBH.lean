/- BlockWrites: plain: how many bits a block has. -/
import Derived.Test.YtdehkaknbmbieaaGreatQBG
import Derived.Test.YtdehkaknbmbieaaGreatTaW
import Derived.Test.YtdehkaknbmbieaaGreatSiz
namespace Go.Proofs.YtdehkaknbmbieaaGreat
set_option linter.unusedVariables false
set_option linter.unusedSimpArgs false
set_option linter.unusedSectionVars false
set_option linter.unusedVariables false
set_option linter.unusedSimpArgs false

theorem tokB_bits (na nb : List Nat) (t : Tok) : (((tokB na nb t).length : Nat) : Int) = tokBits (ints na) (ints nb) t := by
  unfold tokB tokBits
  by_cases h0 : t.long = 0
  · rw [if_pos h0, if_pos h0, length_symBits, ints_getD]
  · rw [if_neg h0, if_neg h0]
    simp only [List.length_append, length_symBits, length_low]
    rw [ints_getD, ints_getD]
    have h1 : litC t = 257 + (findL t.long.toNat 29 0).getD 0 := by unfold litC; rw [if_neg h0]
    have h2 : bakC t = (findD t.back.toNat 30 0).getD 0 := rfl
    rw [h1, h2]
    omega
theorem foldl_tok (na nb : List Nat) : ∀ (l : List Tok) (x : Int), l.foldl (fun n t => n + tokBits (ints na) (ints nb) t) x = x + ((toksB na nb l).length : Nat)
  | [], x => by simp [toksB]
  | t :: l, x => by
    have e : toksB na nb (t :: l) = tokB na nb t ++ toksB na nb l := by unfold toksB; rw [List.flatMap_cons]
    rw [List.foldl_cons, foldl_tok na nb l, e, List.length_append, ← tokB_bits]
    omega
theorem symsB_bits (na nb : List Nat) (l : List Tok) : (((symsB na nb l).length : Nat) : Int) = bitsOf (ints na) (ints nb) l := by
  rw [symsB_toks, List.length_append, length_symBits]
  unfold bitsOf
  rw [foldl_tok, ints_getD]
  omega
theorem stpsB_sz (lens : List Nat) : ∀ l, (stpsB lens l).length = szT lens l
  | [] => rfl
  | s :: l => by
    have e : stpsB lens (s :: l) = stpB lens s ++ stpsB lens l := by unfold stpsB; rw [List.flatMap_cons]
    have e2 : szT lens (s :: l) = (lens.getD s.sym 0 + s.bits) + szT lens l := by unfold szT; rw [List.map_cons, List.sum_cons]
    rw [e, e2, List.length_append, stpsB_sz lens l]
    unfold stpB
    rw [List.length_append, length_symBits, length_low]
theorem tabB_sz (m1 m2 t : Nat) (lens : List Nat) (steps : List StpD) (ht : t ≤ 19) : (tabB m1 m2 t lens steps).length = 14 + 3 * t + szT lens steps := by
  unfold tabB headB
  simp only [List.length_append, length_low]
  rw [lenBt_len lens t ht, stpsB_sz]
theorem TrimO.uniq {l : List Nat} {least : Int} {n m k : Nat} (h : TrimO l least n m) (g : TrimO l least n k) : m = k := by
  have key : ∀ {m k : Nat}, TrimO l least n m → TrimO l least n k → ¬ m < k := fun {m k} h g hlt => by
    rcases g.last with h1 | h1 | h1
    · omega
    · rcases h.few with h2 | h2
      · have := g.le; omega
      · omega
    · exact h1 (h.zero (k - 1) (by omega) (by have := g.le; omega))
  have := key h g
  have := key g h
  omega
theorem MadeO.uniq {l : List Tok} {a b c d : List Nat} {s r : List StpD} {e f : List Nat} (h : MadeO l a b s e) (g : MadeO l c d r f) : a = c ∧ b = d ∧ s = r ∧ e = f := by
  obtain ⟨u1, m1, h1, h2, h3⟩ := h.a
  obtain ⟨u2, m2, g1, g2, g3⟩ := g.a
  obtain rfl := h1.uniq g1
  obtain rfl := h2.uniq g2
  have ea : a = c := by rw [h3, g3]
  obtain ⟨v1, k1, p1, p2, p3⟩ := h.b
  obtain ⟨v2, k2, q1, q2, q3⟩ := g.b
  obtain rfl := p1.uniq q1
  obtain rfl := p2.uniq q2
  have eb : b = d := by rw [p3, q3]
  have es : s = r := by rw [h.s, g.s, ea, eb]
  subst ea eb es
  obtain ⟨x1, r1, r2⟩ := h.c
  obtain ⟨x2, t1, t2⟩ := g.c
  obtain rfl := r1.uniq t1
  exact ⟨rfl, rfl, rfl, by rw [r2, t2]⟩
theorem exp_length : ∀ (l : List Tok) (out r : List Nat), (∀ t ∈ l, okTok t) → expTo l out = some r → r.length = out.length + expLen l
  | [], out, r, _, h => by
    have : out = r := by simpa [expTo] using h
    rw [← this]
    simp [expLen]
  | t :: l, out, r, hok, h => by
    have ht := hok t List.mem_cons_self
    have e : expLen (t :: l) = tokLen t + expLen l := by unfold expLen; rw [List.map_cons, List.sum_cons]
    have hok2 : ∀ u ∈ l, okTok u := fun u hu => hok u (List.mem_cons_of_mem _ hu)
    rw [expTo_cons] at h
    unfold okTok at ht
    split at h
    · rename_i h0
      split at h
      · cases h
      · have := exp_length l _ r hok2 h
        rw [List.length_append] at this
        have e2 : tokLen t = 1 := by unfold tokLen; rw [if_pos (by omega)]
        simp at this
        omega
    · rename_i h0
      split at h
      · cases h
      · have := exp_length l _ r hok2 h
        rw [copyN_len] at this
        have e2 : tokLen t = t.long.toNat := by unfold tokLen; rw [if_neg (by omega)]
        omega
theorem exp_plain : ∀ (l : List Tok), (∀ t ∈ l, okTok t) → l.length ≤ expLen l ∧ (expLen l = l.length ↔ farN l = 0)
  | [], _ => ⟨Nat.le_refl _, by simp [expLen, farN]⟩
  | t :: l, hok => by
    have ht := hok t List.mem_cons_self
    have e : expLen (t :: l) = tokLen t + expLen l := by unfold expLen; rw [List.map_cons, List.sum_cons]
    obtain ⟨h1, h2⟩ := exp_plain l (fun u hu => hok u (List.mem_cons_of_mem _ hu))
    have hf : farN (t :: l) = farN l + if t.long = 0 then 0 else 1 := by
      unfold farN
      rw [List.countP_cons]
      by_cases h0 : t.long = 0 <;> simp [h0]
    unfold okTok at ht
    rw [e, hf, List.length_cons]
    by_cases h0 : t.long = 0
    · have e2 : tokLen t = 1 := by unfold tokLen; rw [if_pos (by omega)]
      rw [e2, if_pos h0]
      refine ⟨by omega, ?_⟩
      rw [Nat.add_zero]
      exact ⟨fun h => h2.1 (by omega), fun h => by have := h2.2 h; omega⟩
    · have e2 : tokLen t = t.long.toNat := by unfold tokLen; rw [if_neg (by omega)]
      rw [e2, if_neg h0]
      exact ⟨by omega, by constructor <;> intro h <;> omega⟩
theorem head_len (L : List Bool) (k : Nat) (last : Bool) : (headK L k last).length = L.length + 3 := by unfold headK; rw [List.length_append, List.length_append, length_low, length_low]
/-- How many bits a lone block has. -/
def sizeOfK (l : List Tok) (lits backs lens : List Nat) (steps : List StpD) (t : Nat) : Nat → Int
  | 0 => ((35 + 8 * expLen l : Nat) : Int)
  | 1 => 3 + bodyI (ints (fixP 4)) (ints (List.replicate 32 5)) (manyF l)
  | _ => ((3 + (14 + 3 * t + szT lens steps) : Nat) : Int) + bodyI (ints lits) (ints backs) (manyF l)
end Go.Proofs.YtdehkaknbmbieaaGreat
namespace Go.Proofs.YtdehkaknbmbieaaGreat
set_option linter.unusedVariables false
set_option linter.unusedSimpArgs false
set_option linter.unusedSectionVars false
open Go.RowKit
attribute [local go_sem] Oper.semAt_some
set_option linter.unusedVariables false
set_option linter.unusedSimpArgs false

theorem row_heap {w : World} {e : TypeId} {size n k : Nat} {v : Value} {xs : List Value} (h : Row w e size v n xs) (hk : v.ownBlock = some k) : ∃ cs fr, w.heap[k]? = some (.cells cs e fr) := by
  rcases h.2 with ⟨rfl, rfl⟩ | ⟨g', cap, cur, rfl, hb, hh, _⟩
  · simp [Value.ownBlock] at hk
  · simp [Value.ownBlock] at hk
    subst hk
    exact ⟨_, _, hh⟩
theorem WrAt.apart {w : World} {b m k : Nat} {v : Value} {L : List Bool} {T : TypeId} {cs : Array Value} {fr : Nat × Nat} (h : WrAt w b v L m) (hk : w.heap[k]? = some (.cells cs T fr)) (h1 : T ≠ 31) (h2 : T ≠ 5) : k ∉ wrFp b v := fun hm => by
  rcases List.mem_cons.1 hm with h3 | h3
  · subst h3
    have := h.blk
    unfold Blk at this
    rw [this] at hk
    simp at hk
    exact h1 hk.2.1.symm
  · obtain ⟨cs', fr', h4⟩ := row_heap h.row (k := k) (by simpa using h3)
    rw [h4] at hk
    simp at hk
    exact h2 hk.2.1.symm
theorem blk_heap {w : World} {b : Nat} {cs : List Value} {t : TypeId} (h : Blk w b cs t) : w.heap[b]? = some (.cells cs.toArray t (0, 0)) := h
def BadK (l : List Tok) (n : Nat) (k : Int) : Prop := k < 0 ∨ 2 < k ∨ (k = 0 ∧ (0 < farN l ∨ 65535 < n))
theorem tabB_le (m1 m2 t : Nat) (lens : List Nat) (steps : List StpD) (ht : t ≤ 19) (hl : ∀ x ∈ lens, x ≤ 15) (hs : ∀ s ∈ steps, s.bits ≤ 7) : (tabB m1 m2 t lens steps).length ≤ 71 + 22 * steps.length := by
  have h1 := lenBt_len lens t ht
  have h2 := stpsB_le lens hl steps hs
  unfold tabB headB
  simp only [List.length_append, length_low]
  omega
def WriteP9 (w : World) (b : Nat) (v : Value) (L : List Bool) (l : List Tok) (k : Nat) (last : Bool) (e : Ending) (w' : World) : Prop := e = .returned (.bool true) ∧ ∃ v' M, IsBlock L l k last M ∧ WS w b v w' v' M
theorem bitsN_le9 (s : Nat) : bitsN s ≤ 7 := by unfold bitsN; split; omega; split; omega; split <;> omega
theorem made_more {l : List Tok} {lits backs lens : List Nat} {steps : List StpD} (h : MadeL l lits backs steps lens) (hb : ∀ s ∈ steps, s.sym < 19 ∧ s.bits ≤ 7) : ∀ s ∈ steps, lens.getD s.sym 0 ≠ 0 ∧ s.bits ≤ 7 ∧ s.more < 256 := by
  intro s hs
  obtain ⟨i, hi, rfl⟩ := List.getElem_of_mem hs
  have h1 := okAll_at steps [] h.dec.1 i hi
  have h2 := h.sy _ hs
  have h3 : 2 ^ bitsN steps[i].sym ≤ 2 ^ 7 := Nat.pow_le_pow_right (by omega) (bitsN_le9 _)
  have h4 := h1.more
  exact ⟨by omega, (hb _ hs).2, by omega⟩
set_option maxRecDepth 100000 in
set_option maxHeartbeats 12800000 in
theorem bwrite_aux (l : List Tok) (b : Nat) (v : Value) (L : List Bool) (a : Option Addr) (n cap k : Nat) (last LST : Bool) (hLST : LST = last) (w : World) (hI : ∀ w', Upd (wrFp b v) w w' → TokIn w' a n l)
    (hW : WrAt w b v L (L.length / 8)) (hL : L.length ≤ 50000000000) (hn : n ≤ 100000) (hok : ∀ t ∈ l, okTok t) (hk : k ≤ 2) (hg : ¬ BadK l n (k : Nat)) :
    Calls Tryz.prog 10 #[.pointer (some ⟨b, 0, none⟩), .slice a n cap, .int .i64 (k : Nat), .bool last] w (WriteP9 w b v L l k LST) := by
  have HC := Lib.hid (lzCount_any l a n cap w (hI w (Upd.refl _ _)) hn)
  have hfl : farN l ≤ n := by have := farN_le l; rw [(hI w (Upd.refl _ _)).len] at this; exact this
  have HI := Lib.hid hI
  have HOK := Lib.hid hok
  have HML := Lib.hid (by have := many_ok l l.length (Nat.le_refl _); rw [List.take_length] at this; exact And.intro this.la this.lb)
  have HW := Lib.hid (WS.refl hW)
  unfold CountP9 at HC
  have hg2 : k = 0 → farN l = 0 ∧ n ≤ 65535 := fun h => by
    unfold BadK at hg
    omega
  have HG := Lib.hid hg2
  generalize litN l = A at *
  generalize farN l = B at *
  have hB0 : k = 0 → ¬ (0 : Int) < (B : Int) := fun h => by have := hg2 h; omega
  have hN0 : k = 0 → ¬ (65535 : Int) < (n : Int) := fun h => by have := hg2 h; omega
  have HB0 := Lib.hid hB0
  have HN0 := Lib.hid hN0
  clear hI hok hW hg hg2 hB0 hN0
  have hkz : ¬ (2 : Int) < (k : Int) := by omega
  have hkz0 : ¬ (k : Int) < 0 := by omega
  obtain ⟨lb, hlb⟩ : ∃ lb : Nat, (if LST then 1 else 0) = lb := ⟨_, rfl⟩
  have hlb2 : lb < 2 := by rw [← hlb]; split <;> omega
  have HLB := Lib.hid hlb
  rcases (by omega : k = 0 ∨ k = 1 ∨ k = 2) with rfl | rfl | rfl
  · have hb1 := HB0.out rfl
    have hb2 := HN0.out rfl
    go_enter Tryz.func10, Tryz.ntmps10
    go_wp2_with fail
    refine HC.out.mono ?_
    rintro e w1 ⟨rfl, hU1⟩
    have HW1 := Lib.hid (HW.out.pure hU1)
    have HBX := Lib.hid (fun (x : Int) (hx : x = (lb : Nat)) => bits_any b lb x 1 1 w1 v L hx (by omega) HW1.out.at_ (by omega) (by omega) (Lib.hid (by omega)))
    clear hU1 HC HW
    have HLST := Lib.hid hLST
    clear hLST
    rcases (by cases last <;> simp : last = true ∨ last = false) with rfl | rfl
    all_goals
      go_wp2_with fail
      refine (HBX.out _ (by have h1 := HLB.out; have h2 := HLST.out; rw [h2] at h1; simp at h1; omega)).mono ?_
      rintro e w2 ⟨rfl, v2, h1', h2', h3⟩
      have HW2 := Lib.hid (HW1.out.step h1' h2' h3)
      clear h1' h2' h3 HBX
      have hl2 : (L ++ low 1 lb).length ≤ 50000000001 := by rw [List.length_append, length_low]; omega
      obtain ⟨L2, hL2⟩ : ∃ L2, L ++ low 1 lb = L2 := ⟨_, rfl⟩
      rw [hL2] at HW2 hl2
      have hxc : IntKind.u32.wrap ((0 : Nat) : Int) = ((0 : Nat) : Int) := by decide
      have hxc' : (((0 : Nat) : Int) % 4294967296) = ((0 : Nat) : Int) := by omega
      have HBX := Lib.hid (bits_any b 0 ((0 : Nat) : Int) 2 2 w2 v2 L2 rfl (by omega) HW2.out.at_ (by omega) (by omega) (Lib.hid (by omega)))
      have HHK : Hid (headK L 0 LST = L2 ++ low 2 0) := Lib.hid (by unfold headK; rw [hlb, hL2])
      clear hL2 HW1 hlb
      go_wp2_with fail
      refine HBX.out.mono ?_
      rintro e w3 ⟨rfl, v3, h1', h2', h3⟩
      have HW3 := Lib.hid (HW2.out.step h1' h2' h3)
      rw [← HHK.out] at HW3
      have hl3 : (headK L 0 LST).length ≤ 50000000003 := by rw [HHK.out, List.length_append, length_low]; omega
      clear h1' h2' h3 HBX HW2 hxc hxc'
      have HS := Lib.hid (bstore_any l b v3 (headK L 0 LST) a n cap w3 (fun w' h => HI.out w' (HW3.out.fp h)) HW3.out.at_ (by omega) (by first | exact (HG.out rfl).2 | exact (HG.out trivial).2))
      clear HB0 HN0 hb1 hb2
      go_wp2_with fail
      refine HS.out.mono ?_
      rintro e w4 ⟨rfl, v4, h4⟩
      have HW4 := Lib.hid (HW3.out.step h4.at_ h4.upd h4.later)
      clear h4 HS
      go_wp2
      go_ret
      exact ⟨rfl, v4, _, .inl ⟨rfl, rfl⟩, HW4.out⟩
  · go_enter Tryz.func10, Tryz.ntmps10
    go_wp2_with fail
    refine HC.out.mono ?_
    rintro e w1 ⟨rfl, hU1⟩
    have HW1 := Lib.hid (HW.out.pure hU1)
    have HBX := Lib.hid (fun (x : Int) (hx : x = (lb : Nat)) => bits_any b lb x 1 1 w1 v L hx (by omega) HW1.out.at_ (by omega) (by omega) (Lib.hid (by omega)))
    clear hU1 HC HW
    have HLST := Lib.hid hLST
    clear hLST
    rcases (by cases last <;> simp : last = true ∨ last = false) with rfl | rfl
    all_goals
      go_wp2_with fail
      refine (HBX.out _ (by have h1 := HLB.out; have h2 := HLST.out; rw [h2] at h1; simp at h1; omega)).mono ?_
      rintro e w2 ⟨rfl, v2, h1', h2', h3⟩
      have HW2 := Lib.hid (HW1.out.step h1' h2' h3)
      clear h1' h2' h3 HBX
      have hl2 : (L ++ low 1 lb).length ≤ 50000000001 := by rw [List.length_append, length_low]; omega
      obtain ⟨L2, hL2⟩ : ∃ L2, L ++ low 1 lb = L2 := ⟨_, rfl⟩
      rw [hL2] at HW2 hl2
      have hxc : IntKind.u32.wrap ((1 : Nat) : Int) = ((1 : Nat) : Int) := by decide
      have hxc' : (((1 : Nat) : Int) % 4294967296) = ((1 : Nat) : Int) := by omega
      have HBX := Lib.hid (bits_any b 1 ((1 : Nat) : Int) 2 2 w2 v2 L2 rfl (by omega) HW2.out.at_ (by omega) (by omega) (Lib.hid (by omega)))
      have HHK : Hid (headK L 1 LST = L2 ++ low 2 1) := Lib.hid (by unfold headK; rw [hlb, hL2])
      clear hL2 HW1 hlb
      go_wp2_with fail
      refine HBX.out.mono ?_
      rintro e w3 ⟨rfl, v3, h1', h2', h3⟩
      have HW3 := Lib.hid (HW2.out.step h1' h2' h3)
      rw [← HHK.out] at HW3
      have hl3 : (headK L 1 LST).length ≤ 50000000003 := by rw [HHK.out, List.length_append, length_low]; omega
      clear h1' h2' h3 HBX HW2 hxc hxc'
      clear HB0 HN0
      go_wp2_with fail
      refine (fixed_any _).mono ?_
      rintro e w4 ⟨f1, d1, f2, rfl, hF1, hF2, hU4, _, _⟩
      have HW4 := Lib.hid (HW3.out.pure hU4)
      obtain ⟨cs1, fr1, hh1⟩ := row_heap hF1 (k := f1) rfl
      obtain ⟨cs2, fr2, hh2⟩ := row_heap hF2 (k := f2) rfl
      have hn1 := HW4.out.at_.apart hh1 (by decide) (by decide)
      have hn2 := HW4.out.at_.apart hh2 (by decide) (by decide)
      have hI1 : IntsIn w4 (some ⟨f1, 0, none⟩) 288 (ints (fixP 4)) := IntsIn.row hF1 (fun x hx => by have := fix15.1 x hx; omega)
      have hI2 : IntsIn w4 (some ⟨f2, 0, none⟩) 32 (ints (List.replicate 32 5)) := IntsIn.row hF2 (fun x hx => by have := fix15.2.1 x hx; omega)
      have hP := fix_plan l HOK.out
      have HS := Lib.hid (bsymbols_any l (fixP 4) (List.replicate 32 5) b v3 (headK L 1 LST) a (some ⟨f1, 0, none⟩) (some ⟨f2, 0, none⟩) n cap 288 d1 32 32 w4 (fun w' h => HI.out w' (HW4.out.fp h)) (fun w' h => hI1.upd h (fun b' off e => by cases e; exact hn1)) (fun w' h => hI2.upd h (fun b' off e => by cases e; exact hn2)) HW4.out.at_ (by omega) hn hP.a3 hP.b3 hP.coded HOK.out)
      clear hF1 hF2 hU4 hh1 hh2 hn1 hn2 hI1 hI2 hP HW3
      go_wp2_with fail
      refine HS.out.mono ?_
      rintro e w5 ⟨rfl, v5, h5⟩
      have HW5 := Lib.hid (HW4.out.step h5.at_ h5.upd h5.later)
      clear h5 HS
      go_wp2
      go_ret
      exact ⟨rfl, v5, _, .inr (.inl ⟨rfl, rfl⟩), HW5.out⟩
  · go_enter Tryz.func10, Tryz.ntmps10
    go_wp2_with fail
    refine HC.out.mono ?_
    rintro e w1 ⟨rfl, hU1⟩
    have HW1 := Lib.hid (HW.out.pure hU1)
    have HBX := Lib.hid (fun (x : Int) (hx : x = (lb : Nat)) => bits_any b lb x 1 1 w1 v L hx (by omega) HW1.out.at_ (by omega) (by omega) (Lib.hid (by omega)))
    clear hU1 HC HW
    have HLST := Lib.hid hLST
    clear hLST
    rcases (by cases last <;> simp : last = true ∨ last = false) with rfl | rfl
    all_goals
      go_wp2_with fail
      refine (HBX.out _ (by have h1 := HLB.out; have h2 := HLST.out; rw [h2] at h1; simp at h1; omega)).mono ?_
      rintro e w2 ⟨rfl, v2, h1', h2', h3⟩
      have HW2 := Lib.hid (HW1.out.step h1' h2' h3)
      clear h1' h2' h3 HBX
      have hl2 : (L ++ low 1 lb).length ≤ 50000000001 := by rw [List.length_append, length_low]; omega
      obtain ⟨L2, hL2⟩ : ∃ L2, L ++ low 1 lb = L2 := ⟨_, rfl⟩
      rw [hL2] at HW2 hl2
      have hxc : IntKind.u32.wrap ((2 : Nat) : Int) = ((2 : Nat) : Int) := by decide
      have hxc' : (((2 : Nat) : Int) % 4294967296) = ((2 : Nat) : Int) := by omega
      have HBX := Lib.hid (bits_any b 2 ((2 : Nat) : Int) 2 2 w2 v2 L2 rfl (by omega) HW2.out.at_ (by omega) (by omega) (Lib.hid (by omega)))
      have HHK : Hid (headK L 2 LST = L2 ++ low 2 2) := Lib.hid (by unfold headK; rw [hlb, hL2])
      clear hL2 HW1 hlb
      go_wp2_with fail
      refine HBX.out.mono ?_
      rintro e w3 ⟨rfl, v3, h1', h2', h3⟩
      have HW3 := Lib.hid (HW2.out.step h1' h2' h3)
      rw [← HHK.out] at HW3
      have hl3 : (headK L 2 LST).length ≤ 50000000003 := by rw [HHK.out, List.length_append, length_low]; omega
      clear h1' h2' h3 HBX HW2 hxc hxc'
      clear HB0 HN0
      have HMM := Lib.hid (made_any l a n cap w3 (HI.out w3 HW3.out.upd) hn HOK.out)
      go_wp2_with fail
      refine HMM.out.mono ?_
      rintro e w4 ⟨g1, c1, g2, c2, g4, v3', lits, backs, lens, steps, rfl, hM, hR1, hR2, hR3, hB4, hU4⟩
      obtain ⟨va, vc, rfl⟩ := hR3.form
      obtain ⟨m1b, m1b', m2b, m2b', x15, y15, hsy0, hl7, hl19, hsl⟩ := hM.bd HML.out
      have hlaw := hM.law HML.out HOK.out
      have hP := hM.plan HML.out HOK.out
      have HW4 := Lib.hid (HW3.out.pure hU4)
      have hPn := notin_new HW4.out (Nat.le_refl w4.heap.size)
      have hU5 : Upd [] w4 (w4.alloc (.cells #[.slice (some ⟨g1, 0, none⟩) lits.length c1, .slice (some ⟨g2, 0, none⟩) backs.length c2, .slice va steps.length vc, .slice (some ⟨g4, 0, none⟩) 19 19] 61)) := (Upd.refl [] w4).alloc _
      have hP5 := Blk.new w4 [.slice (some ⟨g1, 0, none⟩) lits.length c1, .slice (some ⟨g2, 0, none⟩) backs.length c2, .slice va steps.length vc, .slice (some ⟨g4, 0, none⟩) 19 19] 61
      have HW5 := Lib.hid (HW4.out.pure hU5)
      have hR1' := hR1.upd hU5 (by simp)
      have hR2' := hR2.upd hU5 (by simp)
      have hR3' := hR3.upd hU5 (by simp)
      have hB4' := hB4.upd hU5 (by simp)
      clear hR1 hR2 hR3 hB4 hU5 hU4 HMM HW3
      go_upto_region 10 with fail
      change Code.wp _ _ _ _ (w4.alloc (.cells #[.slice (some ⟨g1, 0, none⟩) lits.length c1, .slice (some ⟨g2, 0, none⟩) backs.length c2, .slice va steps.length vc, .slice (some ⟨g4, 0, none⟩) 19 19] 61))
      generalize w4.alloc (.cells #[.slice (some ⟨g1, 0, none⟩) lits.length c1, .slice (some ⟨g2, 0, none⟩) backs.length c2, .slice va steps.length vc, .slice (some ⟨g4, 0, none⟩) 19 19] 61) = w5 at *
      generalize w4.heap.size = pb at *
      have n4 := HW5.out.at_.apart (blk_heap hB4') (by decide) (by decide)
      have hIn : IntsIn w5 (some ⟨g4, 0, none⟩) 19 (ints lens) := IntsIn.blk hB4' hl19 (fun x hx => by have := hl7 x hx; omega)
      have n3 : ∀ bb off, va = some ⟨bb, off, none⟩ → bb ∉ wrFp b v3 := fun bb off e => by
        subst e
        obtain ⟨cs, fr, hh⟩ := row_heap hR3' (k := bb) rfl
        exact HW5.out.at_.apart hh (by decide) (by decide)
      have hSt : StpIn w5 va steps.length steps := StpIn.row hR3' rfl
      have HTB := Lib.hid (btables_any lens steps b v3 (headK L 2 LST) (some ⟨g1, 0, none⟩) (some ⟨g2, 0, none⟩) va (some ⟨g4, 0, none⟩) lits.length backs.length steps.length c1 c2 vc 19 w5
        (fun w' h => hIn.upd h (fun b' off e => by cases e; exact n4)) (fun w' h => hSt.updF h n3) HW5.out.at_ (by omega) (by omega) ⟨m1b, m1b'⟩ ⟨m2b, m2b'⟩ (by rw [hlaw.okC]; omega) (made_more hlaw hsy0) (fun j => getD_le hl7 j))
      have k0 := hP5.cell 0 rfl
      have k1 := hP5.cell 1 rfl
      have k2 := hP5.cell 2 rfl
      have k3 := hP5.cell 3 rfl
      have HP5 := Lib.hid hP5
      have HPN := Lib.hid hPn
      have HR1 := Lib.hid hR1'
      have HR2 := Lib.hid hR2'
      have HM := Lib.hid hM
      have HPL := Lib.hid hP
      have HX15 := Lib.hid x15
      have HY15 := Lib.hid y15
      have HTL := Lib.hid (fun t (ht : ToldO lens t) => tabB_le lits.length backs.length t lens steps ht.hi (fun x hx => by have := hl7 x hx; omega) (fun s hs => (hsy0 s hs).2))
      clear hP5 hPn hR1' hR2' hR3' hB4' n4 n3 hIn hSt hM hP hlaw x15 y15 hsy0 hl7 hl19 HW4
      go_wp2_with fail
      refine HTB.out.mono ?_
      rintro e w6 ⟨rfl, v6, t, ht, h6⟩
      have HW6 := Lib.hid (HW5.out.step h6.at_ h6.upd h6.later)
      have hP6 := HP5.out.upd h6.upd HPN.out
      have hR1 := HR1.out
      have hR2 := HR2.out
      obtain ⟨cs1, fr1, hh1⟩ := row_heap hR1 (k := g1) rfl
      obtain ⟨cs2, fr2, hh2⟩ := row_heap hR2 (k := g2) rfl
      have n1 := HW5.out.at_.apart hh1 (by decide) (by decide)
      have n2 := HW5.out.at_.apart hh2 (by decide) (by decide)
      have hR16 := hR1.upd h6.upd (fun k hk => by simp [Value.ownBlock] at hk; subst hk; exact n1)
      have hR26 := hR2.upd h6.upd (fun k hk => by simp [Value.ownBlock] at hk; subst hk; exact n2)
      have m1' := notin_later n1 (hR1.lt g1 rfl) h6.later
      have m2' := notin_later n2 (hR2.lt g2 rfl) h6.later
      have hI1 : IntsIn w6 (some ⟨g1, 0, none⟩) lits.length (ints lits) := IntsIn.row hR16 (fun x hx => by have := HX15.out x hx; omega)
      have hI2 : IntsIn w6 (some ⟨g2, 0, none⟩) backs.length (ints backs) := IntsIn.row hR26 (fun x hx => by have := HY15.out x hx; omega)
      have htl := HTL.out t ht
      have HT := Lib.hid ht
      have HS := Lib.hid (bsymbols_any l lits backs b v6 (headK L 2 LST ++ tabB lits.length backs.length t lens steps) a (some ⟨g1, 0, none⟩) (some ⟨g2, 0, none⟩) n cap lits.length c1 backs.length c2 w6 (fun w' h => HI.out w' (HW6.out.fp h)) (fun w' h => hI1.upd h (fun b' off e => by cases e; exact m1')) (fun w' h => hI2.upd h (fun b' off e => by cases e; exact m2')) HW6.out.at_ (by rw [List.length_append]; omega) hn HPL.out.a3 HPL.out.b3 HPL.out.coded HOK.out)
      clear k0 k1 k2 k3
      have k0 := hP6.cell 0 rfl
      have k1 := hP6.cell 1 rfl
      clear h6 hP6 hR1 hR2 hh1 hh2 n1 n2 hR16 hR26 m1' m2' hI1 hI2 ht HTB HW5 htl HTL
      go_wp2_with fail
      refine HS.out.mono ?_
      rintro e w7 ⟨rfl, v7, h7⟩
      have HW7 := Lib.hid (HW6.out.step h7.at_ h7.upd h7.later)
      clear h7 HS k0 k1
      go_wp2
      go_ret
      exact ⟨rfl, v7, _, .inr (.inr ⟨rfl, lits, backs, steps, lens, t, HM.out, HT.out, rfl⟩), HW7.out⟩
theorem bwrite_any (l : List Tok) (b : Nat) (v : Value) (L : List Bool) (a : Option Addr) (n cap k : Nat) (last : Bool) (w : World) (hI : ∀ w', Upd (wrFp b v) w w' → TokIn w' a n l)
    (hW : WrAt w b v L (L.length / 8)) (hL : L.length ≤ 50000000000) (hn : n ≤ 100000) (hok : ∀ t ∈ l, okTok t) (hk : k ≤ 2) (hg : ¬ BadK l n (k : Nat)) :
    Calls Tryz.prog 10 #[.pointer (some ⟨b, 0, none⟩), .slice a n cap, .int .i64 (k : Nat), .bool last] w (WriteP9 w b v L l k last) := bwrite_aux l b v L a n cap k last last rfl w hI hW hL hn hok hk hg
end Go.Proofs.YtdehkaknbmbieaaGreat

/- Package inflate: one block: plain, and its walk. -/
import Derived.Laws.CopyOwn
import Derived.Test.YtdehkaknbmbieaaGreatQAZ
import Derived.Test.YtdehkaknbmbieaaGreatQBO
import Derived.Test.YtdehkaknbmbieaaGreatQBE
import Derived.Test.YtdehkaknbmbieaaGreatQAL
import Derived.Test.YtdehkaknbmbieaaGreatQAS
import Derived.Test.YtdehkaknbmbieaaGreatQBM
import Derived.Lib.MinMax
import Derived.Recover
namespace Go.Proofs.YtdehkaknbmbieaaGreat
set_option linter.unusedVariables false
set_option linter.unusedSimpArgs false
set_option linter.unusedSectionVars false
open Go.RowKit
set_option linter.unusedVariables false

theorem IntsIn.of_row {w : World} {g n cap : Nat} {U : List Nat} (h : Row w 3 1 (.slice (some ⟨g, 0, none⟩) n cap) n (i64s U)) (hb : ∀ x ∈ U, x ≤ 1099511627776) : IntsIn w (some ⟨g, 0, none⟩) (U.map fun x : Nat => (x : Int)).length (U.map fun x : Nat => (x : Int)) :=
  ⟨rfl, fun i hi => by
    have hi' : i < U.length := by simpa using hi
    refine ⟨g, 0, rfl, ?_, ?_⟩
    · rw [Nat.zero_add, Row.cell h i (i64s_get _ _ _ (List.getElem?_eq_getElem hi'))]; simp
    · have := hb _ (List.getElem_mem hi')
      simp only [List.getElem_map]; omega⟩
theorem bind_ok {α β : Type} {x : Except Nat α} {f : α → Except Nat β} {y : β} (h : x >>= f = .ok y) : ∃ r, x = .ok r ∧ f r = .ok y := by
  cases x with
  | error c => cases h
  | ok r => exact ⟨r, rfl, h⟩
theorem map_ok {α β : Type} {x : Except Nat α} {f : α → β} {y : β} (h : x.map f = .ok y) : ∃ r, x = .ok r ∧ f r = y := by
  cases x with
  | error c => cases h
  | ok r => cases h; exact ⟨r, rfl, rfl⟩

def fixA : List Int := ints (fixP 4)
def fixB : List Int := ints (List.replicate 32 5)
def tabSyms (s : ByteArray) (most F : Nat) (out : List Nat) (r : (List Nat × List Nat) × Nat) : Except Nat (List Nat × Nat) := symsP (ints r.1.1) (ints r.1.2) s most F out r.2
/-- What a block of this kind makes. -/
def kindP (s : ByteArray) (most F : Nat) (out : List Nat) (r : Nat × Nat) : Except Nat (List Nat × Nat) :=
  if r.1 = 0 then storeP s most out r.2 else
    if r.1 = 1 then symsP fixA fixB s most F out r.2 else
      if r.1 = 2 then tablesP s r.2 >>= tabSyms s most F out else .error 2
def lastP (k : Nat) (q : List Nat × Nat) : Except Nat ((Bool × List Nat) × Nat) := .ok ((k == 1, q.1), q.2)
def blockP (s : ByteArray) (most F : Nat) (out : List Nat) (a : Nat) : Except Nat ((Bool × List Nat) × Nat) :=
  takeP s a 1 >>= fun r => (takeP s r.2 2 >>= kindP s most F out) >>= lastP r.1

theorem alTo_ge (a : Nat) : a ≤ alTo a false := by unfold alTo; simp; omega
theorem storeP_adv {s : ByteArray} {most : Nat} {out out' : List Nat} {a a' : Nat} (h : storeP s most out a = .ok (out', a')) : a ≤ a' := by
  obtain ⟨r, h1, h2⟩ := bind_ok h
  obtain ⟨r2, h3, h4⟩ := bind_ok h2
  have e1 := takeP_adv h1
  have e2 := takeP_adv h3
  have e0 := alTo_ge a
  unfold storeEnd at h4
  split at h4
  · split at h4
    · cases h4
    · rename_i hb
      split at h4
      · cases h4
        unfold txTo
        rw [if_neg hb]
        omega
      · cases h4
  · cases h4
theorem symsP_adv {l1 l2 : List Int} {s : ByteArray} {most : Nat} : ∀ (g : Nat) {out out' : List Nat} {a a' : Nat}, symsP l1 l2 s most g out a = .ok (out', a') → a ≤ a' := by
  intro g
  induction g with
  | zero => intro out out' a a' h; cases h
  | succ g ih =>
    intro out out' a a' h
    obtain ⟨⟨sym, a1⟩, h1, h2⟩ := bind_ok h
    have e1 := nextP_adv h1
    unfold symStep at h2
    simp only at h2
    split at h2
    · cases h2; omega
    · split at h2
      · split at h2
        · have := ih h2; omega
        · cases h2
      · obtain ⟨⟨o, a2⟩, h3, h4⟩ := bind_ok h2
        have e2 := copyP_adv h3
        have := ih h4
        simp only at this
        omega
theorem againP_adv {s : ByteArray} {sym : Nat} {L : List Nat} {a a' : Nat} {r : Nat × Nat} (h : againP s sym L a = .ok (r, a')) : a ≤ a' := by
  unfold againP at h
  split at h
  · split at h
    · cases h
    · obtain ⟨q, h1, h2⟩ := map_ok h; have := takeP_adv h1; cases h2; exact this
  · split at h
    · obtain ⟨q, h1, h2⟩ := map_ok h; have := takeP_adv h1; cases h2; exact this
    · obtain ⟨q, h1, h2⟩ := map_ok h; have := takeP_adv h1; cases h2; exact this
theorem oneP_adv {s : ByteArray} {k : Nat} {L : List Nat} {a a' : Nat} {r : Nat × Nat} (h : oneP s k L a = .ok (r, a')) : a ≤ a' := by
  unfold oneP at h
  split at h
  · exact againP_adv h
  · cases h; omega
theorem rowP_adv {l : List Int} {s : ByteArray} {many : Nat} : ∀ (f : Nat) {L L' : List Nat} {a a' : Nat}, rowP l s many f L a = .ok (L', a') → a ≤ a' := by
  intro f
  induction f with
  | zero => intro L L' a a' h; cases h; omega
  | succ f ih =>
    intro L L' a a' h
    simp only [rowP] at h
    split at h
    · split at h
      · cases h
      · rename_i r hr
        have e1 := nextP_adv (x := r.1) (a' := r.2) hr
        split at h
        · cases h
        · rename_i q hq
          have e2 := oneP_adv (r := q.1) (a' := q.2) hq
          split at h
          · have := ih h; omega
          · cases h
    · cases h; omega
theorem firstP_adv {s : ByteArray} : ∀ (m : Nat) {i : Nat} {L L' : List Nat} {a a' : Nat}, firstP s m i L a = .ok (L', a') → a ≤ a' := by
  intro m
  induction m with
  | zero => intro i L L' a a' h; cases h; omega
  | succ m ih =>
    intro i L L' a a' h
    simp only [firstP] at h
    split at h
    · cases h
    · rename_i r hr
      have e1 := takeP_adv (v := r.1) (a' := r.2) hr
      have := ih h
      omega
/-- What tables that are right give. -/
theorem tablesP_ok {s : ByteArray} {a a' : Nat} {A B : List Nat} (h : tablesP s a = .ok ((A, B), a')) : a ≤ a' ∧ A.length ≤ 286 ∧ B.length ≤ 30 ∧ ∀ x ∈ A ++ B, x ≤ 15 := by
  obtain ⟨⟨n, a1⟩, h1, h⟩ := bind_ok h
  obtain ⟨⟨m, a2⟩, h2, h⟩ := bind_ok h
  obtain ⟨⟨k, a3⟩, h3, h⟩ := bind_ok h
  have e1 := takeP_adv h1
  have e2 := takeP_adv h2
  have e3 := takeP_adv h3
  simp only at e2 e3 h
  unfold tabFirst at h
  split at h
  · rename_i hnm
    obtain ⟨⟨L, a4⟩, h4, h⟩ := bind_ok h
    have e4 := firstP_adv _ h4
    unfold tabRow at h
    split at h
    · obtain ⟨⟨L', a5⟩, h5, h⟩ := bind_ok h
      have e5 := rowP_adv _ h5
      obtain ⟨hl, h15⟩ := rowP_ok _ _ _ _ _ (by simp) (by simp) (by simp) h5
      unfold tabEnd at h
      split at h
      · split at h
        · cases h
          dsimp only at *
          refine ⟨by omega, by rw [List.length_take]; omega, by rw [List.length_drop]; omega, ?_⟩
          rw [List.take_append_drop]; exact h15
        · cases h
      · cases h
    · cases h
  · cases h
theorem kindP_adv {s : ByteArray} {most F k : Nat} {out out' : List Nat} {a a' : Nat} (h : kindP s most F out (k, a) = .ok (out', a')) : a ≤ a' := by
  unfold kindP at h
  split at h
  · exact storeP_adv h
  · split at h
    · exact symsP_adv _ h
    · split at h
      · obtain ⟨⟨⟨A, B⟩, a1⟩, h1, h2⟩ := bind_ok h
        have := (tablesP_ok h1).1
        have := symsP_adv _ (show symsP (ints A) (ints B) s most F out a1 = .ok (out', a') from h2)
        simp only at *
        omega
      · cases h
theorem takeP_to {s : ByteArray} {a n v a' : Nat} (h : takeP s a n = .ok (v, a')) : a' = a + n := by
  unfold takeP at h
  split at h
  · cases h; rfl
  · cases h
theorem fix_lens : fixA.length = 288 ∧ fixB.length = 32 := by
  have hL4 : (fixP 4).length = 288 := by
    unfold fixP fixRows
    simp only [List.take_succ_cons, List.take_nil, List.flatMap_cons, List.flatMap_nil, List.length_append, List.length_replicate, List.length_nil]
  exact ⟨by unfold fixA; rw [length_ints, hL4], by unfold fixB; rw [length_ints]; simp⟩
theorem fixP_le (x : Nat) (h : x ∈ fixP 4) : x ≤ 9 := by
  unfold fixP fixRows at h
  simp only [List.take_succ_cons, List.take_nil, List.flatMap_cons, List.flatMap_nil, List.mem_append, List.mem_replicate, List.not_mem_nil, or_false] at h
  omega
end Go.Proofs.YtdehkaknbmbieaaGreat
namespace Go.Proofs.YtdehkaknbmbieaaGreat
set_option linter.unusedVariables false
set_option linter.unusedSimpArgs false
set_option linter.unusedSectionVars false
set_option linter.unusedVariables false
set_option linter.unusedSimpArgs false

/-- Bits stand at a place. -/
structure StandsAt (T : List Bool) (a : Nat) (M : List Bool) : Prop where
  eq : (T.drop a).take M.length = M
  le : a + M.length ≤ T.length
theorem StandsAt.cut {T M : List Bool} {a : Nat} (h : StandsAt T a M) : T = T.take a ++ M ++ T.drop (a + M.length) ∧ (T.take a).length = a := by
  have hl := h.le
  have h1 : T = T.take a ++ T.drop a := (List.take_append_drop a T).symm
  have h2 : T.drop a = M ++ T.drop (a + M.length) := by
    conv => lhs; rw [← List.take_append_drop M.length (T.drop a), h.eq, List.drop_drop]
  refine ⟨?_, by rw [List.length_take]; omega⟩
  rw [List.append_assoc, ← h2]
  exact h1
theorem StandsAt.mk' (A M B : List Bool) : StandsAt (A ++ M ++ B) A.length M :=
  ⟨by rw [List.append_assoc, List.drop_left, List.take_append_of_le_length (Nat.le_refl _), List.take_length], by simp⟩
theorem StandsAt.app {T M N : List Bool} {a : Nat} (h : StandsAt T a (M ++ N)) : StandsAt T a M ∧ StandsAt T (a + M.length) N := by
  obtain ⟨h1, h2⟩ := h.cut
  have hl := h.le
  rw [List.length_append] at hl
  constructor
  · have := StandsAt.mk' (T.take a) M (N ++ T.drop (a + (M ++ N).length))
    rw [h2] at this
    rwa [← List.append_assoc, List.append_assoc (T.take a) M N, ← h1] at this
  · have := StandsAt.mk' (T.take a ++ M) N (T.drop (a + (M ++ N).length))
    have e : (T.take a ++ M).length = a + M.length := by rw [List.length_append, h2]
    rw [e] at this
    rwa [List.append_assoc (T.take a) M N, ← h1] at this
/-- The bytes of bits. -/
def packS (T : List Bool) : ByteArray := strOf (pack T)
theorem take_at {T : List Bool} {a n v : Nat} (h : StandsAt T a (low n v)) (hv : v < 2 ^ n) : takeP (packS T) a n = .ok (v, a + n) := by
  obtain ⟨h1, h2⟩ := h.cut
  have hl := h.le
  rw [length_low] at hl
  unfold takeP packS
  rw [if_pos (by rw [size_pack]; omega)]
  have := rdVal_mid (T.take a) (low n v) (T.drop (a + (low n v).length)) n 0 (by rw [length_low]; omega)
  rw [← h1, h2, Nat.add_zero, List.drop_zero, List.take_of_length_le (by rw [length_low]; exact Nat.le_refl _), val_low, Nat.mod_eq_of_lt hv] at this
  rw [this]
/-- Lengths by which symbols can be read. -/
structure CodeOk (n : List Nat) : Prop where
  not3 : kindOf (ints n) ≠ 3
  not0 : kindOf (ints n) ≠ 0
theorem natsB (l : List Nat) : nats (ints l) = l := by
  unfold nats ints
  rw [List.map_map]
  have : (Int.toNat ∘ fun x : Nat => (x : Int)) = id := by funext x; simp
  rw [this, List.map_id]
theorem next_at {T : List Bool} {a S : Nat} {n : List Nat} (hc : CodeOk n) (h0 : n.getD S 0 ≠ 0) (h : StandsAt T a (symBits n S)) : nextP (ints n) (packS T) a = .ok (S, a + (symBits n S).length) := by
  obtain ⟨hok, hps⟩ := kindOf_ok hc.not3
  have h15 := nats_le hok
  rw [natsB] at hps h15
  have hS : S < n.length := by
    rcases Nat.lt_or_ge S n.length with h | h
    · exact h
    · rw [List.getD_eq_getElem?_getD, List.getElem?_eq_none h] at h0
      exact absurd rfl h0
  obtain ⟨h1, h2⟩ := h.cut
  have hn := nxt_back n (T.take a) (T.drop (a + (symBits n S).length)) S hps h15 hS h0
  rw [← h1, List.length_append, h2] at hn
  unfold nextP packS
  rw [if_neg (by rintro (h | h); exact hc.not3 h; exact hc.not0 h), natsB, hn]
theorem qcopy_eq (s : List Nat) (far : Nat) : ∀ k, qcopyN far k s = copyN s far k
  | 0 => rfl
  | k + 1 => by rw [copyN_snoc, copyN_succ, qcopy_eq s far k]
theorem longN_tab : ∀ L : Fin 259, 3 ≤ L.val → longN ((257 + (findL L.val 29 0).getD 0 : Nat) : Int) ((L.val - lAt.getD ((findL L.val 29 0).getD 0) 0 : Nat) : Int) = some L.val ∧ L.val - lAt.getD ((findL L.val 29 0).getD 0) 0 < 2 ^ lBits.getD ((findL L.val 29 0).getD 0) 0 := by decide +kernel
theorem longB_tab : ∀ c : Fin 29, longB ((257 + c.val : Nat) : Int) = ((lBits.getD c.val 0 : Nat) : Int) := by decide +kernel
theorem backB_tab : ∀ c : Fin 30, backB ((c.val : Nat) : Int) = ((dBt c.val : Nat) : Int) := by decide +kernel
theorem findD_is {n : Nat} : ∀ (m i z : Nat), findD n m i = some z → isD n z ∧ i ≤ z ∧ z < i + m
  | 0, i, z, h => by cases h
  | m + 1, i, z, h => by
    rw [findD_succ] at h
    split at h
    · rename_i hi
      cases h
      exact ⟨hi, by omega, by omega⟩
    · obtain ⟨h1, h2, h3⟩ := findD_is m (i + 1) z h
      exact ⟨h1, by omega, by omega⟩
theorem numS_tab {K z : Nat} (h : findD K 30 0 = some z) : numS 1 2 4 30 ((z : Nat) : Int) ((K - dAt.getD z 0 : Nat) : Int) = some K ∧ K - dAt.getD z 0 < 2 ^ dBt z := by
  obtain ⟨h1, _, h3⟩ := findD_is 30 0 z h
  obtain ⟨t1, t2, t3⟩ := back_tab ⟨z, by omega⟩
  dsimp only at t1 t2 t3
  unfold isD at h1
  have hlt : K - dAt.getD z 0 < 2 ^ dBt z := by rw [← t1]; omega
  refine ⟨?_, hlt⟩
  have hb := backB_tab ⟨z, by omega⟩
  dsimp only at hb
  have hb2 : sbitsI 2 4 30 ((z : Nat) : Int) = ((dBt z : Nat) : Int) := hb
  have hneg : ¬ (((dBt z : Nat) : Int) = -1 ∨ ((K - dAt.getD z 0 : Nat) : Int) < 0 ∨ (2 : Int) ^ ((dBt z : Nat) : Int).toNat ≤ ((K - dAt.getD z 0 : Nat) : Int)) := by
    rintro (h | h | h)
    · omega
    · omega
    · rw [Int.toNat_natCast] at h
      have e2 : ((2 : Int) ^ dBt z) = ((2 ^ dBt z : Nat) : Int) := by simp
      obtain ⟨p, hp⟩ : ∃ p, 2 ^ dBt z = p := ⟨_, rfl⟩
      rw [hp] at hlt e2
      rw [e2] at h
      omega
  unfold numS
  rw [hb2, if_neg hneg]
  simp only [Int.toNat_natCast]
  rw [t2]
  congr 1
  omega
theorem take_bind {α : Type} {s : ByteArray} {a n v : Nat} (h : takeP s a n = .ok (v, a + n)) (f : Nat × Nat → Except Nat α) : (takeP s a n >>= f) = f (v, a + n) := by rw [h]; rfl
theorem expTo_len : ∀ (l : List Tok) (s r : List Nat), expTo l s = some r → s.length ≤ r.length
  | [], s, r, h => by have : s = r := by simpa [expTo] using h
                      rw [this]; exact Nat.le_refl _
  | t :: l, s, r, h => by
    rw [expTo_cons] at h
    split at h
    · split at h
      · cases h
      · have := expTo_len l _ r h
        rw [List.length_append] at this
        omega
    · split at h
      · cases h
      · have := expTo_len l _ r h
        rw [copyN_len] at this
        omega
theorem litC_lt9 {t : Tok} (h : okTok t) (h0 : ¬ t.long = 0) : (findL t.long.toNat 29 0).getD 0 < 29 := by
  unfold okTok at h
  have := findL_lt ⟨t.long.toNat, by omega⟩ (show 3 ≤ t.long.toNat by omega)
  dsimp only at this
  cases e : findL t.long.toNat 29 0 with
  | none => simp
  | some r => rw [e] at this; simp at this; simpa using this
/-- Tokens' bits are read as what they make. -/
theorem syms_back (na nb : List Nat) (ca : CodeOk na) (most : Nat) (T : List Bool) : ∀ (l : List Tok) (out r : List Nat) (a g : Nat), (∀ t ∈ l, okTok t) → Coded na nb l → ((∃ t ∈ l, t.long ≠ 0) → CodeOk nb) → expTo l out = some r → r.length ≤ most → l.length < g →
    StandsAt T a (symsB na nb l) → symsP (ints na) (ints nb) (packS T) most g out a = .ok (r, a + (symsB na nb l).length)
  | [], out, r, a, g + 1, _, hc, _, he, _, _, hs => by
    have he2 : out = r := by simpa [expTo] using he
    subst he2
    have h := next_at ca hc.fin hs
    show (nextP (ints na) (packS T) a >>= _) = _
    rw [h]
    rfl
  | t :: l, out, r, a, g + 1, hok, hc, hcb, he, hm, hg, hs => by
    have ht := hok t List.mem_cons_self
    have hok2 : ∀ u ∈ l, okTok u := fun u hu => hok u (List.mem_cons_of_mem _ hu)
    have hc2 : Coded na nb l := ⟨hc.fin, fun u hu => hc.lit u (List.mem_cons_of_mem _ hu), fun u hu => hc.bak u (List.mem_cons_of_mem _ hu)⟩
    have hcb2 : (∃ u ∈ l, u.long ≠ 0) → CodeOk nb := fun ⟨u, hu, h⟩ => hcb ⟨u, List.mem_cons_of_mem _ hu, h⟩
    obtain ⟨hs1, hs2⟩ := StandsAt.app (M := tokB na nb t) (N := symsB na nb l) hs
    have hle : r.length ≤ most := hm
    have hlen : (symsB na nb (t :: l)).length = (tokB na nb t).length + (symsB na nb l).length := List.length_append
    rw [expTo_cons] at he
    have hgrow := expTo_len l
    show (nextP (ints na) (packS T) a >>= _) = _
    by_cases h0 : t.long = 0
    · rw [if_pos h0] at he
      split at he
      · cases he
      · have htb : tokB na nb t = symBits na t.byte := by unfold tokB; rw [if_pos h0]
        have hlc : litC t = t.byte := by unfold litC; rw [if_pos h0]
        have hcl := hc.lit t List.mem_cons_self
        rw [hlc] at hcl
        rw [htb] at hs1 hs2 hlen
        have h := next_at ca hcl hs1
        have hb : t.byte < 256 := by unfold okTok at ht; omega
        have ih := syms_back na nb ca most T l (out ++ [t.byte]) r (a + (symBits na t.byte).length) g hok2 hc2 hcb2 he hm (by simp at hg; omega) hs2
        have hro := hgrow _ _ he
        rw [h]
        show symStep (ints nb) (packS T) most (symsP (ints na) (ints nb) (packS T) most g) out (t.byte, a + (symBits na t.byte).length) = _
        unfold symStep
        dsimp only
        rw [if_neg (by omega), if_pos hb, if_pos (by rw [List.length_append] at hro; simp at hro; omega), ih, hlen, Nat.add_assoc]
    · rw [if_neg h0] at he
      split at he
      · cases he
      · rename_i hbad
        have h3 : 3 ≤ t.long ∧ t.long ≤ 258 ∧ 1 ≤ t.back ∧ t.back ≤ 32768 := by unfold okTok at ht; omega
        have hfar : t.back.toNat ≤ out.length := by unfold badCopy at hbad; omega
        have CB := hcb ⟨t, List.mem_cons_self, h0⟩
        have hl := longN_tab ⟨t.long.toNat, by omega⟩ (by show 3 ≤ t.long.toNat; omega)
        dsimp only at hl
        obtain ⟨z, hz, hz30⟩ := findD_some t.back.toNat (by omega) (by omega)
        have hn := numS_tab hz
        have hlc : litC t = 257 + (findL t.long.toNat 29 0).getD 0 := by unfold litC; rw [if_neg h0]
        have hbc : bakC t = z := by unfold bakC; rw [hz]; rfl
        have hcl := hc.lit t List.mem_cons_self
        have hcbk := hc.bak t List.mem_cons_self h0
        have hr29 : (findL t.long.toNat 29 0).getD 0 < 29 := litC_lt9 ht h0
        have hlb := longB_tab ⟨_, hr29⟩
        have hbb := backB_tab ⟨z, hz30⟩
        dsimp only at hlb hbb
        have htb : tokB na nb t = symBits na (litC t) ++ (low (lBits.getD ((findL t.long.toNat 29 0).getD 0) 0) (t.long.toNat - lAt.getD ((findL t.long.toNat 29 0).getD 0) 0) ++ (symBits nb (bakC t) ++ low (dBt (bakC t)) (t.back.toNat - dAt.getD (bakC t) 0))) := by unfold tokB; rw [if_neg h0]
        rw [hlc, hbc] at htb
        rw [hlc] at hcl
        rw [hbc] at hcbk
        generalize (findL t.long.toNat 29 0).getD 0 = q at *
        rw [htb] at hs1 hs2 hlen
        obtain ⟨k1, k2⟩ := hs1.app
        obtain ⟨k3, k4⟩ := k2.app
        obtain ⟨k5, k6⟩ := k4.app
        have e1 := next_at ca hcl k1
        have e2 := take_at k3 hl.2
        have e3 := next_at CB hcbk k5
        have e4 := take_at k6 hn.2
        rw [length_low] at e3 e4 k5 k6
        simp only [List.length_append, length_low] at hs2 hlen
        have ih := syms_back na nb ca most T l _ r _ g hok2 hc2 hcb2 he hm (by simp at hg; omega) hs2
        have hro := hgrow _ _ he
        rw [copyN_len] at hro
        rw [e1]
        show symStep (ints nb) (packS T) most (symsP (ints na) (ints nb) (packS T) most g) out (257 + q, a + (symBits na (257 + q)).length) = _
        unfold symStep
        dsimp only
        rw [if_neg (by omega), if_neg (by omega)]
        have hcp : copyP (ints nb) (packS T) most (257 + q) out (a + (symBits na (257 + q)).length) = .ok (copyN out t.back.toNat t.long.toNat, a + ((symBits na (257 + q)).length + (lBits.getD q 0 + ((symBits nb z).length + dBt z)))) := by
          unfold copyP
          rw [hlb, if_neg (by omega), Int.toNat_natCast, take_bind e2]
          unfold copyLong
          dsimp only
          rw [hl.1]
          dsimp only
          rw [e3]
          show copyBack (packS T) most t.long.toNat out (z, a + (symBits na (257 + q)).length + lBits.getD q 0 + (symBits nb z).length) = _
          unfold copyBack
          dsimp only
          rw [hbb, if_neg (by omega), Int.toNat_natCast, take_bind e4]
          unfold copyEnd
          dsimp only
          rw [hn.1]
          dsimp only
          rw [if_pos hfar, if_pos (by omega), qcopy_eq]
          simp only [Nat.add_assoc]
        rw [hcp]
        show symsP (ints na) (ints nb) (packS T) most g (copyN out t.back.toNat t.long.toNat) _ = _
        rw [ih, hlen]
        simp only [Nat.add_assoc]
end Go.Proofs.YtdehkaknbmbieaaGreat
namespace Go.Proofs.YtdehkaknbmbieaaGreat
set_option linter.unusedVariables false
set_option linter.unusedSimpArgs false
set_option linter.unusedSectionVars false
open Go.RowKit

/-- A text is read. -/
theorem read_text {A F : List Bool} {T : ByteArray} (h : alignL A ++ textBits (bytesOf T) <+: F) : txBad (strOf (pack F)) A.length false (T.size : Int) = false ∧ txStr (strOf (pack F)) A.length false (T.size : Int) = T ∧ txTo (strOf (pack F)) A.length false (T.size : Int) = (alignL A ++ textBits (bytesOf T)).length := by
  obtain ⟨B, hB⟩ := h
  have hal := length_alignL A
  have hlT : (bytesOf T).length = T.size := length_bytesOf T
  have hl : 8 * ((A.length + 7) / 8) + 8 * T.size ≤ F.length := by rw [← hB, List.length_append, List.length_append, hal, length_textBits, hlT]; omega
  have hbad : txBad (strOf (pack F)) A.length false (T.size : Int) = false := by
    unfold txBad
    rw [size_pack, decide_eq_false (by omega), decide_eq_false (by omega)]
    rfl
  refine ⟨hbad, ?_, ?_⟩
  · unfold txStr
    rw [hbad, if_neg (by simp), Int.toNat_natCast]
    obtain ⟨q, hq⟩ : ∃ q, (A.length + 7) / 8 = q := ⟨_, rfl⟩
    rw [hq] at hal hl ⊢
    have h1 : outs F (q + T.size) = outs (alignL A) q ++ bytesOf T := by
      rw [← hB, outs_append _ _ _ (by rw [List.length_append, hal, length_textBits, hlT]; omega), ← hlT]
      exact outs_text (alignL A) q hal (bytesOf T) (fun x hx => by
        unfold bytesOf at hx; obtain ⟨c, _, rfl⟩ := List.mem_map.1 hx; exact c.toNat_lt)
    have h2 : pack F = outs F (q + T.size) ++ (pack F).drop (q + T.size) := by
      conv => lhs; rw [← List.take_append_drop (q + T.size) (pack F)]
      congr 1
      unfold pack outs
      rw [← List.map_take, List.take_range, Nat.min_eq_left (by omega)]
    have h3 : pack F = outs (alignL A) q ++ (bytesOf T ++ (pack F).drop (q + T.size)) := by rw [← List.append_assoc, ← h1]; exact h2
    have ho : (outs (alignL A) q).length = q := length_outs _ _
    apply ByteArray.ext
    apply Array.ext'
    rw [ByteArray.data_extract, Array.toList_extract]
    show List.extract (strOf (pack F)).data.toList q (q + T.size) = T.data.toList
    have h4 : (strOf (pack F)).data.toList = (pack F).map UInt8.ofNat := by simp [strOf]
    rw [h4, h3, List.extract_eq_take_drop, List.map_append, List.drop_left' (by rw [List.length_map, ho]), List.map_append, List.take_left' (by rw [List.length_map, hlT]; omega)]
    have h5 := congrArg (fun s : ByteArray => s.data.toList) (strOf_bytesOf T)
    simpa [strOf] using h5
  · unfold txTo
    rw [hbad, if_neg (by simp), Int.toNat_natCast, List.length_append, hal, length_textBits, hlT]
end Go.Proofs.YtdehkaknbmbieaaGreat
namespace Go.Proofs.YtdehkaknbmbieaaGreat
set_option linter.unusedVariables false
set_option linter.unusedSimpArgs false
set_option linter.unusedSectionVars false
open Go.RowKit
set_option linter.unusedVariables false

def ofNext (k : List Nat → Nat → Except Nat (List Nat × Nat)) (r : (Bool × List Nat) × Nat) : Except Nat (List Nat × Nat) := if r.1.1 = true then .ok (r.1.2, r.2) else k r.1.2 r.2
def ofLoop (s : ByteArray) (most F : Nat) : Nat → List Nat → Nat → Except Nat (List Nat × Nat)
  | 0, _, _ => .error 0
  | g + 1, out, a => blockP s most F out a >>= ofNext (ofLoop s most F g)
def capI (most : Int) : Nat := (max 0 (min most 65000)).toNat
def ofP (s : ByteArray) (most : Int) : Except Nat (List Nat × Nat) := ofLoop s (capI most) (8 * s.size + 1) (8 * s.size + 1) [] 0
def ofVal : Except Nat (List Nat × Nat) → Value
  | .ok (out, a) => .tuple #[.string (strOf out), .int .i64 ((a + 7) / 8 : Nat), .int .i64 0]
  | .error c => .tuple #[.string ⟨#[]⟩, .int .i64 0, .int .i64 (c : Nat)]

/-- From the loop's start on: nothing that was there ahead of the call turned. -/
theorem of_upd {w w3 w' : World} {bw x b : Nat} {v0 : Value} (hbw : bw = w.heap.size) (h0 : Upd [] w w3) (h : Upd (stFp x b v0) w3 w') (hfp : ∀ k ∈ stFp x b v0, bw < k) : Upd [] w w' :=
  h0.trans h fun k hk => .inr (by have := hfp k hk; omega)
end Go.Proofs.YtdehkaknbmbieaaGreat

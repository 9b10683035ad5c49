/- The bits of tokens, as a block lays them (plain); a Writer's state. -/
import Derived.Test.YtdehkaknbmbieaaGreatQAU
import Derived.Test.YtdehkaknbmbieaaGreatQAX
import Derived.Test.YtdehkaknbmbieaaGreatQAW
import Derived.Test.YtdehkaknbmbieaaGreatQAR
import Derived.Lib.MinMax
import Derived.Test.YtdehkaknbmbieaaGreatQAN
namespace Go.Proofs.YtdehkaknbmbieaaGreat
set_option linter.unusedVariables false
set_option linter.unusedSimpArgs false
set_option linter.unusedSectionVars false
open Go.RowKit
set_option linter.unusedVariables false
set_option linter.unusedSimpArgs false

/-- The bits of a token, of tokens and the end. -/
def tokB (na nb : List Nat) (t : Tok) : List Bool :=
  if t.long = 0 then symBits na t.byte
  else symBits na (litC t) ++ (low (lBits.getD ((findL t.long.toNat 29 0).getD 0) 0) (t.long.toNat - lAt.getD ((findL t.long.toNat 29 0).getD 0) 0) ++ (symBits nb (bakC t) ++ low (dBt (bakC t)) (t.back.toNat - dAt.getD (bakC t) 0)))
def symsB (na nb : List Nat) : List Tok → List Bool
  | [] => symBits na 256
  | t :: r => tokB na nb t ++ symsB na nb r
/-- All symbols of tokens have a code. -/
structure Coded (na nb : List Nat) (l : List Tok) : Prop where
  fin : na.getD 256 0 ≠ 0
  lit : ∀ t ∈ l, na.getD (litC t) 0 ≠ 0
  bak : ∀ t ∈ l, t.long ≠ 0 → nb.getD (bakC t) 0 ≠ 0
/-- A Writer's state since w0. -/
structure WS (w0 : World) (b : Nat) (v0 : Value) (w : World) (v : Value) (L : List Bool) : Prop where
  at_ : WrAt w b v L (L.length / 8)
  upd : Upd (wrFp b v0) w0 w
  later : Later w0 v0 v
theorem WS.fp {w0 w w' : World} {b : Nat} {v0 v : Value} {L : List Bool} (h : WS w0 b v0 w v L) (hU : Upd (wrFp b v) w w') : Upd (wrFp b v0) w0 w' :=
  h.upd.trans hU (fun k hk => by
    rcases List.mem_cons.1 hk with rfl | hk
    · exact .inl List.mem_cons_self
    · rcases h.later.fp k hk with h1 | h1
      · exact .inl (List.mem_cons_of_mem _ h1)
      · exact .inr h1)
theorem WS.refl {w : World} {b : Nat} {v : Value} {L : List Bool} (h : WrAt w b v L (L.length / 8)) : WS w b v w v L := ⟨h, Upd.refl _ _, Later.refl _ _⟩
theorem WS.pure {w0 w w' : World} {b : Nat} {v0 v : Value} {L : List Bool} (h : WS w0 b v0 w v L) (hU : Upd [] w w') : WS w0 b v0 w' v L :=
  ⟨h.at_.upd hU (by simp) (by simp), h.upd.trans hU (by simp), h.later⟩
theorem WS.step {w0 w w' : World} {b : Nat} {v0 v v' : Value} {L L' : List Bool} (h : WS w0 b v0 w v L) (hW : WrAt w' b v' L' (L'.length / 8)) (hU : Upd (wrFp b v) w w') (hT : Later w v v') : WS w0 b v0 w' v' L' :=
  ⟨hW, h.fp hU, h.later.trans h.upd.size hT⟩
theorem nats_intsT (l : List Nat) : nats (ints l) = l := by
  unfold nats ints
  rw [List.map_map]
  have : (Int.toNat ∘ fun x : Nat => (x : Int)) = id := by funext x; simp
  rw [this, List.map_id]
def WPost (w : World) (b : Nat) (v : Value) (L : List Bool) (e : Ending) (w' : World) : Prop := e = .returned (.bool true) ∧ ∃ v', WrAt w' b v' L (L.length / 8) ∧ Upd (wrFp b v) w w' ∧ Later w v v'
/-- One symbol, in a new slice. -/
theorem wsym_new (b nx cx S : Nat) (v : Value) (L : List Bool) (x : Option Addr) (na : List Nat) (w : World) (hX : ∀ w', Upd (wrFp b v) w w' → IntsIn w' x nx (ints na)) (hW : WrAt w b v L (L.length / 8)) (hL : L.length ≤ 1000000000000)
    (hk3 : kindOf (ints na) ≠ 3) (h0 : na.getD S 0 ≠ 0) :
    Calls Tryz.prog 46 #[.pointer (some ⟨b, 0, none⟩), .slice x nx cx, .slice (some ⟨w.heap.size, 0, none⟩) 1 1] (w.alloc (.cells #[.int .i64 (S : Nat)] 3)) (WPost w b v (L ++ symBits na S)) := by
  have hlen : nx = (ints na).length := (hX w (Upd.refl _ _)).len.symm
  subst hlen
  have hUa : Upd [] w (w.alloc (.cells #[.int .i64 (S : Nat)] 3)) := (Upd.refl [] w).alloc _
  have hWa := hW.upd hUa (by simp) (by simp)
  have hB := Blk.new w [.int .i64 (S : Nat)] 3
  have hS : S < na.length := by
    rcases Nat.lt_or_ge S na.length with h | h
    · exact h
    · rw [List.getD_eq_getElem?_getD, List.getElem?_eq_none h] at h0
      exact absurd rfl h0
  have hS64 : (S : Int) ≤ 9223372036854775807 := by
    have h1 := (okLens_spec (kindOf_ok hk3).1).1
    simp [ints] at h1
    omega
  have hne : w.heap.size ∉ wrFp b v := fun hm => by
    rcases List.mem_cons.1 hm with h | h
    · have := hW.blk.lt; omega
    · have := hW.row.lt w.heap.size (by simpa using h); omega
  have h := write_any b v L x (some ⟨w.heap.size, 0, none⟩) cx 1 (ints na) [(S : Int)] (w.alloc (.cells #[.int .i64 (S : Nat)] 3)) (by simp)
    (fun w' hU => hX w' ((hUa.mono (by simp)).then hU)) (fun w' hU => IntsIn.of_blk (l := [(S : Int)]) (hB.upd hU hne) (fun y hy => by rw [List.mem_singleton] at hy; rw [hy]; omega)) hWa hL hk3
    (by
      rw [nats_intsT]
      simp only [mayAll, List.all_cons, List.all_nil, Bool.and_true, mayB, Int.toNat_natCast]
      simp only [Bool.and_eq_true, decide_eq_true_eq]
      exact ⟨⟨by omega, by omega⟩, h0⟩)
  refine h.mono (fun e w' h2 => ?_)
  obtain ⟨he, v', h3, h4, h5⟩ := h2
  rw [nats_intsT] at h3
  have e2 : msgBits na [(S : Int)] = symBits na S := by simp [msgBits]
  rw [e2] at h3
  exact ⟨he, v', h3, (hUa.mono (by simp)).then h4, by
    rcases h5 with h5 | ⟨g, h6, h7⟩
    · exact .inl h5
    · exact .inr ⟨g, h6, Nat.le_trans hUa.size h7⟩⟩
end Go.Proofs.YtdehkaknbmbieaaGreat
namespace Go.Proofs.YtdehkaknbmbieaaGreat
set_option linter.unusedVariables false
set_option linter.unusedSimpArgs false
set_option linter.unusedSectionVars false
set_option linter.unusedVariables false
set_option linter.unusedSimpArgs false

/-- Bits stand at a place. -/
structure StandsAt (T : List Bool) (a : Nat) (M : List Bool) : Prop where
  eq : (T.drop a).take M.length = M
  le : a + M.length ≤ T.length
theorem StandsAt.cut {T M : List Bool} {a : Nat} (h : StandsAt T a M) : T = T.take a ++ M ++ T.drop (a + M.length) ∧ (T.take a).length = a := by
  have hl := h.le
  have h1 : T = T.take a ++ T.drop a := (List.take_append_drop a T).symm
  have h2 : T.drop a = M ++ T.drop (a + M.length) := by
    conv => lhs; rw [← List.take_append_drop M.length (T.drop a), h.eq, List.drop_drop]
  refine ⟨?_, by rw [List.length_take]; omega⟩
  rw [List.append_assoc, ← h2]
  exact h1
theorem StandsAt.mk' (A M B : List Bool) : StandsAt (A ++ M ++ B) A.length M :=
  ⟨by rw [List.append_assoc, List.drop_left, List.take_append_of_le_length (Nat.le_refl _), List.take_length], by simp⟩
theorem StandsAt.app {T M N : List Bool} {a : Nat} (h : StandsAt T a (M ++ N)) : StandsAt T a M ∧ StandsAt T (a + M.length) N := by
  obtain ⟨h1, h2⟩ := h.cut
  have hl := h.le
  rw [List.length_append] at hl
  constructor
  · have := StandsAt.mk' (T.take a) M (N ++ T.drop (a + (M ++ N).length))
    rw [h2] at this
    rwa [← List.append_assoc, List.append_assoc (T.take a) M N, ← h1] at this
  · have := StandsAt.mk' (T.take a ++ M) N (T.drop (a + (M ++ N).length))
    have e : (T.take a ++ M).length = a + M.length := by rw [List.length_append, h2]
    rw [e] at this
    rwa [List.append_assoc (T.take a) M N, ← h1] at this
/-- The bytes of bits. -/
def packS (T : List Bool) : ByteArray := strOf (pack T)
theorem take_at {T : List Bool} {a n v : Nat} (h : StandsAt T a (low n v)) (hv : v < 2 ^ n) : takeP (packS T) a n = .ok (v, a + n) := by
  obtain ⟨h1, h2⟩ := h.cut
  have hl := h.le
  rw [length_low] at hl
  unfold takeP packS
  rw [if_pos (by rw [size_pack]; omega)]
  have := rdVal_mid (T.take a) (low n v) (T.drop (a + (low n v).length)) n 0 (by rw [length_low]; omega)
  rw [← h1, h2, Nat.add_zero, List.drop_zero, List.take_of_length_le (by rw [length_low]; exact Nat.le_refl _), val_low, Nat.mod_eq_of_lt hv] at this
  rw [this]
/-- Lengths by which symbols can be read. -/
structure CodeOk (n : List Nat) : Prop where
  not3 : kindOf (ints n) ≠ 3
  not0 : kindOf (ints n) ≠ 0
theorem natsB (l : List Nat) : nats (ints l) = l := by
  unfold nats ints
  rw [List.map_map]
  have : (Int.toNat ∘ fun x : Nat => (x : Int)) = id := by funext x; simp
  rw [this, List.map_id]
theorem next_at {T : List Bool} {a S : Nat} {n : List Nat} (hc : CodeOk n) (h0 : n.getD S 0 ≠ 0) (h : StandsAt T a (symBits n S)) : nextP (ints n) (packS T) a = .ok (S, a + (symBits n S).length) := by
  obtain ⟨hok, hps⟩ := kindOf_ok hc.not3
  have h15 := nats_le hok
  rw [natsB] at hps h15
  have hS : S < n.length := by
    rcases Nat.lt_or_ge S n.length with h | h
    · exact h
    · rw [List.getD_eq_getElem?_getD, List.getElem?_eq_none h] at h0
      exact absurd rfl h0
  obtain ⟨h1, h2⟩ := h.cut
  have hn := nxt_back n (T.take a) (T.drop (a + (symBits n S).length)) S hps h15 hS h0
  rw [← h1, List.length_append, h2] at hn
  unfold nextP packS
  rw [if_neg (by rintro (h | h); exact hc.not3 h; exact hc.not0 h), natsB, hn]
theorem qcopy_eq (s : List Nat) (far : Nat) : ∀ k, qcopyN far k s = copyN s far k
  | 0 => rfl
  | k + 1 => by rw [copyN_snoc, copyN_succ, qcopy_eq s far k]
theorem longN_tab : ∀ L : Fin 259, 3 ≤ L.val → longN ((257 + (findL L.val 29 0).getD 0 : Nat) : Int) ((L.val - lAt.getD ((findL L.val 29 0).getD 0) 0 : Nat) : Int) = some L.val ∧ L.val - lAt.getD ((findL L.val 29 0).getD 0) 0 < 2 ^ lBits.getD ((findL L.val 29 0).getD 0) 0 := by decide +kernel
theorem longB_tab : ∀ c : Fin 29, longB ((257 + c.val : Nat) : Int) = ((lBits.getD c.val 0 : Nat) : Int) := by decide +kernel
theorem backB_tab : ∀ c : Fin 30, backB ((c.val : Nat) : Int) = ((dBt c.val : Nat) : Int) := by decide +kernel
theorem findD_is {n : Nat} : ∀ (m i z : Nat), findD n m i = some z → isD n z ∧ i ≤ z ∧ z < i + m
  | 0, i, z, h => by cases h
  | m + 1, i, z, h => by
    rw [findD_succ] at h
    split at h
    · rename_i hi
      cases h
      exact ⟨hi, by omega, by omega⟩
    · obtain ⟨h1, h2, h3⟩ := findD_is m (i + 1) z h
      exact ⟨h1, by omega, by omega⟩
theorem numS_tab {K z : Nat} (h : findD K 30 0 = some z) : numS 1 2 4 30 ((z : Nat) : Int) ((K - dAt.getD z 0 : Nat) : Int) = some K ∧ K - dAt.getD z 0 < 2 ^ dBt z := by
  obtain ⟨h1, _, h3⟩ := findD_is 30 0 z h
  obtain ⟨t1, t2, t3⟩ := back_tab ⟨z, by omega⟩
  dsimp only at t1 t2 t3
  unfold isD at h1
  have hlt : K - dAt.getD z 0 < 2 ^ dBt z := by rw [← t1]; omega
  refine ⟨?_, hlt⟩
  have hb := backB_tab ⟨z, by omega⟩
  dsimp only at hb
  have hb2 : sbitsI 2 4 30 ((z : Nat) : Int) = ((dBt z : Nat) : Int) := hb
  have hneg : ¬ (((dBt z : Nat) : Int) = -1 ∨ ((K - dAt.getD z 0 : Nat) : Int) < 0 ∨ (2 : Int) ^ ((dBt z : Nat) : Int).toNat ≤ ((K - dAt.getD z 0 : Nat) : Int)) := by
    rintro (h | h | h)
    · omega
    · omega
    · rw [Int.toNat_natCast] at h
      have e2 : ((2 : Int) ^ dBt z) = ((2 ^ dBt z : Nat) : Int) := by simp
      obtain ⟨p, hp⟩ : ∃ p, 2 ^ dBt z = p := ⟨_, rfl⟩
      rw [hp] at hlt e2
      rw [e2] at h
      omega
  unfold numS
  rw [hb2, if_neg hneg]
  simp only [Int.toNat_natCast]
  rw [t2]
  congr 1
  omega
theorem take_bind {α : Type} {s : ByteArray} {a n v : Nat} (h : takeP s a n = .ok (v, a + n)) (f : Nat × Nat → Except Nat α) : (takeP s a n >>= f) = f (v, a + n) := by rw [h]; rfl
theorem expTo_len : ∀ (l : List Tok) (s r : List Nat), expTo l s = some r → s.length ≤ r.length
  | [], s, r, h => by have : s = r := by simpa [expTo] using h
                      rw [this]; exact Nat.le_refl _
  | t :: l, s, r, h => by
    rw [expTo_cons] at h
    split at h
    · split at h
      · cases h
      · have := expTo_len l _ r h
        rw [List.length_append] at this
        omega
    · split at h
      · cases h
      · have := expTo_len l _ r h
        rw [copyN_len] at this
        omega
theorem litC_lt9 {t : Tok} (h : okTok t) (h0 : ¬ t.long = 0) : (findL t.long.toNat 29 0).getD 0 < 29 := by
  unfold okTok at h
  have := findL_lt ⟨t.long.toNat, by omega⟩ (show 3 ≤ t.long.toNat by omega)
  dsimp only at this
  cases e : findL t.long.toNat 29 0 with
  | none => simp
  | some r => rw [e] at this; simp at this; simpa using this
/-- Tokens' bits are read as what they make. -/
theorem syms_back (na nb : List Nat) (ca : CodeOk na) (most : Nat) (T : List Bool) : ∀ (l : List Tok) (out r : List Nat) (a g : Nat), (∀ t ∈ l, okTok t) → Coded na nb l → ((∃ t ∈ l, t.long ≠ 0) → CodeOk nb) → expTo l out = some r → r.length ≤ most → l.length < g →
    StandsAt T a (symsB na nb l) → symsP (ints na) (ints nb) (packS T) most g out a = .ok (r, a + (symsB na nb l).length)
  | [], out, r, a, g + 1, _, hc, _, he, _, _, hs => by
    have he2 : out = r := by simpa [expTo] using he
    subst he2
    have h := next_at ca hc.fin hs
    show (nextP (ints na) (packS T) a >>= _) = _
    rw [h]
    rfl
  | t :: l, out, r, a, g + 1, hok, hc, hcb, he, hm, hg, hs => by
    have ht := hok t List.mem_cons_self
    have hok2 : ∀ u ∈ l, okTok u := fun u hu => hok u (List.mem_cons_of_mem _ hu)
    have hc2 : Coded na nb l := ⟨hc.fin, fun u hu => hc.lit u (List.mem_cons_of_mem _ hu), fun u hu => hc.bak u (List.mem_cons_of_mem _ hu)⟩
    have hcb2 : (∃ u ∈ l, u.long ≠ 0) → CodeOk nb := fun ⟨u, hu, h⟩ => hcb ⟨u, List.mem_cons_of_mem _ hu, h⟩
    obtain ⟨hs1, hs2⟩ := StandsAt.app (M := tokB na nb t) (N := symsB na nb l) hs
    have hle : r.length ≤ most := hm
    have hlen : (symsB na nb (t :: l)).length = (tokB na nb t).length + (symsB na nb l).length := List.length_append
    rw [expTo_cons] at he
    have hgrow := expTo_len l
    show (nextP (ints na) (packS T) a >>= _) = _
    by_cases h0 : t.long = 0
    · rw [if_pos h0] at he
      split at he
      · cases he
      · have htb : tokB na nb t = symBits na t.byte := by unfold tokB; rw [if_pos h0]
        have hlc : litC t = t.byte := by unfold litC; rw [if_pos h0]
        have hcl := hc.lit t List.mem_cons_self
        rw [hlc] at hcl
        rw [htb] at hs1 hs2 hlen
        have h := next_at ca hcl hs1
        have hb : t.byte < 256 := by unfold okTok at ht; omega
        have ih := syms_back na nb ca most T l (out ++ [t.byte]) r (a + (symBits na t.byte).length) g hok2 hc2 hcb2 he hm (by simp at hg; omega) hs2
        have hro := hgrow _ _ he
        rw [h]
        show symStep (ints nb) (packS T) most (symsP (ints na) (ints nb) (packS T) most g) out (t.byte, a + (symBits na t.byte).length) = _
        unfold symStep
        dsimp only
        rw [if_neg (by omega), if_pos hb, if_pos (by rw [List.length_append] at hro; simp at hro; omega), ih, hlen, Nat.add_assoc]
    · rw [if_neg h0] at he
      split at he
      · cases he
      · rename_i hbad
        have h3 : 3 ≤ t.long ∧ t.long ≤ 258 ∧ 1 ≤ t.back ∧ t.back ≤ 32768 := by unfold okTok at ht; omega
        have hfar : t.back.toNat ≤ out.length := by unfold badCopy at hbad; omega
        have CB := hcb ⟨t, List.mem_cons_self, h0⟩
        have hl := longN_tab ⟨t.long.toNat, by omega⟩ (by show 3 ≤ t.long.toNat; omega)
        dsimp only at hl
        obtain ⟨z, hz, hz30⟩ := findD_some t.back.toNat (by omega) (by omega)
        have hn := numS_tab hz
        have hlc : litC t = 257 + (findL t.long.toNat 29 0).getD 0 := by unfold litC; rw [if_neg h0]
        have hbc : bakC t = z := by unfold bakC; rw [hz]; rfl
        have hcl := hc.lit t List.mem_cons_self
        have hcbk := hc.bak t List.mem_cons_self h0
        have hr29 : (findL t.long.toNat 29 0).getD 0 < 29 := litC_lt9 ht h0
        have hlb := longB_tab ⟨_, hr29⟩
        have hbb := backB_tab ⟨z, hz30⟩
        dsimp only at hlb hbb
        have htb : tokB na nb t = symBits na (litC t) ++ (low (lBits.getD ((findL t.long.toNat 29 0).getD 0) 0) (t.long.toNat - lAt.getD ((findL t.long.toNat 29 0).getD 0) 0) ++ (symBits nb (bakC t) ++ low (dBt (bakC t)) (t.back.toNat - dAt.getD (bakC t) 0))) := by unfold tokB; rw [if_neg h0]
        rw [hlc, hbc] at htb
        rw [hlc] at hcl
        rw [hbc] at hcbk
        generalize (findL t.long.toNat 29 0).getD 0 = q at *
        rw [htb] at hs1 hs2 hlen
        obtain ⟨k1, k2⟩ := hs1.app
        obtain ⟨k3, k4⟩ := k2.app
        obtain ⟨k5, k6⟩ := k4.app
        have e1 := next_at ca hcl k1
        have e2 := take_at k3 hl.2
        have e3 := next_at CB hcbk k5
        have e4 := take_at k6 hn.2
        rw [length_low] at e3 e4 k5 k6
        simp only [List.length_append, length_low] at hs2 hlen
        have ih := syms_back na nb ca most T l _ r _ g hok2 hc2 hcb2 he hm (by simp at hg; omega) hs2
        have hro := hgrow _ _ he
        rw [copyN_len] at hro
        rw [e1]
        show symStep (ints nb) (packS T) most (symsP (ints na) (ints nb) (packS T) most g) out (257 + q, a + (symBits na (257 + q)).length) = _
        unfold symStep
        dsimp only
        rw [if_neg (by omega), if_neg (by omega)]
        have hcp : copyP (ints nb) (packS T) most (257 + q) out (a + (symBits na (257 + q)).length) = .ok (copyN out t.back.toNat t.long.toNat, a + ((symBits na (257 + q)).length + (lBits.getD q 0 + ((symBits nb z).length + dBt z)))) := by
          unfold copyP
          rw [hlb, if_neg (by omega), Int.toNat_natCast, take_bind e2]
          unfold copyLong
          dsimp only
          rw [hl.1]
          dsimp only
          rw [e3]
          show copyBack (packS T) most t.long.toNat out (z, a + (symBits na (257 + q)).length + lBits.getD q 0 + (symBits nb z).length) = _
          unfold copyBack
          dsimp only
          rw [hbb, if_neg (by omega), Int.toNat_natCast, take_bind e4]
          unfold copyEnd
          dsimp only
          rw [hn.1]
          dsimp only
          rw [if_pos hfar, if_pos (by omega), qcopy_eq]
          simp only [Nat.add_assoc]
        rw [hcp]
        show symsP (ints na) (ints nb) (packS T) most g (copyN out t.back.toNat t.long.toNat) _ = _
        rw [ih, hlen]
        simp only [Nat.add_assoc]
end Go.Proofs.YtdehkaknbmbieaaGreat
namespace Go.Proofs.YtdehkaknbmbieaaGreat
set_option linter.unusedVariables false
set_option linter.unusedSimpArgs false
set_option linter.unusedSectionVars false
open Go.RowKit

/-- A text is read. -/
theorem read_text {A F : List Bool} {T : ByteArray} (h : alignL A ++ textBits (bytesOf T) <+: F) : txBad (strOf (pack F)) A.length false (T.size : Int) = false ∧ txStr (strOf (pack F)) A.length false (T.size : Int) = T ∧ txTo (strOf (pack F)) A.length false (T.size : Int) = (alignL A ++ textBits (bytesOf T)).length := by
  obtain ⟨B, hB⟩ := h
  have hal := length_alignL A
  have hlT : (bytesOf T).length = T.size := length_bytesOf T
  have hl : 8 * ((A.length + 7) / 8) + 8 * T.size ≤ F.length := by rw [← hB, List.length_append, List.length_append, hal, length_textBits, hlT]; omega
  have hbad : txBad (strOf (pack F)) A.length false (T.size : Int) = false := by
    unfold txBad
    rw [size_pack, decide_eq_false (by omega), decide_eq_false (by omega)]
    rfl
  refine ⟨hbad, ?_, ?_⟩
  · unfold txStr
    rw [hbad, if_neg (by simp), Int.toNat_natCast]
    obtain ⟨q, hq⟩ : ∃ q, (A.length + 7) / 8 = q := ⟨_, rfl⟩
    rw [hq] at hal hl ⊢
    have h1 : outs F (q + T.size) = outs (alignL A) q ++ bytesOf T := by
      rw [← hB, outs_append _ _ _ (by rw [List.length_append, hal, length_textBits, hlT]; omega), ← hlT]
      exact outs_text (alignL A) q hal (bytesOf T) (fun x hx => by
        unfold bytesOf at hx; obtain ⟨c, _, rfl⟩ := List.mem_map.1 hx; exact c.toNat_lt)
    have h2 : pack F = outs F (q + T.size) ++ (pack F).drop (q + T.size) := by
      conv => lhs; rw [← List.take_append_drop (q + T.size) (pack F)]
      congr 1
      unfold pack outs
      rw [← List.map_take, List.take_range, Nat.min_eq_left (by omega)]
    have h3 : pack F = outs (alignL A) q ++ (bytesOf T ++ (pack F).drop (q + T.size)) := by rw [← List.append_assoc, ← h1]; exact h2
    have ho : (outs (alignL A) q).length = q := length_outs _ _
    apply ByteArray.ext
    apply Array.ext'
    rw [ByteArray.data_extract, Array.toList_extract]
    show List.extract (strOf (pack F)).data.toList q (q + T.size) = T.data.toList
    have h4 : (strOf (pack F)).data.toList = (pack F).map UInt8.ofNat := by simp [strOf]
    rw [h4, h3, List.extract_eq_take_drop, List.map_append, List.drop_left' (by rw [List.length_map, ho]), List.map_append, List.take_left' (by rw [List.length_map, hlT]; omega)]
    have h5 := congrArg (fun s : ByteArray => s.data.toList) (strOf_bytesOf T)
    simpa [strOf] using h5
  · unfold txTo
    rw [hbad, if_neg (by simp), Int.toNat_natCast, List.length_append, hal, length_textBits, hlT]
end Go.Proofs.YtdehkaknbmbieaaGreat
namespace Go.Proofs.YtdehkaknbmbieaaGreat
set_option linter.unusedVariables false
set_option linter.unusedSimpArgs false
set_option linter.unusedSectionVars false
open Go.RowKit
set_option linter.unusedVariables false
set_option linter.unusedSimpArgs false

def runB (s : Int) : Int := if s < 0 ∨ 18 < s then -1 else if s ≤ 15 then 0 else if s = 16 then 2 else if s = 17 then 3 else 7
theorem runBits_any (s : Int) (w : World) : Calls Tryz.prog 139 #[.int .i64 s] w fun e w' => e = .returned (.int .i64 (runB s)) ∧ w = w' := by
  go_enter Tryz.func139, Tryz.ntmps139
  go_wp2
  all_goals go_returns
  all_goals (refine ⟨congrArg (fun z => Ending.returned (.int .i64 z)) ?_, rfl⟩)
  all_goals (unfold runB; (repeat' split) <;> first | rfl | (exfalso; omega) | (exfalso; simp_all; done) | (exfalso; simp_all; omega))
def runL (s : Int) : Int := if s = 18 then 11 else 3
theorem runLeast_any (s : Int) (w : World) : Calls Tryz.prog 127 #[.int .i64 s] w fun e w' => e = .returned (.int .i64 (runL s)) ∧ w = w' := by
  go_enter Tryz.func127, Tryz.ntmps127
  go_wp2
  all_goals go_returns
  all_goals (refine ⟨congrArg (fun z => Ending.returned (.int .i64 z)) ?_, rfl⟩)
  all_goals (unfold runL; (repeat' split) <;> first | rfl | (exfalso; omega) | (exfalso; simp_all; done) | (exfalso; simp_all; omega))
theorem infoStep : (Tryz.prog.info? 101).map (·.size) = some 3 := by kernel_rfl
theorem results_rowT2 {P : Program} {fn : Func} {p u : Tmp} {ty : TypeId} (h : fn.results = #[.cell p ty, .tmp u]) (tmps : Array Value) (w : World) (g : Nat) (t : TypeId) (cs : Array Value) (fr : Nat × Nat) (d : TypeDesc) (v : Value)
    (hp : tmps.getD p undef = .pointer (some ⟨g, 0, none⟩)) (hv : tmps.getD u undef = v) (hg : w.heap[g]? = some (.cells cs t fr))
    (hu : P.underlying ty = some d) (hd : (match d with | .struct _ | .array _ _ => true | _ => false) = true) (hi : (P.info? ty).map (·.size) = some cs.size) :
    (results fn tmps).run P w = .ok (.tuple #[.agg cs, v]) w := by
  rw [results_cell_tmp h, hp, hv]
  simp [asAddr, run_loadVar_row w g t ty cs fr d hg hu hd hi, Result.andThen]
/-- How many a run has at most, and at least. -/
def runM (s : Nat) : Nat := if s = 16 then 6 else if s = 17 then 10 else 138
def runL' (s : Nat) : Nat := if s = 18 then 11 else 3
def runBn (s : Nat) : Nat := if s = 16 then 2 else if s = 17 then 3 else 7
def StepP (s n : Nat) (w : World) (e : Ending) (w' : World) : Prop := e = .returned (.tuple #[.agg #[.int .i64 (s : Nat), .int .i64 (runBn s : Nat), .int .i64 ((min n (runM s) - runL' s : Nat) : Int)], .int .i64 ((min n (runM s) : Nat) : Int)]) ∧ Upd [] w w'
set_option maxRecDepth 100000 in
set_option maxHeartbeats 3200000 in
theorem runStep_any (s n : Nat) (w : World) (hs : s = 16 ∨ s = 17 ∨ s = 18) (hn : runL' s ≤ n) (hn2 : n ≤ 1000000) :
    Calls Tryz.prog 128 #[.int .i64 (s : Nat), .int .i64 (n : Nat)] w fun e w' => StepP s n w e w' := by
  obtain ⟨M, hM⟩ : ∃ M, runM s = M := ⟨_, rfl⟩
  obtain ⟨L, hL⟩ : ∃ L, runL' s = L := ⟨_, rfl⟩
  obtain ⟨b, hb⟩ : ∃ b, runBn s = b := ⟨_, rfl⟩
  have hB : runB (s : Nat) = (b : Int) := by rw [← hb]; rcases hs with rfl | rfl | rfl <;> decide
  have hLI : runL (s : Nat) = (L : Int) := by rw [← hL]; rcases hs with rfl | rfl | rfl <;> decide
  obtain ⟨P, hP⟩ : ∃ P : Nat, 2 ^ b = P := ⟨_, rfl⟩
  have hPM : L + P - 1 = M ∧ 3 ≤ L ∧ L ≤ 11 ∧ 4 ≤ P ∧ P ≤ 128 ∧ b ≤ 7 := by
    rw [← hM, ← hL, ← hP, ← hb]
    rcases hs with rfl | rfl | rfl <;> decide
  have HBI := Lib.hid (fun w' => show Calls Tryz.prog 139 #[.int .i64 (s : Nat)] w' fun e w2 => e = .returned (.int .i64 (b : Int)) ∧ w' = w2 by rw [← hB]; exact runBits_any _ w')
  have HLE := Lib.hid (fun w' => show Calls Tryz.prog 127 #[.int .i64 (s : Nat)] w' fun e w2 => e = .returned (.int .i64 (L : Int)) ∧ w' = w2 by rw [← hLI]; exact runLeast_any _ w')
  have hpw : wrap64 ((2 : Int) ^ b) = (P : Int) := by
    have : ((2 : Int) ^ b) = (P : Int) := by rw [← hP]; simp
    rw [this]
    unfold wrap64
    omega
  have HPW := Lib.hid hpw
  unfold StepP
  rw [hM, hL, hb]
  rw [hL] at hn
  clear hpw hB hLI hM hL hb hP
  obtain ⟨q, hq⟩ : ∃ q : Nat, min n M = q := ⟨_, rfl⟩
  have hqi : min (n : Int) (M : Int) = (q : Int) := by omega
  have hLq : L ≤ q := by omega
  rw [hq]
  have hw1 : IntKind.i64.wrap ((L : Int) + (P : Int)) = (L : Int) + (P : Int) := IntWalk.i64_in _ (by omega)
  have hw2 : IntKind.i64.wrap ((L : Int) + (P : Int) - 1) = (M : Int) := by rw [IntWalk.i64_in _ (by omega)]; omega
  have hw3 : IntKind.i64.wrap ((q : Int) - (L : Int)) = ((q - L : Nat) : Int) := by rw [IntWalk.i64_in _ (by omega)]; omega
  have hb64 : (b : Int) < 64 := by omega
  have HQ := Lib.hid hq
  clear hq hPM
  have hpw := HPW.out
  go_enter Tryz.func128, Tryz.ntmps128
  go_wp2_with fail
  refine (HBI.out _).mono ?_
  rintro e w1 ⟨rfl, rfl⟩
  go_wp2
  go_quiet ((go_at_call 127; exact Calls.quiet_of_same ((HLE.out _).mono fun e w' ⟨he, hw⟩ => ⟨he, hw.symm⟩)))
  go_wp2_with fail
  refine (HLE.out _).mono ?_
  rintro e w2 ⟨rfl, rfl⟩
  have hB := (Blk.new w [.int .i64 0, .int .i64 0, .int .i64 0] 101).drewN nq
  have hU := ((Upd.refl [] w).alloc (.cells #[.int .i64 0, .int .i64 0, .int .i64 0] 101)).drewN nq
  have f0 := hB.frz 0
  have f1 := hB.frz 1
  have f2 := hB.frz 2
  have c0 := hB.cell 0 rfl
  have c1 := hB.cell 1 rfl
  have c2 := hB.cell 2 rfl
  have HB := Lib.hid hB
  have HU := Lib.hid hU
  clear hB hU hpw
  go_wp2
  have hB9 := ((HB.out.set 0 (.int .i64 (s : Nat))).set 1 (.int .i64 (b : Nat))).set 2 (.int .i64 ((q - L : Nat) : Int))
  refine bodyPost_ret (results_rowT2 rfl _ _ w.heap.size _ _ _ _ (.int .i64 (q : Nat)) (by simp [Act.put]) (by simp [Act.put]) hB9 Tryz.underlying101 rfl (by rw [infoStep]; rfl)) (by simp [Act.put]) ⟨?_, ?_⟩
  · rfl
  · exact ((HU.out.setCell (.inr (Nat.le_refl _)) _).setCell (.inr (Nat.le_refl _)) _).setCell (.inr (Nat.le_refl _)) _
end Go.Proofs.YtdehkaknbmbieaaGreat

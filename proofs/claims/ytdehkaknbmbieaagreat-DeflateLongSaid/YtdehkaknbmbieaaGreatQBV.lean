/- What a block's bits are read as (plain): numbers, symbols, tokens. -/
import Derived.Test.YtdehkaknbmbieaaGreatQBU
import Derived.Test.YtdehkaknbmbieaaGreatQBD
import Derived.Test.YtdehkaknbmbieaaGreatQAL
import Derived.Test.YtdehkaknbmbieaaGreatQAT
import Derived.Test.YtdehkaknbmbieaaGreatQBN
import Derived.Recover
import Derived.Lib.MinMax
namespace Go.Proofs.YtdehkaknbmbieaaGreat
set_option linter.unusedVariables false
set_option linter.unusedSimpArgs false
set_option linter.unusedSectionVars false
set_option linter.unusedVariables false
set_option linter.unusedSimpArgs false

/-- Bits stand at a place. -/
structure StandsAt (T : List Bool) (a : Nat) (M : List Bool) : Prop where
  eq : (T.drop a).take M.length = M
  le : a + M.length ≤ T.length
theorem StandsAt.cut {T M : List Bool} {a : Nat} (h : StandsAt T a M) : T = T.take a ++ M ++ T.drop (a + M.length) ∧ (T.take a).length = a := by
  have hl := h.le
  have h1 : T = T.take a ++ T.drop a := (List.take_append_drop a T).symm
  have h2 : T.drop a = M ++ T.drop (a + M.length) := by
    conv => lhs; rw [← List.take_append_drop M.length (T.drop a), h.eq, List.drop_drop]
  refine ⟨?_, by rw [List.length_take]; omega⟩
  rw [List.append_assoc, ← h2]
  exact h1
theorem StandsAt.mk' (A M B : List Bool) : StandsAt (A ++ M ++ B) A.length M :=
  ⟨by rw [List.append_assoc, List.drop_left, List.take_append_of_le_length (Nat.le_refl _), List.take_length], by simp⟩
theorem StandsAt.app {T M N : List Bool} {a : Nat} (h : StandsAt T a (M ++ N)) : StandsAt T a M ∧ StandsAt T (a + M.length) N := by
  obtain ⟨h1, h2⟩ := h.cut
  have hl := h.le
  rw [List.length_append] at hl
  constructor
  · have := StandsAt.mk' (T.take a) M (N ++ T.drop (a + (M ++ N).length))
    rw [h2] at this
    rwa [← List.append_assoc, List.append_assoc (T.take a) M N, ← h1] at this
  · have := StandsAt.mk' (T.take a ++ M) N (T.drop (a + (M ++ N).length))
    have e : (T.take a ++ M).length = a + M.length := by rw [List.length_append, h2]
    rw [e] at this
    rwa [List.append_assoc (T.take a) M N, ← h1] at this
/-- The bytes of bits. -/
def packS (T : List Bool) : ByteArray := strOf (pack T)
theorem take_at {T : List Bool} {a n v : Nat} (h : StandsAt T a (low n v)) (hv : v < 2 ^ n) : takeP (packS T) a n = .ok (v, a + n) := by
  obtain ⟨h1, h2⟩ := h.cut
  have hl := h.le
  rw [length_low] at hl
  unfold takeP packS
  rw [if_pos (by rw [size_pack]; omega)]
  have := rdVal_mid (T.take a) (low n v) (T.drop (a + (low n v).length)) n 0 (by rw [length_low]; omega)
  rw [← h1, h2, Nat.add_zero, List.drop_zero, List.take_of_length_le (by rw [length_low]; exact Nat.le_refl _), val_low, Nat.mod_eq_of_lt hv] at this
  rw [this]
/-- Lengths by which symbols can be read. -/
structure CodeOk (n : List Nat) : Prop where
  not3 : kindOf (ints n) ≠ 3
  not0 : kindOf (ints n) ≠ 0
theorem natsB (l : List Nat) : nats (ints l) = l := by
  unfold nats ints
  rw [List.map_map]
  have : (Int.toNat ∘ fun x : Nat => (x : Int)) = id := by funext x; simp
  rw [this, List.map_id]
theorem next_at {T : List Bool} {a S : Nat} {n : List Nat} (hc : CodeOk n) (h0 : n.getD S 0 ≠ 0) (h : StandsAt T a (symBits n S)) : nextP (ints n) (packS T) a = .ok (S, a + (symBits n S).length) := by
  obtain ⟨hok, hps⟩ := kindOf_ok hc.not3
  have h15 := nats_le hok
  rw [natsB] at hps h15
  have hS : S < n.length := by
    rcases Nat.lt_or_ge S n.length with h | h
    · exact h
    · rw [List.getD_eq_getElem?_getD, List.getElem?_eq_none h] at h0
      exact absurd rfl h0
  obtain ⟨h1, h2⟩ := h.cut
  have hn := nxt_back n (T.take a) (T.drop (a + (symBits n S).length)) S hps h15 hS h0
  rw [← h1, List.length_append, h2] at hn
  unfold nextP packS
  rw [if_neg (by rintro (h | h); exact hc.not3 h; exact hc.not0 h), natsB, hn]
theorem qcopy_eq (s : List Nat) (far : Nat) : ∀ k, qcopyN far k s = copyN s far k
  | 0 => rfl
  | k + 1 => by rw [copyN_snoc, copyN_succ, qcopy_eq s far k]
theorem longN_tab : ∀ L : Fin 259, 3 ≤ L.val → longN ((257 + (findL L.val 29 0).getD 0 : Nat) : Int) ((L.val - lAt.getD ((findL L.val 29 0).getD 0) 0 : Nat) : Int) = some L.val ∧ L.val - lAt.getD ((findL L.val 29 0).getD 0) 0 < 2 ^ lBits.getD ((findL L.val 29 0).getD 0) 0 := by decide +kernel
theorem longB_tab : ∀ c : Fin 29, longB ((257 + c.val : Nat) : Int) = ((lBits.getD c.val 0 : Nat) : Int) := by decide +kernel
theorem backB_tab : ∀ c : Fin 30, backB ((c.val : Nat) : Int) = ((dBt c.val : Nat) : Int) := by decide +kernel
theorem findD_is {n : Nat} : ∀ (m i z : Nat), findD n m i = some z → isD n z ∧ i ≤ z ∧ z < i + m
  | 0, i, z, h => by cases h
  | m + 1, i, z, h => by
    rw [findD_succ] at h
    split at h
    · rename_i hi
      cases h
      exact ⟨hi, by omega, by omega⟩
    · obtain ⟨h1, h2, h3⟩ := findD_is m (i + 1) z h
      exact ⟨h1, by omega, by omega⟩
theorem numS_tab {K z : Nat} (h : findD K 30 0 = some z) : numS 1 2 4 30 ((z : Nat) : Int) ((K - dAt.getD z 0 : Nat) : Int) = some K ∧ K - dAt.getD z 0 < 2 ^ dBt z := by
  obtain ⟨h1, _, h3⟩ := findD_is 30 0 z h
  obtain ⟨t1, t2, t3⟩ := back_tab ⟨z, by omega⟩
  dsimp only at t1 t2 t3
  unfold isD at h1
  have hlt : K - dAt.getD z 0 < 2 ^ dBt z := by rw [← t1]; omega
  refine ⟨?_, hlt⟩
  have hb := backB_tab ⟨z, by omega⟩
  dsimp only at hb
  have hb2 : sbitsI 2 4 30 ((z : Nat) : Int) = ((dBt z : Nat) : Int) := hb
  have hneg : ¬ (((dBt z : Nat) : Int) = -1 ∨ ((K - dAt.getD z 0 : Nat) : Int) < 0 ∨ (2 : Int) ^ ((dBt z : Nat) : Int).toNat ≤ ((K - dAt.getD z 0 : Nat) : Int)) := by
    rintro (h | h | h)
    · omega
    · omega
    · rw [Int.toNat_natCast] at h
      have e2 : ((2 : Int) ^ dBt z) = ((2 ^ dBt z : Nat) : Int) := by simp
      obtain ⟨p, hp⟩ : ∃ p, 2 ^ dBt z = p := ⟨_, rfl⟩
      rw [hp] at hlt e2
      rw [e2] at h
      omega
  unfold numS
  rw [hb2, if_neg hneg]
  simp only [Int.toNat_natCast]
  rw [t2]
  congr 1
  omega
theorem take_bind {α : Type} {s : ByteArray} {a n v : Nat} (h : takeP s a n = .ok (v, a + n)) (f : Nat × Nat → Except Nat α) : (takeP s a n >>= f) = f (v, a + n) := by rw [h]; rfl
theorem expTo_len : ∀ (l : List Tok) (s r : List Nat), expTo l s = some r → s.length ≤ r.length
  | [], s, r, h => by have : s = r := by simpa [expTo] using h
                      rw [this]; exact Nat.le_refl _
  | t :: l, s, r, h => by
    rw [expTo_cons] at h
    split at h
    · split at h
      · cases h
      · have := expTo_len l _ r h
        rw [List.length_append] at this
        omega
    · split at h
      · cases h
      · have := expTo_len l _ r h
        rw [copyN_len] at this
        omega
theorem litC_lt9 {t : Tok} (h : okTok t) (h0 : ¬ t.long = 0) : (findL t.long.toNat 29 0).getD 0 < 29 := by
  unfold okTok at h
  have := findL_lt ⟨t.long.toNat, by omega⟩ (show 3 ≤ t.long.toNat by omega)
  dsimp only at this
  cases e : findL t.long.toNat 29 0 with
  | none => simp
  | some r => rw [e] at this; simp at this; simpa using this
/-- Tokens' bits are read as what they make. -/
theorem syms_back (na nb : List Nat) (ca : CodeOk na) (most : Nat) (T : List Bool) : ∀ (l : List Tok) (out r : List Nat) (a g : Nat), (∀ t ∈ l, okTok t) → Coded na nb l → ((∃ t ∈ l, t.long ≠ 0) → CodeOk nb) → expTo l out = some r → r.length ≤ most → l.length < g →
    StandsAt T a (symsB na nb l) → symsP (ints na) (ints nb) (packS T) most g out a = .ok (r, a + (symsB na nb l).length)
  | [], out, r, a, g + 1, _, hc, _, he, _, _, hs => by
    have he2 : out = r := by simpa [expTo] using he
    subst he2
    have h := next_at ca hc.fin hs
    show (nextP (ints na) (packS T) a >>= _) = _
    rw [h]
    rfl
  | t :: l, out, r, a, g + 1, hok, hc, hcb, he, hm, hg, hs => by
    have ht := hok t List.mem_cons_self
    have hok2 : ∀ u ∈ l, okTok u := fun u hu => hok u (List.mem_cons_of_mem _ hu)
    have hc2 : Coded na nb l := ⟨hc.fin, fun u hu => hc.lit u (List.mem_cons_of_mem _ hu), fun u hu => hc.bak u (List.mem_cons_of_mem _ hu)⟩
    have hcb2 : (∃ u ∈ l, u.long ≠ 0) → CodeOk nb := fun ⟨u, hu, h⟩ => hcb ⟨u, List.mem_cons_of_mem _ hu, h⟩
    obtain ⟨hs1, hs2⟩ := StandsAt.app (M := tokB na nb t) (N := symsB na nb l) hs
    have hle : r.length ≤ most := hm
    have hlen : (symsB na nb (t :: l)).length = (tokB na nb t).length + (symsB na nb l).length := List.length_append
    rw [expTo_cons] at he
    have hgrow := expTo_len l
    show (nextP (ints na) (packS T) a >>= _) = _
    by_cases h0 : t.long = 0
    · rw [if_pos h0] at he
      split at he
      · cases he
      · have htb : tokB na nb t = symBits na t.byte := by unfold tokB; rw [if_pos h0]
        have hlc : litC t = t.byte := by unfold litC; rw [if_pos h0]
        have hcl := hc.lit t List.mem_cons_self
        rw [hlc] at hcl
        rw [htb] at hs1 hs2 hlen
        have h := next_at ca hcl hs1
        have hb : t.byte < 256 := by unfold okTok at ht; omega
        have ih := syms_back na nb ca most T l (out ++ [t.byte]) r (a + (symBits na t.byte).length) g hok2 hc2 hcb2 he hm (by simp at hg; omega) hs2
        have hro := hgrow _ _ he
        rw [h]
        show symStep (ints nb) (packS T) most (symsP (ints na) (ints nb) (packS T) most g) out (t.byte, a + (symBits na t.byte).length) = _
        unfold symStep
        dsimp only
        rw [if_neg (by omega), if_pos hb, if_pos (by rw [List.length_append] at hro; simp at hro; omega), ih, hlen, Nat.add_assoc]
    · rw [if_neg h0] at he
      split at he
      · cases he
      · rename_i hbad
        have h3 : 3 ≤ t.long ∧ t.long ≤ 258 ∧ 1 ≤ t.back ∧ t.back ≤ 32768 := by unfold okTok at ht; omega
        have hfar : t.back.toNat ≤ out.length := by unfold badCopy at hbad; omega
        have CB := hcb ⟨t, List.mem_cons_self, h0⟩
        have hl := longN_tab ⟨t.long.toNat, by omega⟩ (by show 3 ≤ t.long.toNat; omega)
        dsimp only at hl
        obtain ⟨z, hz, hz30⟩ := findD_some t.back.toNat (by omega) (by omega)
        have hn := numS_tab hz
        have hlc : litC t = 257 + (findL t.long.toNat 29 0).getD 0 := by unfold litC; rw [if_neg h0]
        have hbc : bakC t = z := by unfold bakC; rw [hz]; rfl
        have hcl := hc.lit t List.mem_cons_self
        have hcbk := hc.bak t List.mem_cons_self h0
        have hr29 : (findL t.long.toNat 29 0).getD 0 < 29 := litC_lt9 ht h0
        have hlb := longB_tab ⟨_, hr29⟩
        have hbb := backB_tab ⟨z, hz30⟩
        dsimp only at hlb hbb
        have htb : tokB na nb t = symBits na (litC t) ++ (low (lBits.getD ((findL t.long.toNat 29 0).getD 0) 0) (t.long.toNat - lAt.getD ((findL t.long.toNat 29 0).getD 0) 0) ++ (symBits nb (bakC t) ++ low (dBt (bakC t)) (t.back.toNat - dAt.getD (bakC t) 0))) := by unfold tokB; rw [if_neg h0]
        rw [hlc, hbc] at htb
        rw [hlc] at hcl
        rw [hbc] at hcbk
        generalize (findL t.long.toNat 29 0).getD 0 = q at *
        rw [htb] at hs1 hs2 hlen
        obtain ⟨k1, k2⟩ := hs1.app
        obtain ⟨k3, k4⟩ := k2.app
        obtain ⟨k5, k6⟩ := k4.app
        have e1 := next_at ca hcl k1
        have e2 := take_at k3 hl.2
        have e3 := next_at CB hcbk k5
        have e4 := take_at k6 hn.2
        rw [length_low] at e3 e4 k5 k6
        simp only [List.length_append, length_low] at hs2 hlen
        have ih := syms_back na nb ca most T l _ r _ g hok2 hc2 hcb2 he hm (by simp at hg; omega) hs2
        have hro := hgrow _ _ he
        rw [copyN_len] at hro
        rw [e1]
        show symStep (ints nb) (packS T) most (symsP (ints na) (ints nb) (packS T) most g) out (257 + q, a + (symBits na (257 + q)).length) = _
        unfold symStep
        dsimp only
        rw [if_neg (by omega), if_neg (by omega)]
        have hcp : copyP (ints nb) (packS T) most (257 + q) out (a + (symBits na (257 + q)).length) = .ok (copyN out t.back.toNat t.long.toNat, a + ((symBits na (257 + q)).length + (lBits.getD q 0 + ((symBits nb z).length + dBt z)))) := by
          unfold copyP
          rw [hlb, if_neg (by omega), Int.toNat_natCast, take_bind e2]
          unfold copyLong
          dsimp only
          rw [hl.1]
          dsimp only
          rw [e3]
          show copyBack (packS T) most t.long.toNat out (z, a + (symBits na (257 + q)).length + lBits.getD q 0 + (symBits nb z).length) = _
          unfold copyBack
          dsimp only
          rw [hbb, if_neg (by omega), Int.toNat_natCast, take_bind e4]
          unfold copyEnd
          dsimp only
          rw [hn.1]
          dsimp only
          rw [if_pos hfar, if_pos (by omega), qcopy_eq]
          simp only [Nat.add_assoc]
        rw [hcp]
        show symsP (ints na) (ints nb) (packS T) most g (copyN out t.back.toNat t.long.toNat) _ = _
        rw [ih, hlen]
        simp only [Nat.add_assoc]
end Go.Proofs.YtdehkaknbmbieaaGreat
namespace Go.Proofs.YtdehkaknbmbieaaGreat
set_option linter.unusedVariables false
set_option linter.unusedSimpArgs false
set_option linter.unusedSectionVars false
open Go.RowKit

/-- A text is read. -/
theorem read_text {A F : List Bool} {T : ByteArray} (h : alignL A ++ textBits (bytesOf T) <+: F) : txBad (strOf (pack F)) A.length false (T.size : Int) = false ∧ txStr (strOf (pack F)) A.length false (T.size : Int) = T ∧ txTo (strOf (pack F)) A.length false (T.size : Int) = (alignL A ++ textBits (bytesOf T)).length := by
  obtain ⟨B, hB⟩ := h
  have hal := length_alignL A
  have hlT : (bytesOf T).length = T.size := length_bytesOf T
  have hl : 8 * ((A.length + 7) / 8) + 8 * T.size ≤ F.length := by rw [← hB, List.length_append, List.length_append, hal, length_textBits, hlT]; omega
  have hbad : txBad (strOf (pack F)) A.length false (T.size : Int) = false := by
    unfold txBad
    rw [size_pack, decide_eq_false (by omega), decide_eq_false (by omega)]
    rfl
  refine ⟨hbad, ?_, ?_⟩
  · unfold txStr
    rw [hbad, if_neg (by simp), Int.toNat_natCast]
    obtain ⟨q, hq⟩ : ∃ q, (A.length + 7) / 8 = q := ⟨_, rfl⟩
    rw [hq] at hal hl ⊢
    have h1 : outs F (q + T.size) = outs (alignL A) q ++ bytesOf T := by
      rw [← hB, outs_append _ _ _ (by rw [List.length_append, hal, length_textBits, hlT]; omega), ← hlT]
      exact outs_text (alignL A) q hal (bytesOf T) (fun x hx => by
        unfold bytesOf at hx; obtain ⟨c, _, rfl⟩ := List.mem_map.1 hx; exact c.toNat_lt)
    have h2 : pack F = outs F (q + T.size) ++ (pack F).drop (q + T.size) := by
      conv => lhs; rw [← List.take_append_drop (q + T.size) (pack F)]
      congr 1
      unfold pack outs
      rw [← List.map_take, List.take_range, Nat.min_eq_left (by omega)]
    have h3 : pack F = outs (alignL A) q ++ (bytesOf T ++ (pack F).drop (q + T.size)) := by rw [← List.append_assoc, ← h1]; exact h2
    have ho : (outs (alignL A) q).length = q := length_outs _ _
    apply ByteArray.ext
    apply Array.ext'
    rw [ByteArray.data_extract, Array.toList_extract]
    show List.extract (strOf (pack F)).data.toList q (q + T.size) = T.data.toList
    have h4 : (strOf (pack F)).data.toList = (pack F).map UInt8.ofNat := by simp [strOf]
    rw [h4, h3, List.extract_eq_take_drop, List.map_append, List.drop_left' (by rw [List.length_map, ho]), List.map_append, List.take_left' (by rw [List.length_map, hlT]; omega)]
    have h5 := congrArg (fun s : ByteArray => s.data.toList) (strOf_bytesOf T)
    simpa [strOf] using h5
  · unfold txTo
    rw [hbad, if_neg (by simp), Int.toNat_natCast, List.length_append, hal, length_textBits, hlT]
end Go.Proofs.YtdehkaknbmbieaaGreat
namespace Go.Proofs.YtdehkaknbmbieaaGreat
set_option linter.unusedVariables false
set_option linter.unusedSimpArgs false
set_option linter.unusedSectionVars false
open Go.RowKit
set_option linter.unusedVariables false

theorem assert_errno (v : Value) (xT : TypeId) (w : World) : (Instr.typeAssert (.iface 35 v) xT 35 true).run Tryz.prog w = .ok (.tuple #[v, .bool true]) w := by
  simp [Instr.typeAssert, run_underlying Tryz.underlying35, go_sem, Result.andThen]
set_option maxRecDepth 100000 in
set_option maxHeartbeats 1600000 in
theorem caught_panicking (p : Addr) (x : Value) (c : Int) (older : List PanicEntry) (w : World) (hx : w.cell? p = some x) (hz : w.frozen? p = false) :
    CallsD Tryz.prog 39 #[.pointer (some p)] (.panicking ({ v := .iface 35 (.int .i64 c), recovered := false } :: older)) w fun e u' w' =>
      e = .returned (.tuple #[]) ∧ u' = .panicking ({ v := .iface 35 (.int .i64 c), recovered := true } :: older) ∧ w' = w.setCell p (.int .i64 c) := by
  have hta := assert_errno (.int .i64 c) 20
  refine callsD_of_wpS Tryz.func39 rfl fun c₀ cs hu => ?_
  apply wpS_seq
  apply wpS_region
  simp [wpOpsS, go_sem, recoverD, hu, Tryz.ntmps39, Exit.thenS]
  refine wpS_of_wp ?_
  go_wp2
  simp [bodyPostS, results, Tryz.results39]

set_option maxRecDepth 100000 in
set_option maxHeartbeats 1600000 in
theorem caught_idle (p : Addr) (w : World) :
    CallsD Tryz.prog 39 #[.pointer (some p)] .returning w fun e u' w' => e = .returned (.tuple #[]) ∧ u' = .returning ∧ w' = w := by
  refine callsD_of_wpS Tryz.func39 rfl fun c₀ cs hu => ?_
  apply wpS_seq
  apply wpS_region
  simp [wpOpsS, go_sem, recoverD, hu, Tryz.ntmps39, Exit.thenS]
  refine wpS_of_wp ?_
  go_wp2
  cases c₀
  simp_all [bodyPostS, results, Tryz.results39]
end Go.Proofs.YtdehkaknbmbieaaGreat
namespace Go.Proofs.YtdehkaknbmbieaaGreat
set_option linter.unusedVariables false
set_option linter.unusedSimpArgs false
set_option linter.unusedSectionVars false
open Go.RowKit
set_option linter.unusedVariables false

def ofNext (k : List Nat → Nat → Except Nat (List Nat × Nat)) (r : (Bool × List Nat) × Nat) : Except Nat (List Nat × Nat) := if r.1.1 = true then .ok (r.1.2, r.2) else k r.1.2 r.2
def ofLoop (s : ByteArray) (most F : Nat) : Nat → List Nat → Nat → Except Nat (List Nat × Nat)
  | 0, _, _ => .error 0
  | g + 1, out, a => blockP s most F out a >>= ofNext (ofLoop s most F g)
def capI (most : Int) : Nat := (max 0 (min most 65000)).toNat
def ofP (s : ByteArray) (most : Int) : Except Nat (List Nat × Nat) := ofLoop s (capI most) (8 * s.size + 1) (8 * s.size + 1) [] 0
def ofVal : Except Nat (List Nat × Nat) → Value
  | .ok (out, a) => .tuple #[.string (strOf out), .int .i64 ((a + 7) / 8 : Nat), .int .i64 0]
  | .error c => .tuple #[.string ⟨#[]⟩, .int .i64 0, .int .i64 (c : Nat)]

/-- From the loop's start on: nothing that was there ahead of the call turned. -/
theorem of_upd {w w3 w' : World} {bw x b : Nat} {v0 : Value} (hbw : bw = w.heap.size) (h0 : Upd [] w w3) (h : Upd (stFp x b v0) w3 w') (hfp : ∀ k ∈ stFp x b v0, bw < k) : Upd [] w w' :=
  h0.trans h fun k hk => .inr (by have := hfp k hk; omega)
/-- A part of a function that defers, which doesn't panic. -/
theorem wp_calm {P : Program} {c : Code} {K : Act → World → Prop} {Q : Exit → Act → World → Prop} {a : Act} {w : World} (h : c.wp P (Exit.then K fun _ _ _ => False) a w) : c.wp P (Exit.then K Q) a w :=
  Code.wp_mono (fun e a w h => by cases e <;> first | exact h | exact h.elim) h
theorem block_ok {x b F : Nat} {v : Value} {w : World} {s : ByteArray} {a : Nat} {out : List Nat} {most : Nat} {l : Bool} {out' : List Nat} {a' : Nat} (h : StAt w x b v s a out most) (hs : s.size ≤ 1099511627776) (hF : 8 * s.size < F) (hc : blockP s most F out a = .ok ((l, out'), a')) :
    Calls Tryz.prog 41 #[.pointer (some ⟨x, 0, none⟩)] w fun e w' => e = .returned (.bool l) ∧ ∃ v', StAt w' x b v' s a' out' most ∧ Upd (stFp x b v) w w' ∧ Later w v v' := by
  have := block_any x b F v w s a out most h hs hF
  rwa [hc] at this
theorem block_err {x b F : Nat} {v : Value} {w : World} {s : ByteArray} {a : Nat} {out : List Nat} {most c : Nat} (h : StAt w x b v s a out most) (hs : s.size ≤ 1099511627776) (hF : 8 * s.size < F) (hc : blockP s most F out a = .error c) :
    Calls Tryz.prog 41 #[.pointer (some ⟨x, 0, none⟩)] w fun e w' => e = .panicked [{ v := .iface 35 (.int .i64 (c : Nat)), recovered := false }] ∧ Upd (stFp x b v) w w' := by
  have := block_any x b F v w s a out most h hs hF
  rwa [hc] at this

set_option maxRecDepth 100000 in
set_option maxHeartbeats 6400000 in
theorem qof_any (s : ByteArray) (most : Int) (w : World) (hs : s.size ≤ 1099511627776) :
    Calls Tryz.prog 19 #[.string s, .int .i64 most] w fun e w' => e = .returned (ofVal (ofP s most)) ∧ Upd [] w w' := by
  have HS := Lib.hid (show ofP s most = ofLoop s (capI most) (8 * s.size + 1) (8 * s.size + 1) [] 0 by rfl)
  generalize ofP s most = CP at *
  obtain ⟨M, hM⟩ : ∃ M, M = capI most := ⟨_, rfl⟩
  have hM65 : M ≤ 65000 := by rw [hM]; unfold capI; omega
  have hMc : max 0 (min most 65000) = (M : Int) := by rw [hM]; unfold capI; omega
  rw [← hM] at HS
  clear hM
  go_enter_defers Tryz.func19, Tryz.ntmps19
  go_wp2_with fail
  have hU1 : Upd [] w (w.alloc (Obj.cells #[.int .i64 0] 35)) := (Upd.refl [] w).alloc _
  have hW1 := Blk.new w [.int .i64 0] 35
  have hs1 : (w.alloc (Obj.cells #[.int .i64 0] 35)).heap.size = w.heap.size + 1 := World.size_alloc _ _
  generalize w.alloc (Obj.cells #[.int .i64 0] 35) = w1 at *
  refine (read_any s w1).mono ?_
  rintro e w2 ⟨rfl, rfl⟩
  go_wp2
  obtain ⟨w3, hw3⟩ : ∃ w3, w3 = (w1.alloc (Obj.cells #[.string s, .int .i64 0, .bool false] 123)).alloc (Obj.cells #[.pointer (some ⟨w.heap.size + 1, 0, none⟩), .slice none 0 0, .int .i64 (M : Nat)] 84) := ⟨_, rfl⟩
  have hU13 : Upd [] w1 w3 := by rw [hw3]; exact ((Upd.refl [] w1).alloc _).alloc _
  have hW3 : Blk w3 w.heap.size [.int .i64 0] 35 := hW1.upd hU13 (by simp)
  have hS3 : StAt w3 (w.heap.size + 1 + 1) (w.heap.size + 1) (.slice none 0 0) s 0 [] M := by
    have hr := rd_new w1 s 123
    have hr3 := hr.upd ((Upd.refl [] _).alloc (Obj.cells #[.pointer (some ⟨w.heap.size + 1, 0, none⟩), .slice none 0 0, .int .i64 (M : Nat)] 84)) (by simp)
    have hb := Blk.new (w1.alloc (Obj.cells #[.string s, .int .i64 0, .bool false] 123)) [.pointer (some ⟨w.heap.size + 1, 0, none⟩), .slice none 0 0, .int .i64 (M : Nat)] 84
    rw [World.size_alloc, hs1] at hb
    rw [hs1] at hr3
    rw [hw3]
    exact ⟨hb, Row.nil _ _ _, hr3, by simp [Value.ownBlock], by simp [Value.ownBlock], by omega, by simp, hM65, by simp⟩
  rw [← hw3]
  have hU3 := hU1.then hU13
  have hlt3 := hW3.lt
  clear hw3 hU13 hU1 hW1 hs1
  have HU := Lib.hid hU3
  have hfp : ∀ k ∈ stFp (w.heap.size + 1 + 1) (w.heap.size + 1) (.slice none 0 0), w.heap.size < k := by intro k hk; simp [stFp, Value.ownBlock] at hk; omega
  clear hU3
  obtain ⟨bw, hbw⟩ : ∃ bw, bw = w.heap.size := ⟨_, rfl⟩
  rw [← hbw] at hW3 hS3 hfp hlt3 ⊢
  have HBW := Lib.hid hbw
  clear hbw
  go_loopg [] (8 * s.size + 1) (fun gg wr => ∃ g out a v, gg = g ∧ Hid (CP = ofLoop s M (8 * s.size + 1) g out a) ∧ 8 * s.size < g + a ∧ SymsRel w3 wr (bw + 1 + 1) (bw + 1) (.slice none 0 0) v s a out M ∧ Blk wr bw [.int .i64 0] 35)
  case atStart => exact ⟨_, [], 0, _, rfl, HS, by omega, ⟨hS3, .refl _ _, .refl _ _⟩, hW3⟩
  case round =>
    obtain ⟨g, out, a, v, hgg, HE, hg, hSt, hW⟩ := hrel
    have hrd := hSt.1.rd.2
    clear HS hW3 hS3
    obtain ⟨g, rfl⟩ : ∃ g', g = g' + 1 := ⟨g - 1, by omega⟩
    subst hgg
    have hE : CP = (blockP s M (8 * s.size + 1) out a >>= ofNext (ofLoop s M (8 * s.size + 1) g)) := HE.out
    clear HE
    cases hb : blockP s M (8 * s.size + 1) out a with
    | error c =>
      have HE := Lib.hid (show CP = .error c by rw [hE, hb]; rfl)
      clear hE
      go_wp2_with fail
      refine (block_err hSt.1 hs (by omega) hb).mono ?_
      rintro e w4 ⟨rfl, hU4⟩
      have hne := hSt.2.2.ne hlt3 (show (Value.slice none 0 0).ownBlock ≠ some bw by simp [Value.ownBlock])
      have hW4 := hW.upd hU4 (by simp only [stFp, List.mem_cons, Option.mem_toList]; rintro (h | h | h) <;> first | omega | exact hne h)
      have hUw4 := of_upd HBW.out HU.out (st_trans hSt.2.1 hSt.2.2 hU4) hfp
      have hx := hW4.cell 0 rfl
      have hz := hW4.frz 0
      have HBL : w.heap.size ≤ bw := by rw [HBW.out]; exact Nat.le_refl _
      refine leaves_cons (f := 39) (args := #[.pointer (some ⟨bw, 0, none⟩)]) (by simp) (by simp [go_sem]) ?_
      refine (caught_panicking ⟨bw, 0, none⟩ _ (c : Nat) [] w4 hx hz).mono ?_
      rintro e u' w'' ⟨rfl, rfl, rfl⟩
      have hcell : (w4.setCell ⟨bw, 0, none⟩ (.int .i64 (c : Nat))).cell? ⟨bw, 0, none⟩ = some (.int .i64 (c : Nat)) := (hW4.set 0 (.int .i64 (c : Nat))).cell 0 rfl
      simp [Leaves, settle, results, Tryz.results19, go_sem, hcell]
      rw [HE.out]
      exact ⟨rfl, hUw4.setCell (.inr HBL) _⟩
    | ok q =>
      obtain ⟨⟨l, o⟩, a5⟩ := q
      have hadv := blockP_adv hb
      have hE2 : CP = if l = true then .ok (o, a5) else ofLoop s M (8 * s.size + 1) g o a5 := by rw [hE, hb]; rfl
      clear hE
      cases l with
      | true =>
        have HE := Lib.hid (show CP = .ok (o, a5) by rw [hE2]; rfl)
        clear hE2
        go_wp2_with fail
        refine (block_ok hSt.1 hs (by omega) hb).mono ?_
        rintro e w4 ⟨rfl, v4, hS4, hU4, hT4⟩
        have hne := hSt.2.2.ne hlt3 (show (Value.slice none 0 0).ownBlock ≠ some bw by simp [Value.ownBlock])
        have hW4 := hW.upd hU4 (by simp only [stFp, List.mem_cons, Option.mem_toList]; rintro (h | h | h) <;> first | omega | exact hne h)
        have hUw4 := of_upd HBW.out HU.out (st_trans hSt.2.1 hSt.2.2 hU4) hfp
        have HBL : w.heap.size ≤ bw := by rw [HBW.out]; exact Nat.le_refl _
        have hx := hW4.cell 0 rfl
        have hz := hW4.frz 0
        have hc0 := hS4.blk.cell 0 rfl
        have hc1 := hS4.blk.cell 1 rfl
        have hcv := run_conv_row (P := Tryz.prog) w4.drew 28 9 5 Tryz.underlying28 Tryz.underlying5 Tryz.underlying9 (v := v4) (n := o.length) (l := o) hS4.row.drew
        have HT := Lib.hid (qused_any (bw + 1) w4.drew _ s a5 false hS4.rd hs)
        go_wp2
        refine wp_calm ?_
        go_region_law ((go_simp; go_at_call 42; refine HT.out.mono ?_; rintro e w5 ⟨rfl, rfl⟩))
        all_goals go_wp2
        all_goals (
          have hcell : (w4.setCell ⟨bw, 0, none⟩ (.int .i64 0)).cell? ⟨bw, 0, none⟩ = some (.int .i64 0) := (hW4.set 0 (.int .i64 0)).cell 0 rfl
          refine leaves_cons (f := 39) (args := #[.pointer (some ⟨bw, 0, none⟩)]) (by simp) (by simp [go_sem]) ?_
          refine (caught_idle ⟨bw, 0, none⟩ _).mono ?_
          rintro e u' w'' ⟨rfl, rfl, rfl⟩
          simp [Leaves, settle, results, Tryz.results19, go_sem, hcell]
          rw [HE.out]
          exact ⟨rfl, (hUw4.setCell (.inr HBL) _).drew⟩)
      | false =>
        have HE := Lib.hid (show CP = ofLoop s M (8 * s.size + 1) g o a5 by rw [hE2]; rfl)
        clear hE2
        go_wp2_with fail
        refine (block_ok hSt.1 hs (by omega) hb).mono ?_
        rintro e w4 ⟨rfl, v4, hS4, hU4, hT4⟩
        have hne := hSt.2.2.ne hlt3 (show (Value.slice none 0 0).ownBlock ≠ some bw by simp [Value.ownBlock])
        have hW4 := hW.upd hU4 (by simp only [stFp, List.mem_cons, Option.mem_toList]; rintro (h | h | h) <;> first | omega | exact hne h)
        go_wp2
        go_roundg g
        · exact ⟨g, o, a5, v4, rfl, HE, by omega, hSt.next hS4 hU4 hT4, hW4⟩
        · omega
end Go.Proofs.YtdehkaknbmbieaaGreat

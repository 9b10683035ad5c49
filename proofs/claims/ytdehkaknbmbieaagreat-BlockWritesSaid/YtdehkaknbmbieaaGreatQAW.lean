/- Package symbol: Long, Back: walks: they tell what the lists tell. -/
import Derived.Test.YtdehkaknbmbieaaGreatQAV
import Derived.Test.YtdehkaknbmbieaaGreatQAN
import Derived.Test.YtdehkaknbmbieaaGreatQAB
namespace Go.Proofs.YtdehkaknbmbieaaGreat
set_option linter.unusedVariables false
set_option linter.unusedSimpArgs false
set_option linter.unusedSectionVars false
open Go.RowKit
set_option linter.unusedVariables false
set_option linter.unusedSimpArgs false

theorem long_tab : ∀ k : Fin 28, (sbitsI 4 8 28 (k.val : Nat)).toNat = lBits.getD k.val 0 ∧ sbeg 3 4 8 28 k.val = lAt.getD k.val 0 := by decide +kernel
theorem long_find : ∀ n : Fin 259, 3 ≤ n.val → n.val ≠ 258 → findS 3 4 8 28 n.val 28 0 = findL n.val 29 0 ∧ ((findL n.val 29 0).getD 99) < 28 := by decide +kernel
theorem long_258 : findL 258 29 0 = some 28 := by decide +kernel
theorem back_tab : ∀ k : Fin 30, (sbitsI 2 4 30 (k.val : Nat)).toNat = dBt k.val ∧ sbeg 1 2 4 30 k.val = dAt.getD k.val 0 ∧ sbeg 1 2 4 30 k.val + 2 ^ (sbitsI 2 4 30 (k.val : Nat)).toNat = dAt.getD (k.val + 1) 0 := by decide +kernel
theorem back_find (n : Nat) : ∀ m i, i + m ≤ 30 → findS 1 2 4 30 n m i = findD n m i
  | 0, i, h => rfl
  | m + 1, i, h => by
    rw [findS_succ, findD_succ, back_find n m (i + 1) (by omega)]
    obtain ⟨_, h1, h2⟩ := back_tab ⟨i, by omega⟩
    have e : inS 1 2 4 30 n i ↔ isD n i := by
      unfold inS isD
      dsimp only at h1 h2
      rw [h1] at h2 ⊢
      rw [h2]
    by_cases h3 : isD n i
    · rw [if_pos h3, if_pos (e.2 h3)]
    · rw [if_neg h3, if_neg (fun q => h3 (e.1 q))]
set_option maxRecDepth 100000 in
set_option maxHeartbeats 3200000 in
theorem sback_any (n : Nat) (w : World) (h1 : 1 ≤ n) (h2 : n ≤ 32768) :
    Calls Tryz.prog 48 #[.int .i64 (n : Nat)] w fun e w' => ∃ i, findD n 30 0 = some i ∧ e = .returned (.tuple #[backV i n, .bool true]) ∧ Upd [] w w' := by
  obtain ⟨r, hr, hr30⟩ := findD_some n h1 h2
  have hs : signV 1 2 4 30 n r = backV r n := by
    obtain ⟨e1, e2, _⟩ := back_tab ⟨r, hr30⟩
    dsimp only at e1 e2
    unfold signV backV
    rw [e1, e2]
  have HSG := Lib.hid (fun w' => sign_any 1 2 4 30 n r w' (by decide) (by decide) (by decide) (by decide) (by decide) backS13 (by omega) (by rw [back_find n 30 0 (by omega)]; exact hr))
  rw [hs] at HSG
  unfold backV at HSG
  have HBV : Hid (backV r n = .agg #[.int .i64 (r : Nat), .int .i64 (dBt r : Nat), .int .i64 ((n - dAt.getD r 0 : Nat) : Int)]) := Lib.hid rfl
  have HR := Lib.hid hr
  generalize dAt.getD r 0 = p at *
  generalize dBt r = bb at *
  have HQ := Lib.hid (Blk.new w [.int .i64 0, .int .i64 0, .int .i64 0] 91)
  have HU := Lib.hid ((Upd.refl [] w).alloc (.cells #[.int .i64 0, .int .i64 0, .int .i64 0] 91))
  clear hs hr
  go_enter Tryz.func48, Tryz.ntmps48
  go_wp2_with fail
  refine (distances_any _).mono ?_
  rintro e w1 ⟨rfl, hU1⟩
  have HQ1 := Lib.hid (HQ.out.upd hU1 (by simp))
  have HU1 := Lib.hid (HU.out.then hU1)
  clear hU1
  go_wp2_with fail
  refine (HSG.out w1).mono ?_
  rintro e w2 ⟨rfl, hU2⟩
  have hQ2 := HQ1.out.upd hU2 (by simp)
  have HU2 := Lib.hid (HU1.out.then hU2)
  have f0 := hQ2.frz 0
  have f1 := hQ2.frz 1
  have f2 := hQ2.frz 2
  have c0 := hQ2.cell 0 rfl
  have c1 := hQ2.cell 1 rfl
  have c2 := hQ2.cell 2 rfl
  have HQ2 := Lib.hid hQ2
  clear hU2 hQ2
  go_wp2
  have hB9 := ((HQ2.out.set 0 (.int .i64 (r : Nat))).set 1 (.int .i64 (bb : Nat))).set 2 (.int .i64 ((n - p : Nat) : Int))
  refine bodyPost_ret (results_rowT rfl _ _ w.heap.size _ _ _ _ (.bool true) (by simp [Act.put]) (by simp [Act.put]) hB9 Tryz.underlying91 rfl (by rw [infoSign]; rfl)) (by simp [Act.put]) ⟨r, HR.out, ?_, ?_⟩
  · rw [HBV.out]; rfl
  · exact ((HU2.out.setCell (.inr (Nat.le_refl _)) _).setCell (.inr (Nat.le_refl _)) _).setCell (.inr (Nat.le_refl _)) _
set_option maxRecDepth 100000 in
set_option maxHeartbeats 3200000 in
theorem slong_any (n : Nat) (w : World) (h3 : 3 ≤ n) (h258 : n ≤ 258) :
    Calls Tryz.prog 47 #[.int .i64 (n : Nat)] w fun e w' => ∃ i, findL n 29 0 = some i ∧ e = .returned (.tuple #[longV i n, .bool true]) ∧ Upd [] w w' := by
  have HQ := Lib.hid (Blk.new w [.int .i64 0, .int .i64 0, .int .i64 0] 91)
  have HU := Lib.hid ((Upd.refl [] w).alloc (.cells #[.int .i64 0, .int .i64 0, .int .i64 0] 91))
  by_cases he : n = 258
  · subst he
    have HLV : Hid (longV 28 258 = .agg #[.int .i64 285, .int .i64 0, .int .i64 0]) := Lib.hid rfl
    go_enter Tryz.func47, Tryz.ntmps47
    go_wp2
    have hB9 := Blk.new w [.int .i64 285, .int .i64 0, .int .i64 0] 91
    refine bodyPost_ret (results_rowT rfl _ _ w.heap.size _ _ _ _ (.bool true) (by simp [Act.put]) (by simp [Act.put]) hB9 Tryz.underlying91 rfl (by rw [infoSign]; rfl)) (by simp [Act.put]) ⟨28, long_258, ?_, ?_⟩
    · rw [HLV.out]
    · exact (Upd.refl [] w).alloc _
  · have hez : ¬ (n : Int) = 258 := by omega
    obtain ⟨hf, hlt⟩ := long_find ⟨n, by omega⟩ h3 he
    dsimp only at hf hlt
    obtain ⟨r, hr⟩ : ∃ r, findL n 29 0 = some r := by
      cases h : findL n 29 0 with
      | none => rw [h] at hlt; simp at hlt
      | some r => exact ⟨r, rfl⟩
    rw [hr] at hf hlt
    have hr28 : r < 28 := hlt
    obtain ⟨e1, e2⟩ := long_tab ⟨r, hr28⟩
    dsimp only at e1 e2
    have HSG := Lib.hid (fun w' => sign_any 3 4 8 28 n r w' (by decide) (by decide) (by decide) (by decide) (by decide) longS13 (by omega) hf)
    unfold signV at HSG
    rw [e1, e2] at HSG
    have HLV : Hid (longV r n = .agg #[.int .i64 ((257 + r : Nat) : Int), .int .i64 (lBits.getD r 0 : Nat), .int .i64 ((n - lAt.getD r 0 : Nat) : Int)]) := Lib.hid rfl
    have HR := Lib.hid hr
    generalize lAt.getD r 0 = p at *
    generalize lBits.getD r 0 = bb at *
    have hwr : IntKind.i64.wrap ((r : Int) + 257) = (r : Int) + 257 := IntWalk.i64_in _ (by omega)
    clear e1 e2 hf hr hlt he
    go_enter Tryz.func47, Tryz.ntmps47
    go_wp2_with fail
    refine (longs_any _).mono ?_
    rintro e w1 ⟨rfl, hU1⟩
    have HQ1 := Lib.hid (HQ.out.upd hU1 (by simp))
    have HU1 := Lib.hid (HU.out.then hU1)
    clear hU1
    go_wp2_with fail
    refine (HSG.out w1).mono ?_
    rintro e w2 ⟨rfl, hU2⟩
    have hQ2 := HQ1.out.upd hU2 (by simp)
    have HU2 := Lib.hid (HU1.out.then hU2)
    have hs2 : w.heap.size + 1 ≤ w2.heap.size := by have := HU.out.size; have := (HQ1.out.upd hU2 (by simp)).lt; omega
    have hQ3 := hQ2.alloc (.cells #[.int .i64 (r : Nat), .int .i64 (bb : Nat), .int .i64 ((n - p : Nat) : Int)] 91)
    have hS3 := Blk.new w2 [.int .i64 (r : Nat), .int .i64 (bb : Nat), .int .i64 ((n - p : Nat) : Int)] 91
    have hU3 := HU2.out.alloc (.cells #[.int .i64 (r : Nat), .int .i64 (bb : Nat), .int .i64 ((n - p : Nat) : Int)] 91)
    have HQ3 := Lib.hid hQ3
    have HS3 := Lib.hid hS3
    have HU3 := Lib.hid hU3
    clear hU2 hQ2 hQ3 hS3 hU3
    go_upto_region 4 with fail
    change Code.wp _ _ _ _ (w2.alloc (.cells #[.int .i64 (r : Nat), .int .i64 (bb : Nat), .int .i64 ((n - p : Nat) : Int)] 91))
    generalize w2.alloc (.cells #[.int .i64 (r : Nat), .int .i64 (bb : Nat), .int .i64 ((n - p : Nat) : Int)] 91) = w3 at *
    generalize w2.heap.size = s at *
    have hws : w.heap.size ≠ s := by omega
    have hS4 := HS3.out.set 0 (.int .i64 ((r : Int) + 257))
    have hQ4 := HQ3.out.setFar (a := ⟨s, 0, none⟩) (.int .i64 ((r : Int) + 257)) hws
    have HU4 := Lib.hid (HU3.out.setCell (p := ⟨s, 0, none⟩) (.inr (by show w.heap.size ≤ s; omega)) (.int .i64 ((r : Int) + 257)))
    have k0 := HS3.out.cell 0 rfl
    have k1 := hS4.cell 1 rfl
    have k2 := hS4.cell 2 rfl
    have k00 := hS4.cell 0 rfl
    have kf := HS3.out.frz 0
    have f0 := hQ4.frz 0
    have f1 := hQ4.frz 1
    have f2 := hQ4.frz 2
    have c0 := hQ4.cell 0 rfl
    have c1 := hQ4.cell 1 rfl
    have c2 := hQ4.cell 2 rfl
    have HQ4 := Lib.hid hQ4
    clear hS4 hQ4
    go_wp2
    have hB9 := ((HQ4.out.set 0 (.int .i64 ((r : Int) + 257))).set 1 (.int .i64 (bb : Nat))).set 2 (.int .i64 ((n - p : Nat) : Int))
    refine bodyPost_ret (results_rowT rfl _ _ w.heap.size _ _ _ _ (.bool true) (by simp [Act.put]) (by simp [Act.put]) hB9 Tryz.underlying91 rfl (by rw [infoSign]; rfl)) (by simp [Act.put]) ⟨r, HR.out, ?_, ?_⟩
    · rw [HLV.out, show ((257 + r : Nat) : Int) = (r : Int) + 257 by omega]; rfl
    · exact ((HU4.out.setCell (.inr (Nat.le_refl _)) _).setCell (.inr (Nat.le_refl _)) _).setCell (.inr (Nat.le_refl _)) _
end Go.Proofs.YtdehkaknbmbieaaGreat
namespace Go.Proofs.YtdehkaknbmbieaaGreat
set_option linter.unusedVariables false
set_option linter.unusedSimpArgs false
set_option linter.unusedSectionVars false
open Go.RowKit
set_option linter.unusedVariables false

/-- A token. -/
structure Tok where
  byte : Nat
  long : Int
  back : Int
def Tok.cs (t : Tok) : List Value := [.int .u8 (t.byte : Nat), .int .i64 t.long, .int .i64 t.back]
/-- Tokens that can be read where a slice leads. -/
structure TokIn (w : World) (a : Option Addr) (len : Nat) (l : List Tok) : Prop where
  len : l.length = len
  cell : ∀ i (h : i < l.length), ∃ b off, a = some ⟨b, off, none⟩ ∧ (w.cell? ⟨b, off + i * 3, none⟩ = some (.int .u8 (l[i].byte : Nat)) ∧ w.cell? ⟨b, off + i * 3 + 1, none⟩ = some (.int .i64 l[i].long) ∧ w.cell? ⟨b, off + i * 3 + 2, none⟩ = some (.int .i64 l[i].back)) ∧
    l[i].byte < 256 ∧ (-9223372036854775808 ≤ l[i].long ∧ l[i].long ≤ 9223372036854775807) ∧ (-9223372036854775808 ≤ l[i].back ∧ l[i].back ≤ 9223372036854775807)
theorem TokIn.upd {w w' : World} {a : Option Addr} {len : Nat} {l : List Tok} {fp : List Nat} (h : TokIn w a len l) (hU : Upd fp w w') (hf : ∀ b off, a = some ⟨b, off, none⟩ → b ∉ fp) : TokIn w' a len l :=
  ⟨h.len, fun i hi => by
    obtain ⟨b, off, e, ⟨c1, c2, c3⟩, r⟩ := h.cell i hi
    have hb : b < w.heap.size := World.block_lt_of_cell? w _ c1
    exact ⟨b, off, e, ⟨(hU.at hb (hf b off e) _).trans c1, (hU.at hb (hf b off e) _).trans c2, (hU.at hb (hf b off e) _).trans c3⟩, r⟩⟩
theorem TokIn.pure {w w' : World} {a : Option Addr} {len : Nat} {l : List Tok} (h : TokIn w a len l) (hU : Upd [] w w') : TokIn w' a len l := h.upd hU (by simp)
/-- So many bytes more, each from so far back. -/
def copyN (s : List Nat) (back : Nat) : Nat → List Nat
  | 0 => s
  | k + 1 => copyN s back k ++ [(copyN s back k).getD ((copyN s back k).length - back) 0]
theorem copyN_succ (s : List Nat) (back k : Nat) : copyN s back (k + 1) = copyN s back k ++ [(copyN s back k).getD ((copyN s back k).length - back) 0] := by rw [copyN]
theorem copyN_len (s : List Nat) (back : Nat) : ∀ k, (copyN s back k).length = s.length + k
  | 0 => rfl
  | k + 1 => by rw [copyN_succ, List.length_append, copyN_len s back k]; rfl
theorem copyN_lt (s : List Nat) (back : Nat) (h : ∀ x ∈ s, x < 256) : ∀ k, ∀ x ∈ copyN s back k, x < 256
  | 0, x, hx => h x hx
  | k + 1, x, hx => by
    rw [copyN_succ] at hx
    rcases List.mem_append.1 hx with h1 | h1
    · exact copyN_lt s back h k x h1
    · simp only [List.mem_singleton] at h1
      rw [h1, List.getD_eq_getElem?_getD]
      cases h2 : (copyN s back k)[(copyN s back k).length - back]? with
      | none => simp
      | some y => exact copyN_lt s back h k y (List.mem_of_getElem? h2)
/-- May a copy not be, behind so many bytes? -/
def badCopy (t : Tok) (n : Nat) : Prop := t.byte ≠ 0 ∨ t.long < 3 ∨ 258 < t.long ∨ t.back < 1 ∨ 32768 < t.back ∨ (n : Int) < t.back ∨ 65000 < t.long + (n : Int)
instance (t : Tok) (n : Nat) : Decidable (badCopy t n) := by unfold badCopy; infer_instance
/-- What tokens expand to. -/
def expTo : List Tok → List Nat → Option (List Nat)
  | [], s => some s
  | t :: r, s => if t.long = 0 then (if t.back ≠ 0 ∨ 65000 ≤ s.length then none else expTo r (s ++ [t.byte])) else if badCopy t s.length then none else expTo r (copyN s t.back.toNat t.long.toNat)
theorem expTo_cons (t : Tok) (r : List Tok) (s : List Nat) : expTo (t :: r) s = if t.long = 0 then (if t.back ≠ 0 ∨ 65000 ≤ s.length then none else expTo r (s ++ [t.byte])) else if badCopy t s.length then none else expTo r (copyN s t.back.toNat t.long.toNat) := rfl
/-- A token that may be. -/
def okTok (t : Tok) : Prop := (t.long = 0 ∧ t.back = 0 ∧ t.byte < 256) ∨ (t.byte = 0 ∧ 3 ≤ t.long ∧ t.long ≤ 258 ∧ 1 ≤ t.back ∧ t.back ≤ 32768)
theorem expTo_ok : ∀ (l : List Tok) (s r : List Nat), (∀ t ∈ l, t.byte < 256) → expTo l s = some r → ∀ t ∈ l, okTok t
  | [], _, _, _, _, t, ht => by simp at ht
  | u :: l, s, r, hb, h, t, ht => by
    rw [expTo_cons] at h
    by_cases h0 : u.long = 0
    · rw [if_pos h0] at h
      by_cases h1 : u.back ≠ 0 ∨ 65000 ≤ s.length
      · rw [if_pos h1] at h; cases h
      · rw [if_neg h1] at h
        rcases List.mem_cons.1 ht with rfl | h2
        · exact .inl ⟨h0, by omega, hb _ List.mem_cons_self⟩
        · exact expTo_ok l _ r (fun x hx => hb x (List.mem_cons_of_mem _ hx)) h t h2
    · rw [if_neg h0] at h
      by_cases h1 : badCopy u s.length
      · rw [if_pos h1] at h; cases h
      · rw [if_neg h1] at h
        rcases List.mem_cons.1 ht with rfl | h2
        · unfold badCopy at h1
          exact .inr (by omega)
        · exact expTo_ok l _ r (fun x hx => hb x (List.mem_cons_of_mem _ hx)) h t h2
end Go.Proofs.YtdehkaknbmbieaaGreat
namespace Go.Proofs.YtdehkaknbmbieaaGreat
set_option linter.unusedVariables false
set_option linter.unusedSimpArgs false
set_option linter.unusedSectionVars false
open Go.RowKit
set_option linter.unusedVariables false
set_option linter.unusedSimpArgs false

def expV (o : Option (List Nat)) : Value := match o with
  | none => .tuple #[.string { data := #[] }, .bool false]
  | some s => .tuple #[.string (strOf s), .bool true]
def ExpP (l : List Tok) (w : World) (e : Ending) (w' : World) : Prop := e = .returned (expV (expTo l [])) ∧ Upd [] w w'
theorem strOf_sub1 (s : List Nat) (i : Nat) (h : i < s.length) : (strOf s).extract i (i + 1) = strOf [s.getD i 0] := by
  have h1 : (strOf s).data.extract i (i + 1) = #[UInt8.ofNat (s.getD i 0)] := by
    apply Array.ext'
    simp [strOf, List.getD_eq_getElem?_getD, h]
    rw [List.drop_eq_getElem_cons (by simpa using h)]
    simp
  apply ByteArray.ext
  rw [ByteArray.data_extract, h1]
  simp [strOf]
set_option maxRecDepth 100000 in
set_option maxHeartbeats 6400000 in
theorem rexpand_any (l : List Tok) (a : Option Addr) (n cap : Nat) (w : World) (hI : TokIn w a n l) (hn : n ≤ 1000000) :
    Calls Tryz.prog 9 #[.slice a n cap] w fun e w' => ExpP l w e w' := by
  have HI := Lib.hid hI
  have HLN := Lib.hid hI.len
  clear hI
  go_enter Tryz.func9, Tryz.ntmps9
  go_wp2
  go_loopg [4, 11] 1000000 (fun gg s4 s11 wr => ∃ (i : Nat) (s : List Nat), i ≤ n ∧ gg = 1000000 - i ∧ s11 = .int .i64 (i : Nat) ∧ s4 = .string (strOf s) ∧ s.length ≤ 65000 ∧ Hid (∀ x ∈ s, x < 256) ∧ Hid (expTo l [] = expTo (l.drop i) s) ∧ Hid (Upd [] w wr))
  case atStart => exact ⟨0, [], by omega, by omega, rfl, rfl, by simp, Lib.hid (by simp), Lib.hid rfl, Lib.hid (Upd.refl _ _)⟩
  case round =>
    obtain ⟨i, s, hin, rfl, rfl, rfl, hsl, HS, HE, HU⟩ := hrel
    have hsz : (strOf s).size = s.length := size_strOf s
    by_cases hc : i < n
    · have hcz : (i : Int) < (n : Int) := by omega
      have hil : i < l.length := by rw [HLN.out]; exact hc
      have hw1 : IntKind.i64.wrap ((i : Int) + 1) = ((i + 1 : Nat) : Int) := by rw [IntWalk.i64_in _ (by omega)]; rfl
      obtain ⟨b, off, rfl, ⟨hc1, hc2, hc3⟩, r1, r2, r3⟩ := (HI.out.pure HU.out).cell i hil
      have HDR : Hid (l.drop i = l[i] :: l.drop (i + 1)) := Lib.hid (List.drop_eq_getElem_cons hil)
      generalize l[i] = t at *
      obtain ⟨tb, tl, tk⟩ := t
      dsimp only at hc1 hc2 hc3 r1 r2 r3
      have hT4 := Blk.new wr [.int .u8 (tb : Nat), .int .i64 tl, .int .i64 tk] 49
      have hU4 := HU.out.alloc (.cells #[.int .u8 (tb : Nat), .int .i64 tl, .int .i64 tk] 49)
      clear hil
      go_upto_region 5 with fail
      change Code.wp _ _ _ _ (wr.alloc (.cells #[.int .u8 (tb : Nat), .int .i64 tl, .int .i64 tk] 49))
      generalize wr.alloc (.cells #[.int .u8 (tb : Nat), .int .i64 tl, .int .i64 tk] 49) = w4 at *
      generalize wr.heap.size = g at *
      have t0 := hT4.cell 0 rfl
      have t1 := hT4.cell 1 rfl
      have t2 := hT4.cell 2 rfl
      have HU4 := Lib.hid hU4
      have HT4 := Lib.hid hT4
      clear hT4 hU4 hc1 hc2 hc3
      by_cases h0 : tl = 0
      · subst h0
        by_cases h1 : tk = 0
        · subst h1
          by_cases h2 : 65000 ≤ s.length
          · have h2z : (65000 : Int) ≤ (s.length : Int) := by omega
            have HNONE : Hid (expTo l [] = none) := Lib.hid (by rw [HE.out, HDR.out, expTo_cons, if_pos rfl, if_pos (.inr h2)])
            go_wp2
            go_returns
            exact ⟨by rw [HNONE.out]; rfl, HU4.out⟩
          · have h2z : ¬ (65000 : Int) ≤ (s.length : Int) := by omega
            have HE2 : Hid (expTo l [] = expTo (l.drop (i + 1)) (s ++ [tb])) := Lib.hid (by rw [HE.out, HDR.out, expTo_cons]; simp [h2])
            have hcv : (convert 28 9 (.slice (some ⟨w4.heap.size, 0, none⟩) 1 1)).run Tryz.prog (w4.alloc (.cells #[.int .u8 (tb : Nat)] 5)) = .ok (.string (strOf [tb])) (w4.alloc (.cells #[.int .u8 (tb : Nat)] 5)) := run_conv_row _ 28 9 5 Tryz.underlying28 Tryz.underlying5 Tryz.underlying9 (l := [tb]) (n := 1) (Row.new w4 (u8s [tb]) 5 1 1 (by unfold maxLen; omega) rfl)
            have hadd : ∀ W', (Op.stringOp .add (strOf s) (strOf [tb])).run Tryz.prog W' = .ok (.string (strOf (s ++ [tb]))) W' := fun W' => by
              rw [← strOf_append]
              exact run_string_add_sum _ _ _ (by rw [size_strOf, size_strOf]; simp; omega)
            have HS2 : Hid (∀ x ∈ s ++ [tb], x < 256) := Lib.hid (fun x hx => by
              rcases List.mem_append.1 hx with h | h
              · exact HS.out x h
              · simp at h; omega)
            have HU5 := Lib.hid (HU4.out.alloc (.cells #[.int .u8 (tb : Nat)] 5))
            have hl2 : (s ++ [tb]).length ≤ 65000 := by rw [List.length_append]; simp; omega
            go_wp2
            go_roundg (1000000 - (i + 1))
            · exact ⟨i + 1, s ++ [tb], by omega, rfl, by first | rfl | go_num, rfl, hl2, HS2, HE2, HU5⟩
            · omega
        · have hkb : (tk != 0) = true := by rw [bne_iff_ne]; exact h1
          have HNONE : Hid (expTo l [] = none) := Lib.hid (by rw [HE.out, HDR.out, expTo_cons, if_pos rfl, if_pos (.inl h1)])
          go_wp2
          go_returns
          exact ⟨by rw [HNONE.out]; rfl, HU4.out⟩
      · have h0b : (tl == 0) = false := by simpa using h0
        by_cases hx0 : tb ≠ 0
        · have HBC : Hid (badCopy ⟨tb, tl, tk⟩ s.length) := Lib.hid (by unfold badCopy; dsimp only; omega)
          have hxb : ((tb : Int) != 0) = true := by rw [bne_iff_ne]; omega
          have HNONE : Hid (expTo l [] = none) := Lib.hid (by rw [HE.out, HDR.out, expTo_cons, if_neg h0, if_pos HBC.out])
          go_wp2
          go_returns
          exact ⟨by rw [HNONE.out]; rfl, HU4.out⟩
        have hxb : ((tb : Int) != 0) = false := by rw [bne_eq_false_iff_eq]; omega
        by_cases hx1 : tl < 3
        · have HBC : Hid (badCopy ⟨tb, tl, tk⟩ s.length) := Lib.hid (by unfold badCopy; dsimp only; omega)
          have HNONE : Hid (expTo l [] = none) := Lib.hid (by rw [HE.out, HDR.out, expTo_cons, if_neg h0, if_pos HBC.out])
          go_wp2
          go_returns
          exact ⟨by rw [HNONE.out]; rfl, HU4.out⟩
        by_cases hx2 : 258 < tl
        · have HBC : Hid (badCopy ⟨tb, tl, tk⟩ s.length) := Lib.hid (by unfold badCopy; dsimp only; omega)
          have HNONE : Hid (expTo l [] = none) := Lib.hid (by rw [HE.out, HDR.out, expTo_cons, if_neg h0, if_pos HBC.out])
          go_wp2
          go_returns
          exact ⟨by rw [HNONE.out]; rfl, HU4.out⟩
        by_cases hx3 : tk < 1
        · have HBC : Hid (badCopy ⟨tb, tl, tk⟩ s.length) := Lib.hid (by unfold badCopy; dsimp only; omega)
          have HNONE : Hid (expTo l [] = none) := Lib.hid (by rw [HE.out, HDR.out, expTo_cons, if_neg h0, if_pos HBC.out])
          go_wp2
          go_returns
          exact ⟨by rw [HNONE.out]; rfl, HU4.out⟩
        by_cases hx4 : 32768 < tk
        · have HBC : Hid (badCopy ⟨tb, tl, tk⟩ s.length) := Lib.hid (by unfold badCopy; dsimp only; omega)
          have HNONE : Hid (expTo l [] = none) := Lib.hid (by rw [HE.out, HDR.out, expTo_cons, if_neg h0, if_pos HBC.out])
          go_wp2
          go_returns
          exact ⟨by rw [HNONE.out]; rfl, HU4.out⟩
        by_cases hx5 : (s.length : Int) < tk
        · have HBC : Hid (badCopy ⟨tb, tl, tk⟩ s.length) := Lib.hid (by unfold badCopy; dsimp only; omega)
          have hxs : ((strOf s).size : Int) < tk := by omega
          have HNONE : Hid (expTo l [] = none) := Lib.hid (by rw [HE.out, HDR.out, expTo_cons, if_neg h0, if_pos HBC.out])
          go_wp2
          go_returns
          exact ⟨by rw [HNONE.out]; rfl, HU4.out⟩
        by_cases hx6 : 65000 < tl + (s.length : Int)
        · have HBC : Hid (badCopy ⟨tb, tl, tk⟩ s.length) := Lib.hid (by unfold badCopy; dsimp only; omega)
          have hwx : IntKind.i64.wrap (tl + (s.length : Int)) = tl + (s.length : Int) := IntWalk.i64_in _ (by omega)
          have HNONE : Hid (expTo l [] = none) := Lib.hid (by rw [HE.out, HDR.out, expTo_cons, if_neg h0, if_pos HBC.out])
          go_wp2
          go_returns
          exact ⟨by rw [HNONE.out]; rfl, HU4.out⟩
        have hwx : IntKind.i64.wrap (tl + (s.length : Int)) = tl + (s.length : Int) := IntWalk.i64_in _ (by omega)
        have HNB : Hid (¬ badCopy ⟨tb, tl, tk⟩ s.length) := Lib.hid (by unfold badCopy; dsimp only; omega)
        obtain ⟨L, rfl⟩ : ∃ L : Nat, tl = (L : Int) := ⟨tl.toNat, by omega⟩
        obtain ⟨K, rfl⟩ : ∃ K : Nat, tk = (K : Int) := ⟨tk.toNat, by omega⟩
        have HE2 : Hid (expTo l [] = expTo (l.drop (i + 1)) (copyN s K L)) := Lib.hid (by rw [HE.out, HDR.out, expTo_cons, if_neg h0, if_neg HNB.out, show (L : Int).toNat = L by omega, show (K : Int).toNat = K by omega])
        have hL : L ≤ 258 := by omega
        have hK1 : 1 ≤ K := by omega
        have hK2 : K ≤ s.length := by omega
        have hLs : L + s.length ≤ 65000 := by omega
        have HCL : Hid (∀ k, (copyN s K k).length = s.length + k) := Lib.hid (copyN_len s K)
        have HCS := Lib.hid (copyN_succ s K)
        go_wp2
        go_loopg [4, 8] 300 (fun gg s4 s8 wq => ∃ k : Nat, k ≤ L ∧ gg = 300 - k ∧ s8 = .int .i64 (k : Nat) ∧ s4 = .string (strOf (copyN s K k)) ∧ wq = w4)
        case atStart => exact ⟨0, by omega, by omega, rfl, rfl, rfl⟩
        case round =>
          obtain ⟨k, hk, rfl, rfl, rfl, hwq⟩ := hrel
          subst hwq
          by_cases hkc : k < L
          · have hkz : (k : Int) < (L : Int) := by omega
            have hcl := HCL.out k
            have hcs := HCS.out k
            rw [hcl] at hcs
            obtain ⟨lo, hlo⟩ : ∃ lo, s.length + k - K = lo := ⟨_, rfl⟩
            rw [hlo] at hcs
            have HCS2 : Hid (strOf (copyN s K (k + 1)) = strOf (copyN s K k) ++ strOf [(copyN s K k).getD lo 0]) := Lib.hid (by rw [hcs, strOf_append])
            have hsub := strOf_sub1 (copyN s K k) lo (by omega)
            have hszc : (strOf (copyN s K k)).size = s.length + k := by rw [size_strOf]; exact hcl
            generalize strOf [(copyN s K k).getD lo 0] = X1 at *
            have hx1 : X1.size ≤ 1 := by rw [← hsub, ByteArray.size_extract]; omega
            generalize strOf (copyN s K k) = SC at *
            obtain ⟨m, hm⟩ : ∃ m, s.length + k = m := ⟨_, rfl⟩
            rw [hm] at hszc hlo
            have hadd : ∀ W', (Op.stringOp .add SC X1).run Tryz.prog W' = .ok (.string (SC ++ X1)) W' := fun W' => run_string_add_sum _ _ _ (by omega)
            have hwa : IntKind.i64.wrap ((m : Int) - (K : Int)) = (lo : Int) := by rw [IntWalk.i64_in _ (by omega)]; omega
            have hwb : IntKind.i64.wrap ((lo : Int) + 1) = ((lo + 1 : Nat) : Int) := by rw [IntWalk.i64_in _ (by omega)]; rfl
            have hwk : IntKind.i64.wrap ((k : Int) + 1) = ((k + 1 : Nat) : Int) := by rw [IntWalk.i64_in _ (by omega)]; rfl
            have hb1 : (0 : Int) ≤ (lo : Int) := by omega
            have hb2 : ((lo + 1 : Nat) : Int) ≤ (m : Int) := by omega
            have hb3 : (lo : Int) ≤ ((lo + 1 : Nat) : Int) := by omega
            have HM := Lib.hid hm
            clear hcl hcs hlo hm
            go_wp2
            go_roundg (300 - (k + 1))
            · exact ⟨k + 1, by omega, by first | rfl | omega, by first | rfl | go_num, by rw [HCS2.out], rfl⟩
            · omega
          · have hkz : ¬ (k : Int) < (L : Int) := by omega
            obtain rfl : k = L := by omega
            have HS3 : Hid (∀ x ∈ copyN s K k, x < 256) := Lib.hid (copyN_lt s K HS.out k)
            have hl3 : (copyN s K k).length ≤ 65000 := by rw [HCL.out]; omega
            go_wp2
            go_roundg (1000000 - (i + 1))
            · exact ⟨i + 1, copyN s K k, by omega, rfl, by first | rfl | go_num, rfl, hl3, HS3, HE2, HU4⟩
            · omega
    · have hcz : ¬ (i : Int) < (n : Int) := by omega
      obtain rfl : i = n := by omega
      have HS2 : Hid (expTo l [] = some s) := Lib.hid (by rw [HE.out, List.drop_of_length_le (by rw [HLN.out]; exact Nat.le_refl _)]; rfl)
      go_wp2
      go_returns
      exact ⟨by rw [HS2.out]; rfl, HU.out⟩
end Go.Proofs.YtdehkaknbmbieaaGreat

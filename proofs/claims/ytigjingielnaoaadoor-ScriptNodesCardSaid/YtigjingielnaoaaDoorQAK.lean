/- Package strings: IndexByte, Index, Count, Split at a sign: walks. -/
import Derived.Laws.Strings3
import Derived.Deep.OwnRows
import Derived.Deep.LoopGhost
import Derived.WalkKit
import Derived.Handy
import Derived.Outline
import Derived.BigQuiet
import Derived.Deep.CutBlock
import Derived.Deep.DeepCutAuto
import Derived.Deep.DeepFit
import Derived.Deep.Light
import Derived.Deep.QuietTactic
import Derived.Deep.RegionHeld3
import Derived.Deep.RegionLaw
import Derived.IntWalk
import Derived.Laws.BitsAllLaws
import Derived.Lib.MinMax
import Derived.StillTailTactics
import Derived.WalkSpells
import Derived.Lib.Hide
import Derived.Test.YtigjingielnaoaaDoorQAJ
import Derived.Test.YtigjingielnaoaaDoorQAH
import Derived.Test.YtigjingielnaoaaDoorQAA
namespace Go.Proofs.YtigjingielnaoaaDoor
set_option linter.unusedVariables false
set_option linter.unusedSimpArgs false
set_option linter.unusedSectionVars false
open Go.RowKit
set_option linter.unusedVariables false

set_option maxRecDepth 100000 in
theorem sliteByteC_any (s : ByteArray) (c : UInt8) (w : World) : Calls Tryd.prog 93 #[.string s, .int .u8 (c.toNat : Nat)] w fun e w' => e = .returned (.int .i64 (Lib.indexByte s.data.toList c)) ∧ w = w' := by
  have HC : Hid (((c.toNat : Nat) : Int).toNat.toUInt8 = c) := Lib.hid (by simp)
  go_enter Tryd.func93, Tryd.ntmps93
  go_wp2
  rw [run_callFunc_extern Tryd.func112 (by kernel_rfl) (by kernel_rfl) (by kernel_rfl) (e := Extern.BytealgIndexByte.indexByte) (by kernel_rfl), Lib.run_indexByteString, HC.out]
  simp only [Result.andThen]
  rw [Oper.upon_value]
  go_wp2
  go_ret
  exact ⟨rfl, rfl⟩
set_option maxRecDepth 100000 in
theorem sliteC_any (s : ByteArray) (c : UInt8) (w : World) : Calls Tryd.prog 105 #[.string s, .string { data := #[c] }] w fun e w' => e = .returned (.int .i64 (Lib.indexByte s.data.toList c)) ∧ w = w' := by
  have HB := Lib.hid (fun w => sliteByteC_any s c w)
  cases hq : ([c] == s.toList) with
  | true =>
    have e1 : s.toList = [c] := (beq_iff_eq.1 hq).symm
    have HZ := Lib.hid (show Lib.indexByte s.data.toList c = 0 from by rw [ByteArray.toList_eq] at e1; rw [e1]; simp [Lib.indexByte])
    clear e1
    go_enter Tryd.func105, Tryd.ntmps105
    go_wp2
    go_ret
    exact ⟨by rw [HZ.out]; rfl, rfl⟩
  | false =>
    go_enter Tryd.func105, Tryd.ntmps105
    go_wp2_with fail
    refine (HB.out _).mono ?_
    rintro e w' ⟨rfl, rfl⟩
    go_wp2
    go_ret
    exact ⟨rfl, rfl⟩
theorem indexC_any (s : ByteArray) (c : UInt8) (w : World) : Calls Tryd.prog 81 #[.string s, .string { data := #[c] }] w fun e w' => e = .returned (.int .i64 (Lib.indexByte s.data.toList c)) ∧ w = w' := by
  have HB := Lib.hid (fun w => sliteC_any s c w)
  go_enter Tryd.func81, Tryd.ntmps81
  go_wp2_with fail
  refine (HB.out _).mono ?_
  rintro e w' ⟨rfl, rfl⟩
  go_wp2
  go_ret
  exact ⟨rfl, rfl⟩
set_option maxRecDepth 100000 in
theorem countC_any (s : ByteArray) (c : UInt8) (w : World) : Calls Tryd.prog 45 #[.string s, .string { data := #[c] }] w fun e w' => e = .returned (.int .i64 (((splitC c.toNat (bytesOf s)).length - 1 : Nat) : Int)) ∧ w = w' := by
  have HC : Hid (((c.toNat : Nat) : Int).toNat.toUInt8 = c) := Lib.hid (by simp)
  have HN : Hid (Lib.countByte s.data.toList c = (splitC c.toNat (bytesOf s)).length - 1) := Lib.hid (by rw [countByte_c, splitC_len]; simp)
  go_enter Tryd.func45, Tryd.ntmps45
  go_wp2
  rw [run_callFunc_extern Tryd.func80 (by kernel_rfl) (by kernel_rfl) (by kernel_rfl) (e := Extern.BytealgCount.count) (by kernel_rfl), Lib.run_countString]
  simp only [Result.andThen]
  rw [Oper.upon_value]
  go_wp2
  go_ret
  refine ⟨?_, rfl⟩
  show Ending.returned (.int .i64 ((Lib.countByte s.data.toList c : Nat) : Int)) = _
  rw [HN.out]
/-- A slice that reads as texts. -/
def TextsAt (w : World) (v : Value) (ps : List (List Nat)) : Prop := ∃ a cap, v = .slice a ps.length cap ∧ ps.length ≤ cap ∧ ∀ i, (hi : i < ps.length) → ∃ b off, a = some ⟨b, off, none⟩ ∧ w.cell? ⟨b, off + i, none⟩ = some (.string (strOf ps[i]))
theorem textCell_lt {w : World} {b o : Nat} {u : Value} (h : w.cell? ⟨b, o, none⟩ = some u) : b < w.heap.size := by
  rcases Nat.lt_or_ge b w.heap.size with h1 | h1
  · exact h1
  · rw [show w.cell? ⟨b, o, none⟩ = none by simp [World.cell?, Array.getElem?_eq_none h1]] at h; cases h
theorem TextsAt.below {w w' : World} {v : Value} {l : List (List Nat)} {B : Nat} (h : TextsAt w v l) (hb : Below B w w') (hB : w.heap.size ≤ B) : TextsAt w' v l := by
  obtain ⟨a, cap, e, hc, h⟩ := h
  refine ⟨a, cap, e, hc, fun i hi => ?_⟩
  obtain ⟨b, off, e2, h2⟩ := h i hi
  exact ⟨b, off, e2, (hb.cell (p := ⟨b, _, none⟩) (Nat.lt_of_lt_of_le (textCell_lt h2) hB)).trans h2⟩
theorem TextsAt.upd {w w' : World} {v : Value} {l : List (List Nat)} (h : TextsAt w v l) (hu : Upd [] w w') : TextsAt w' v l := h.below hu.below (Nat.le_refl _)
def strsV (ps : List (List Nat)) : List Value := ps.map fun p => .string (strOf p)
theorem Row.textsAt {w : World} {v : Value} {ps : List (List Nat)} (h : Row w 9 1 v ps.length (strsV ps)) : TextsAt w v ps := by
  obtain ⟨a, cap, rfl⟩ := h.form
  rcases Nat.eq_zero_or_pos ps.length with h0 | h0
  · refine ⟨a, cap, rfl, by omega, fun i hi => by omega⟩
  · obtain ⟨g, cap', hv, _, hc⟩ := h.form' h0
    simp only [Value.slice.injEq] at hv
    obtain ⟨rfl, _, rfl⟩ := hv
    exact ⟨_, _, rfl, hc, fun i hi => ⟨g, 0, rfl, by rw [Nat.zero_add]; exact h.cell i (by unfold strsV; rw [List.getElem?_map, List.getElem?_eq_getElem hi]; rfl)⟩⟩
theorem infoStrE : (Tryd.prog.info? 9).map (fun i => (i.zero, i.size, i.bytes)) = some (some (.string ByteArray.empty), 1, 16) := by kernel_rfl
theorem split_set (ps rest : List (List Nat)) (x : List Nat) (n : Nat) (h : ps.length < n) : (strsV ps ++ List.replicate (n - ps.length) (Value.string .empty)).set ps.length (Value.string (strOf x)) = strsV (ps ++ [x]) ++ List.replicate (n - (ps.length + 1)) (Value.string .empty) := by
  rw [show n - ps.length = (n - (ps.length + 1)) + 1 by omega, List.replicate_succ, List.set_append_right _ _ (by simp [strsV])]
  simp [strsV]
set_option maxRecDepth 100000 in
set_option maxHeartbeats 3200000 in
theorem genSplitC_row (s : ByteArray) (c : UInt8) (w : World) (hs : s.size ≤ 1000000) :
    Calls Tryd.prog 56 #[.string s, .string { data := #[c] }, .int .i64 0, .int .i64 (-1)] w fun e w' => (∃ v, e = .returned v ∧ Row w' 9 1 v (splitC c.toNat (bytesOf s)).length (strsV (splitC c.toNat (bytesOf s)))) ∧ Upd [] w w' := by
  have HI := Lib.hid (fun (x : ByteArray) (w : World) => indexC_any x c w)
  have HC := Lib.hid (fun w => countC_any s c w)
  obtain ⟨P, hP⟩ : ∃ P, splitC c.toNat (bytesOf s) = P := ⟨_, rfl⟩
  have hP0 : 0 < P.length := by rw [← hP]; exact List.length_pos_iff.2 (splitC_ne _ _)
  have hPs : P.length ≤ s.size + 1 := by rw [← hP, splitC_len]; have := List.countP_le_length (p := fun x => decide (x = c.toNat)) (l := bytesOf s); rw [length_bytesOf] at this; omega
  obtain ⟨n, hn⟩ : ∃ n, P.length = n + 1 := ⟨P.length - 1, by omega⟩
  rw [hP, hn] at HC
  rw [hP]
  have HP := Lib.hid hP
  have HPN := Lib.hid hn
  have hn1 : n ≤ s.size := by omega
  clear hP hP0 hPs hn
  rw [Nat.add_sub_cancel] at HC
  have hmin : min ((n : Int) + 1) ((s.size : Int) + 1) = ((n + 1 : Nat) : Int) := by omega
  have hmk := fun w => run_make_row' (P := Tryd.prog) 40 9 (.string ByteArray.empty) 16 Tryd.underlying40 infoStrE rfl .i64 .i64 (n + 1) (by omega) (by omega) (w := w)
  have ec : ((n + 1 : Nat) : Int) = (n : Int) + 1 := by omega
  simp only [ec] at hmk hmin
  clear ec
  have hn0 : ¬ (n : Int) + 1 < 0 := by omega
  go_enter Tryd.func56, Tryd.ntmps56
  go_wp2_with fail
  refine (HC.out _).mono ?_
  rintro e w' ⟨rfl, rfl⟩
  go_wp2
  have hB0 : Row (w.alloc (.cells (madeCells #[.string ByteArray.empty] (n + 1)) 9)) 9 1 (.slice (some ⟨w.heap.size, 0, none⟩) (n + 1) (n + 1)) (n + 1) (strsV [] ++ List.replicate (n + 1 - 0) (Value.string .empty)) := by
    have e : madeCells #[.string ByteArray.empty] (n + 1) = (strsV [] ++ List.replicate (n + 1 - 0) (Value.string .empty)).toArray := by
      apply Array.ext
      · simp [madeCells, strsV]
      · intro j h1 h2
        simp [madeCells, strsV, Nat.mod_one]
    rw [e]
    exact Row.new w _ 9 (n + 1) 1 (by unfold maxLen; omega) (by simp [strsV])
  have hU0 : Upd [] w (w.alloc (.cells (madeCells #[.string ByteArray.empty] (n + 1)) 9)) := (Upd.refl [] w).alloc _
  generalize w.alloc (.cells (madeCells #[.string ByteArray.empty] (n + 1)) 9) = w0 at *
  obtain ⟨b0, hb0⟩ : ∃ b0, w.heap.size = b0 := ⟨_, rfl⟩
  rw [hb0] at hB0 ⊢
  have HBS := Lib.hid (show w.heap.size ≤ b0 by omega)
  have HB0 := Lib.hid hB0
  have HU0 := Lib.hid hU0
  clear hb0 hmk hmin hB0 hU0
  go_loopg [0, 10] n (fun g s0 s10 wr => ∃ i, i ≤ n ∧ g = n - i ∧ s10 = .int .i64 (i : Nat) ∧ ∃ (done : List (List Nat)) (rest : ByteArray), s0 = .string rest ∧ done.length = i ∧ rest.size ≤ 1000000 ∧ Hid (done ++ splitC c.toNat (bytesOf rest) = P) ∧ Hid (Row wr 9 1 (.slice (some ⟨b0, 0, none⟩) (n + 1) (n + 1)) (n + 1) (strsV done ++ List.replicate (n + 1 - i) (Value.string .empty))) ∧ Hid (Upd [] w wr))
  case atStart => exact ⟨0, Nat.zero_le _, rfl, rfl, [], s, rfl, rfl, hs, HP, HB0, HU0⟩
  case round =>
    clear HB0 HU0 HP
    obtain ⟨i, hin, rfl, rfl, done, rest, rfl, hdl, hrs, HD, HR, HU⟩ := hrel
    have c1 := HR.out.cell i (u := .string .empty) (by
      have hz : (strsV done).length = i := by rw [← hdl]; simp [strsV]
      rw [List.getElem?_append_right (by omega), hz, List.getElem?_replicate, if_pos (by omega)])
    have f1 := HR.out.frz i
    have hsp := splitC_first c.toNat (bytesOf rest)
    have hsl := splitC_last c.toNat (bytesOf rest)
    have hfl := firstC_le c.toNat (bytesOf rest)
    have hix : Lib.indexByte rest.data.toList c = if firstC c.toNat (bytesOf rest) < rest.size then (firstC c.toNat (bytesOf rest) : Int) else -1 := by rw [indexByte_c]; rw [show rest.data.toList.length = rest.size by simp]; rfl
    have HSE := Lib.hid (fun f => strOf_take rest f)
    have HDE := Lib.hid (fun f => (bytesOf_extract rest (f + 1) rest.size))
    have hbl := length_bytesOf rest
    rw [hbl] at hsp hsl hfl
    have HI2 := Lib.hid (HI.out rest)
    by_cases hc9 : i < n
    · have hcz : (i : Int) < (n : Int) := by omega
      have hiz : (i : Int) < (n : Int) + 1 := by omega
      by_cases hf : firstC c.toNat (bytesOf rest) < rest.size
      · have e1 := hsp hf
        rw [hix, if_pos hf] at HI2
        have HE : Hid (done ++ [(bytesOf rest).take (firstC c.toNat (bytesOf rest))] ++ splitC c.toNat (bytesOf (rest.extract (firstC c.toNat (bytesOf rest) + 1) rest.size)) = P) := Lib.hid (by
          rw [HDE.out, List.take_of_length_le (l := (bytesOf rest).drop _) (by rw [List.length_drop, hbl]; omega), ← HD.out, e1, List.append_assoc]; rfl)
        have HS1 := Lib.hid (HSE.out (firstC c.toNat (bytesOf rest)))
        generalize firstC c.toNat (bytesOf rest) = f at *
        have HST := Lib.hid (split_set done [] ((bytesOf rest).take f) (n + 1) (by omega))
        clear hsp hsl hix hbl e1 HSE HDE
        have hf0 : ¬ (f : Int) < 0 := by omega
        have hf1 : (f : Int) ≤ (rest.size : Int) := by omega
        have hf2 : (f : Int) + 1 ≤ (rest.size : Int) := by omega
        go_wp2_with fail
        refine (HI2.out _).mono ?_
        rintro e w9 ⟨rfl, rfl⟩
        go_wp2
        have HR2 : Hid (Row (wr.setCell ⟨b0, i, none⟩ (.string (rest.extract 0 f))) 9 1 (.slice (some ⟨b0, 0, none⟩) (n + 1) (n + 1)) (n + 1) (strsV (done ++ [(bytesOf rest).take f]) ++ List.replicate (n + 1 - (i + 1)) (Value.string .empty))) := Lib.hid (by
          have := HR.out.set i (.string (rest.extract 0 f))
          rw [HS1.out] at this ⊢
          rw [← hdl] at this ⊢
          rw [HST.out] at this
          exact this)
        go_roundg (n - (i + 1))
        · exact ⟨i + 1, by omega, rfl, by first | rfl | go_num, done ++ [(bytesOf rest).take f], rest.extract (f + 1) rest.size, rfl, by rw [List.length_append, hdl]; rfl, by rw [ByteArray.size_extract]; omega, HE, HR2, Lib.hid (HU.out.setCell (.inr HBS.out) _)⟩
        · omega
      · exfalso
        have e1 := hsl hf
        have := congrArg List.length HD.out
        rw [e1, List.length_append, HPN.out] at this
        simp at this
        omega
    · have hcz : ¬ (i : Int) < (n : Int) := by omega
      have hni : i = n := by omega
      subst hni
      have e1 : splitC c.toNat (bytesOf rest) = [bytesOf rest] := by
        have h1 := congrArg List.length HD.out
        rw [List.length_append, HPN.out] at h1
        have h2 : (splitC c.toNat (bytesOf rest)).length = 1 := by omega
        by_cases hf : firstC c.toNat (bytesOf rest) < rest.size
        · have h3 := hsp hf
          rw [h3] at h2
          simp at h2
          exact absurd h2 (splitC_ne _ _)
        · exact hsl hf
      have HPE : Hid (P = done ++ [bytesOf rest]) := Lib.hid (by rw [← HD.out, e1])
      have HST := Lib.hid (split_set done [] (bytesOf rest) (i + 1) (by omega))
      have HSB := Lib.hid (strOf_bytesOf rest)
      clear hsp hsl hix hbl e1 HSE HDE HI2 hfl
      have hi1 : (i : Int) < (i : Int) + 1 := by omega
      go_wp2
      go_ret
      refine ⟨⟨_, rfl, ?_⟩, HU.out.setCell (.inr HBS.out) _⟩
      have hR2 := HR.out.set i (.string rest)
      rw [← HSB.out] at hR2
      have HST2 := HST.out
      rw [← hdl] at hR2 HST2
      rw [HST2, ← HPE.out] at hR2
      have hz : P.length = done.length + 1 := by rw [HPN.out, hdl]
      rw [← hz, Nat.sub_self, List.replicate_zero, List.append_nil] at hR2
      rw [HSB.out] at hR2
      rw [hz, hdl] at hR2
      rw [hz, hdl]
      exact hR2
theorem splitC_row (s : ByteArray) (c : UInt8) (w : World) (hs : s.size ≤ 1000000) :
    Calls Tryd.prog 39 #[.string s, .string { data := #[c] }] w fun e w' => (∃ v, e = .returned v ∧ Row w' 9 1 v (splitC c.toNat (bytesOf s)).length (strsV (splitC c.toNat (bytesOf s)))) ∧ Upd [] w w' := by
  have HG := Lib.hid (fun w => genSplitC_row s c w hs)
  generalize splitC c.toNat (bytesOf s) = P at *
  go_enter Tryd.func39, Tryd.ntmps39
  go_wp2_with fail
  refine (HG.out _).mono ?_
  rintro e w1 ⟨⟨v, rfl, hv⟩, hu⟩
  go_wp2
  go_ret
  exact ⟨⟨v, rfl, hv⟩, hu⟩
end Go.Proofs.YtigjingielnaoaaDoor
namespace Go.Proofs.YtigjingielnaoaaDoor
set_option linter.unusedVariables false
set_option linter.unusedSimpArgs false
set_option linter.unusedSectionVars false
open Go.RowKit
set_option linter.unusedVariables false
set_option linter.unusedSimpArgs false

/-- The value of a digit; nought for what is none. -/
def hexIx (c : Nat) : Nat := (max 0 (Lib.indexByte hexes.data.toList (UInt8.ofNat c))).toNat
theorem indexByte_lt (c : UInt8) : ∀ l : List UInt8, 0 < l.length → Lib.indexByte l c < l.length
  | [], h => by cases h
  | b :: l, _ => by
    unfold Lib.indexByte
    have hge := Lib.indexByte_ge l c
    split
    · simp
    · split
      · simp; omega
      · cases l with
        | nil => simp_all [Lib.indexByte]
        | cons b2 l2 =>
          have := indexByte_lt c (b2 :: l2) (by simp)
          simp only [List.length_cons] at this ⊢
          omega
theorem hexIx_lt (c : Nat) : hexIx c < 16 := by
  unfold hexIx
  have h := indexByte_lt (UInt8.ofNat c) hexes.data.toList (by decide)
  have hl : hexes.data.toList.length = 16 := rfl
  rw [hl] at h
  omega
theorem hexIx_hexd (k : Nat) (h : k < 16) : hexIx (hexd k) = k := by
  have : ∀ k : Fin 16, hexIx (hexd k.val) = k.val := by decide
  exact this ⟨k, h⟩
theorem indexB_any (s : ByteArray) (c : UInt8) (w : World) : Calls Tryd.prog 57 #[.string s, .int .u8 (c.toNat : Nat)] w fun e w' => e = .returned (.int .i64 (Lib.indexByte s.data.toList c)) ∧ w = w' := by
  have HB := Lib.hid (fun w => sliteByteC_any s c w)
  go_enter Tryd.func57, Tryd.ntmps57
  go_wp2_with fail
  refine (HB.out _).mono ?_
  rintro e w' ⟨rfl, rfl⟩
  go_wp2
  go_ret
  exact ⟨rfl, rfl⟩
end Go.Proofs.YtigjingielnaoaaDoor
namespace Go.Proofs.YtigjingielnaoaaDoor
set_option linter.unusedVariables false
set_option linter.unusedSimpArgs false
set_option linter.unusedSectionVars false
open Go.RowKit
set_option linter.unusedVariables false
set_option linter.unusedSimpArgs false

/-- The sign of a mode's bit. -/
def signP (m i : Nat) : Nat := if m / 2 ^ i % 2 = 0 then 45 else if i % 3 = 0 then 120 else if i % 3 = 1 then 119 else 114
def signsP (m : Nat) : Nat → List Nat
  | 0 => []
  | i + 1 => signP m i :: signsP m i
theorem signsP_len (m : Nat) : ∀ i, (signsP m i).length = i
  | 0 => rfl
  | i + 1 => by rw [signsP, List.length_cons, signsP_len m i]
theorem permTo_get (m : Nat) : ∀ (i j : Nat), i ≤ 9 → (h : j < 9) → (permTo m i)[j]'(by rw [permTo_len]; exact h) = if j < i ∧ m / 2 ^ (8 - j) % 2 = 0 then 45 else permBase[j]'h
  | 0, j, _, h => by rw [if_neg (by omega)]; rfl
  | i + 1, j, hi, h => by
    have ih := permTo_get m i j (by omega) h
    by_cases hq : m / 2 ^ (8 - i) % 2 = 0
    · have e : permTo m (i + 1) = (permTo m i).set i 45 := by show (if m / 2 ^ (8 - i) % 2 = 0 then _ else _) = _; rw [if_pos hq]
      simp only [e, List.getElem_set]
      by_cases hij : i = j
      · subst hij
        rw [if_pos rfl, if_pos ⟨by omega, hq⟩]
      · rw [if_neg hij, ih]
        by_cases hj : j < i
        · by_cases hz : m / 2 ^ (8 - j) % 2 = 0
          · rw [if_pos ⟨hj, hz⟩, if_pos ⟨by omega, hz⟩]
          · rw [if_neg (by omega), if_neg (by omega)]
        · rw [if_neg (by omega), if_neg (by omega)]
    · have e : permTo m (i + 1) = permTo m i := by show (if m / 2 ^ (8 - i) % 2 = 0 then _ else _) = _; rw [if_neg hq]
      simp only [e, ih]
      by_cases hij : i = j
      · subst hij
        rw [if_neg (by omega), if_neg (by omega)]
      · by_cases hj : j < i
        · by_cases hz : m / 2 ^ (8 - j) % 2 = 0
          · rw [if_pos ⟨hj, hz⟩, if_pos ⟨by omega, hz⟩]
          · rw [if_neg (by omega), if_neg (by omega)]
        · rw [if_neg (by omega), if_neg (by omega)]
theorem signs_perm (m : Nat) : ∀ i, i ≤ 9 → signsP m i = (permTo m 9).drop (9 - i)
  | 0, _ => by rw [List.drop_of_length_le (by rw [permTo_len]; omega)]; rfl
  | i + 1, h => by
    rw [List.drop_eq_getElem_cons (by rw [permTo_len]; omega), permTo_get m 9 (9 - (i + 1)) (by omega) (by omega), signsP, signs_perm m i (by omega), show 9 - (i + 1) + 1 = 9 - i by omega]
    congr 1
    unfold signP
    rw [show 8 - (9 - (i + 1)) = i by omega]
    by_cases hz : m / 2 ^ i % 2 = 0
    · rw [if_pos hz, if_pos ⟨by omega, hz⟩]
    · have hz2 : ¬ (9 - (i + 1) < 9 ∧ m / 2 ^ i % 2 = 0) := fun h => hz h.2
      rw [if_neg hz, if_neg hz2]
      clear hz hz2
      rcases (by omega : i = 0 ∨ i = 1 ∨ i = 2 ∨ i = 3 ∨ i = 4 ∨ i = 5 ∨ i = 6 ∨ i = 7 ∨ i = 8) with rfl | rfl | rfl | rfl | rfl | rfl | rfl | rfl | rfl <;> rfl
set_option maxRecDepth 100000 in
set_option maxHeartbeats 3200000 in
theorem rperm_any (n : Nat) (w : World) (hn : n < 512) : Calls Tryd.prog 22 #[.int .i64 (n : Nat)] w fun e w' => e = .returned (.string (strOf (permTo n 9))) ∧ Upd [] w w' := by
  have HV : Hid (permTo n 9 = signsP n 9) := Lib.hid (by rw [signs_perm n 9 (by omega)]; rfl)
  rw [HV.out]
  go_enter Tryd.func22, Tryd.ntmps22
  go_wp2
  go_loopg [0, 3, 4] 9 (fun g s0 s3 s4 wr => ∃ i m, i ≤ 9 ∧ g = 9 - i ∧ s4 = .int .i64 (i : Nat) ∧ s0 = .int .i64 (m : Nat) ∧ Hid (m = n / 2 ^ i) ∧ m < 512 ∧ s3 = .string (strOf (signsP n i)) ∧ Hid (Upd [] w wr))
  case atStart => exact ⟨0, n, by omega, rfl, rfl, rfl, Lib.hid (by simp), hn, rfl, Lib.hid (Upd.refl _ _)⟩
  case round =>
    obtain ⟨i, m, hi, rfl, rfl, rfl, HM, hm, rfl, HU⟩ := hrel
    by_cases hc9 : i < 9
    · have hcz : (i : Int) < 9 := by omega
      have hadd := fun w => addl_row [signP n i] (signsP n i) (by rw [signsP_len]; simp; omega) w
      have HS : Hid ([signP n i] ++ signsP n i = signsP n (i + 1)) := Lib.hid rfl
      rw [HS.out] at hadd
      have HM2 : Hid (m / 2 = n / 2 ^ (i + 1)) := Lib.hid (by rw [HM.out, Nat.div_div_eq_div_mul, Nat.pow_succ])
      have hm2 : m / 2 < 512 := by omega
      by_cases h1 : m % 2 = 1
      · have t1 : ((m : Int) % 2 == 1) = true := by simp; omega
        have hsg : signP n i = if i % 3 = 0 then 120 else if i % 3 = 1 then 119 else 114 := by
          unfold signP
          rw [← HM.out, if_neg (by omega)]
        have hB := Blk.new wr [.string ({ data := #[120] } : ByteArray), .string ({ data := #[119] } : ByteArray), .string ({ data := #[114] } : ByteArray)] 9
        have h3 : i % 3 < 3 := by omega
        have ht3 : ((i : Int) % 3).toNat = i % 3 := by omega
        rcases (by omega : i % 3 = 0 ∨ i % 3 = 1 ∨ i % 3 = 2) with e | e | e
        all_goals (
          have ez : (i : Int) % 3 = ((i % 3 : Nat) : Int) := by omega
          rw [e] at ez hsg
          simp at hsg)
        · have c0 := hB.cell 0 rfl
          clear hB
          rw [hsg] at hadd
          have hadd2 : ∀ w : World, (Op.stringOp .add ({ data := #[120] } : ByteArray) (strOf (signsP n i))).run Tryd.prog w = .ok (.string (strOf (signsP n (i + 1)))) w := hadd
          go_wp2
          go_roundg (9 - (i + 1))
          · exact ⟨i + 1, m / 2, by omega, rfl, by first | rfl | go_num, by first | rfl | go_num, HM2, hm2, rfl, Lib.hid (HU.out.alloc _)⟩
          · omega
        · have c0 := hB.cell 1 rfl
          clear hB
          rw [hsg] at hadd
          have hadd2 : ∀ w : World, (Op.stringOp .add ({ data := #[119] } : ByteArray) (strOf (signsP n i))).run Tryd.prog w = .ok (.string (strOf (signsP n (i + 1)))) w := hadd
          go_wp2
          go_roundg (9 - (i + 1))
          · exact ⟨i + 1, m / 2, by omega, rfl, by first | rfl | go_num, by first | rfl | go_num, HM2, hm2, rfl, Lib.hid (HU.out.alloc _)⟩
          · omega
        · have c0 := hB.cell 2 rfl
          clear hB
          rw [hsg] at hadd
          have hadd2 : ∀ w : World, (Op.stringOp .add ({ data := #[114] } : ByteArray) (strOf (signsP n i))).run Tryd.prog w = .ok (.string (strOf (signsP n (i + 1)))) w := hadd
          go_wp2
          go_roundg (9 - (i + 1))
          · exact ⟨i + 1, m / 2, by omega, rfl, by first | rfl | go_num, by first | rfl | go_num, HM2, hm2, rfl, Lib.hid (HU.out.alloc _)⟩
          · omega
      · have t1 : ((m : Int) % 2 == 1) = false := by simp; omega
        have hsg : signP n i = 45 := by
          unfold signP
          rw [← HM.out, if_pos (by omega)]
        rw [hsg] at hadd
        have hadd2 : ∀ w : World, (Op.stringOp .add ({ data := #[45] } : ByteArray) (strOf (signsP n i))).run Tryd.prog w = .ok (.string (strOf (signsP n (i + 1)))) w := hadd
        clear hadd hsg HS h1
        go_wp2
        go_roundg (9 - (i + 1))
        · exact ⟨i + 1, m / 2, by omega, rfl, by first | rfl | go_num, by first | rfl | go_num, HM2, hm2, rfl, HU⟩
        · omega
    · have hcz : ¬ (i : Int) < 9 := by omega
      have h9 : i = 9 := by omega
      subst h9
      go_wp2
      go_ret
      exact ⟨rfl, HU.out⟩
end Go.Proofs.YtigjingielnaoaaDoor

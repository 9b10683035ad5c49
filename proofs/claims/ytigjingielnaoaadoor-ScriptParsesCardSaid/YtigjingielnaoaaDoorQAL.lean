/- Package strings: IndexByte, Index, Count, Split at a sign: walks. -/
import Derived.Laws.Strings3
import Derived.Deep.OwnRows
import Derived.Deep.LoopGhost
import Derived.WalkKit
import Derived.Handy
import Derived.Outline
import Derived.BigQuiet
import Derived.Deep.CutBlock
import Derived.Deep.DeepCutAuto
import Derived.Deep.DeepFit
import Derived.Deep.Light
import Derived.Deep.QuietTactic
import Derived.Deep.RegionHeld3
import Derived.Deep.RegionLaw
import Derived.IntWalk
import Derived.Laws.BitsAllLaws
import Derived.Lib.MinMax
import Derived.StillTailTactics
import Derived.WalkSpells
import Derived.Lib.Hide
import Derived.Test.YtigjingielnaoaaDoorQAK
import Derived.Test.YtigjingielnaoaaDoorQAG
import Derived.Test.YtigjingielnaoaaDoorQAA
import Derived.Lib.Builder
import Derived.Lib.UnsafeStr
import Derived.Test.YtigjingielnaoaaDoorRows
import Derived.Laws.Rows
import Derived.OwnWalk
import Derived.Test.YtigjingielnaoaaDoorQAD
namespace Go.Proofs.YtigjingielnaoaaDoor
set_option linter.unusedVariables false
set_option linter.unusedSimpArgs false
set_option linter.unusedSectionVars false
open Go.RowKit
set_option linter.unusedVariables false

set_option maxRecDepth 100000 in
theorem sliteByteC_any (s : ByteArray) (c : UInt8) (w : World) : Calls Tryd.prog 93 #[.string s, .int .u8 (c.toNat : Nat)] w fun e w' => e = .returned (.int .i64 (Lib.indexByte s.data.toList c)) ∧ w = w' := by
  have HC : Hid (((c.toNat : Nat) : Int).toNat.toUInt8 = c) := Lib.hid (by simp)
  go_enter Tryd.func93, Tryd.ntmps93
  go_wp2
  rw [run_callFunc_extern Tryd.func112 (by kernel_rfl) (by kernel_rfl) (by kernel_rfl) (e := Extern.BytealgIndexByte.indexByte) (by kernel_rfl), Lib.run_indexByteString, HC.out]
  simp only [Result.andThen]
  rw [Oper.upon_value]
  go_wp2
  go_ret
  exact ⟨rfl, rfl⟩
set_option maxRecDepth 100000 in
theorem sliteC_any (s : ByteArray) (c : UInt8) (w : World) : Calls Tryd.prog 105 #[.string s, .string { data := #[c] }] w fun e w' => e = .returned (.int .i64 (Lib.indexByte s.data.toList c)) ∧ w = w' := by
  have HB := Lib.hid (fun w => sliteByteC_any s c w)
  cases hq : ([c] == s.toList) with
  | true =>
    have e1 : s.toList = [c] := (beq_iff_eq.1 hq).symm
    have HZ := Lib.hid (show Lib.indexByte s.data.toList c = 0 from by rw [ByteArray.toList_eq] at e1; rw [e1]; simp [Lib.indexByte])
    clear e1
    go_enter Tryd.func105, Tryd.ntmps105
    go_wp2
    go_ret
    exact ⟨by rw [HZ.out]; rfl, rfl⟩
  | false =>
    go_enter Tryd.func105, Tryd.ntmps105
    go_wp2_with fail
    refine (HB.out _).mono ?_
    rintro e w' ⟨rfl, rfl⟩
    go_wp2
    go_ret
    exact ⟨rfl, rfl⟩
theorem indexC_any (s : ByteArray) (c : UInt8) (w : World) : Calls Tryd.prog 81 #[.string s, .string { data := #[c] }] w fun e w' => e = .returned (.int .i64 (Lib.indexByte s.data.toList c)) ∧ w = w' := by
  have HB := Lib.hid (fun w => sliteC_any s c w)
  go_enter Tryd.func81, Tryd.ntmps81
  go_wp2_with fail
  refine (HB.out _).mono ?_
  rintro e w' ⟨rfl, rfl⟩
  go_wp2
  go_ret
  exact ⟨rfl, rfl⟩
set_option maxRecDepth 100000 in
theorem countC_any (s : ByteArray) (c : UInt8) (w : World) : Calls Tryd.prog 45 #[.string s, .string { data := #[c] }] w fun e w' => e = .returned (.int .i64 (((splitC c.toNat (bytesOf s)).length - 1 : Nat) : Int)) ∧ w = w' := by
  have HC : Hid (((c.toNat : Nat) : Int).toNat.toUInt8 = c) := Lib.hid (by simp)
  have HN : Hid (Lib.countByte s.data.toList c = (splitC c.toNat (bytesOf s)).length - 1) := Lib.hid (by rw [countByte_c, splitC_len]; simp)
  go_enter Tryd.func45, Tryd.ntmps45
  go_wp2
  rw [run_callFunc_extern Tryd.func80 (by kernel_rfl) (by kernel_rfl) (by kernel_rfl) (e := Extern.BytealgCount.count) (by kernel_rfl), Lib.run_countString]
  simp only [Result.andThen]
  rw [Oper.upon_value]
  go_wp2
  go_ret
  refine ⟨?_, rfl⟩
  show Ending.returned (.int .i64 ((Lib.countByte s.data.toList c : Nat) : Int)) = _
  rw [HN.out]
/-- A slice that reads as texts. -/
def TextsAt (w : World) (v : Value) (ps : List (List Nat)) : Prop := ∃ a cap, v = .slice a ps.length cap ∧ ps.length ≤ cap ∧ ∀ i, (hi : i < ps.length) → ∃ b off, a = some ⟨b, off, none⟩ ∧ w.cell? ⟨b, off + i, none⟩ = some (.string (strOf ps[i]))
theorem textCell_lt {w : World} {b o : Nat} {u : Value} (h : w.cell? ⟨b, o, none⟩ = some u) : b < w.heap.size := by
  rcases Nat.lt_or_ge b w.heap.size with h1 | h1
  · exact h1
  · rw [show w.cell? ⟨b, o, none⟩ = none by simp [World.cell?, Array.getElem?_eq_none h1]] at h; cases h
theorem TextsAt.below {w w' : World} {v : Value} {l : List (List Nat)} {B : Nat} (h : TextsAt w v l) (hb : Below B w w') (hB : w.heap.size ≤ B) : TextsAt w' v l := by
  obtain ⟨a, cap, e, hc, h⟩ := h
  refine ⟨a, cap, e, hc, fun i hi => ?_⟩
  obtain ⟨b, off, e2, h2⟩ := h i hi
  exact ⟨b, off, e2, (hb.cell (p := ⟨b, _, none⟩) (Nat.lt_of_lt_of_le (textCell_lt h2) hB)).trans h2⟩
theorem TextsAt.upd {w w' : World} {v : Value} {l : List (List Nat)} (h : TextsAt w v l) (hu : Upd [] w w') : TextsAt w' v l := h.below hu.below (Nat.le_refl _)
def strsV (ps : List (List Nat)) : List Value := ps.map fun p => .string (strOf p)
theorem Row.textsAt {w : World} {v : Value} {ps : List (List Nat)} (h : Row w 9 1 v ps.length (strsV ps)) : TextsAt w v ps := by
  obtain ⟨a, cap, rfl⟩ := h.form
  rcases Nat.eq_zero_or_pos ps.length with h0 | h0
  · refine ⟨a, cap, rfl, by omega, fun i hi => by omega⟩
  · obtain ⟨g, cap', hv, _, hc⟩ := h.form' h0
    simp only [Value.slice.injEq] at hv
    obtain ⟨rfl, _, rfl⟩ := hv
    exact ⟨_, _, rfl, hc, fun i hi => ⟨g, 0, rfl, by rw [Nat.zero_add]; exact h.cell i (by unfold strsV; rw [List.getElem?_map, List.getElem?_eq_getElem hi]; rfl)⟩⟩
theorem infoStrE : (Tryd.prog.info? 9).map (fun i => (i.zero, i.size, i.bytes)) = some (some (.string ByteArray.empty), 1, 16) := by kernel_rfl
theorem split_set (ps rest : List (List Nat)) (x : List Nat) (n : Nat) (h : ps.length < n) : (strsV ps ++ List.replicate (n - ps.length) (Value.string .empty)).set ps.length (Value.string (strOf x)) = strsV (ps ++ [x]) ++ List.replicate (n - (ps.length + 1)) (Value.string .empty) := by
  rw [show n - ps.length = (n - (ps.length + 1)) + 1 by omega, List.replicate_succ, List.set_append_right _ _ (by simp [strsV])]
  simp [strsV]
set_option maxRecDepth 100000 in
set_option maxHeartbeats 3200000 in
theorem genSplitC_row (s : ByteArray) (c : UInt8) (w : World) (hs : s.size ≤ 1000000) :
    Calls Tryd.prog 56 #[.string s, .string { data := #[c] }, .int .i64 0, .int .i64 (-1)] w fun e w' => (∃ v, e = .returned v ∧ Row w' 9 1 v (splitC c.toNat (bytesOf s)).length (strsV (splitC c.toNat (bytesOf s)))) ∧ Upd [] w w' := by
  have HI := Lib.hid (fun (x : ByteArray) (w : World) => indexC_any x c w)
  have HC := Lib.hid (fun w => countC_any s c w)
  obtain ⟨P, hP⟩ : ∃ P, splitC c.toNat (bytesOf s) = P := ⟨_, rfl⟩
  have hP0 : 0 < P.length := by rw [← hP]; exact List.length_pos_iff.2 (splitC_ne _ _)
  have hPs : P.length ≤ s.size + 1 := by rw [← hP, splitC_len]; have := List.countP_le_length (p := fun x => decide (x = c.toNat)) (l := bytesOf s); rw [length_bytesOf] at this; omega
  obtain ⟨n, hn⟩ : ∃ n, P.length = n + 1 := ⟨P.length - 1, by omega⟩
  rw [hP, hn] at HC
  rw [hP]
  have HP := Lib.hid hP
  have HPN := Lib.hid hn
  have hn1 : n ≤ s.size := by omega
  clear hP hP0 hPs hn
  rw [Nat.add_sub_cancel] at HC
  have hmin : min ((n : Int) + 1) ((s.size : Int) + 1) = ((n + 1 : Nat) : Int) := by omega
  have hmk := fun w => run_make_row' (P := Tryd.prog) 40 9 (.string ByteArray.empty) 16 Tryd.underlying40 infoStrE rfl .i64 .i64 (n + 1) (by omega) (by omega) (w := w)
  have ec : ((n + 1 : Nat) : Int) = (n : Int) + 1 := by omega
  simp only [ec] at hmk hmin
  clear ec
  have hn0 : ¬ (n : Int) + 1 < 0 := by omega
  go_enter Tryd.func56, Tryd.ntmps56
  go_wp2_with fail
  refine (HC.out _).mono ?_
  rintro e w' ⟨rfl, rfl⟩
  go_wp2
  have hB0 : Row (w.alloc (.cells (madeCells #[.string ByteArray.empty] (n + 1)) 9)) 9 1 (.slice (some ⟨w.heap.size, 0, none⟩) (n + 1) (n + 1)) (n + 1) (strsV [] ++ List.replicate (n + 1 - 0) (Value.string .empty)) := by
    have e : madeCells #[.string ByteArray.empty] (n + 1) = (strsV [] ++ List.replicate (n + 1 - 0) (Value.string .empty)).toArray := by
      apply Array.ext
      · simp [madeCells, strsV]
      · intro j h1 h2
        simp [madeCells, strsV, Nat.mod_one]
    rw [e]
    exact Row.new w _ 9 (n + 1) 1 (by unfold maxLen; omega) (by simp [strsV])
  have hU0 : Upd [] w (w.alloc (.cells (madeCells #[.string ByteArray.empty] (n + 1)) 9)) := (Upd.refl [] w).alloc _
  generalize w.alloc (.cells (madeCells #[.string ByteArray.empty] (n + 1)) 9) = w0 at *
  obtain ⟨b0, hb0⟩ : ∃ b0, w.heap.size = b0 := ⟨_, rfl⟩
  rw [hb0] at hB0 ⊢
  have HBS := Lib.hid (show w.heap.size ≤ b0 by omega)
  have HB0 := Lib.hid hB0
  have HU0 := Lib.hid hU0
  clear hb0 hmk hmin hB0 hU0
  go_loopg [0, 10] n (fun g s0 s10 wr => ∃ i, i ≤ n ∧ g = n - i ∧ s10 = .int .i64 (i : Nat) ∧ ∃ (done : List (List Nat)) (rest : ByteArray), s0 = .string rest ∧ done.length = i ∧ rest.size ≤ 1000000 ∧ Hid (done ++ splitC c.toNat (bytesOf rest) = P) ∧ Hid (Row wr 9 1 (.slice (some ⟨b0, 0, none⟩) (n + 1) (n + 1)) (n + 1) (strsV done ++ List.replicate (n + 1 - i) (Value.string .empty))) ∧ Hid (Upd [] w wr))
  case atStart => exact ⟨0, Nat.zero_le _, rfl, rfl, [], s, rfl, rfl, hs, HP, HB0, HU0⟩
  case round =>
    clear HB0 HU0 HP
    obtain ⟨i, hin, rfl, rfl, done, rest, rfl, hdl, hrs, HD, HR, HU⟩ := hrel
    have c1 := HR.out.cell i (u := .string .empty) (by
      have hz : (strsV done).length = i := by rw [← hdl]; simp [strsV]
      rw [List.getElem?_append_right (by omega), hz, List.getElem?_replicate, if_pos (by omega)])
    have f1 := HR.out.frz i
    have hsp := splitC_first c.toNat (bytesOf rest)
    have hsl := splitC_last c.toNat (bytesOf rest)
    have hfl := firstC_le c.toNat (bytesOf rest)
    have hix : Lib.indexByte rest.data.toList c = if firstC c.toNat (bytesOf rest) < rest.size then (firstC c.toNat (bytesOf rest) : Int) else -1 := by rw [indexByte_c]; rw [show rest.data.toList.length = rest.size by simp]; rfl
    have HSE := Lib.hid (fun f => strOf_take rest f)
    have HDE := Lib.hid (fun f => (bytesOf_extract rest (f + 1) rest.size))
    have hbl := length_bytesOf rest
    rw [hbl] at hsp hsl hfl
    have HI2 := Lib.hid (HI.out rest)
    by_cases hc9 : i < n
    · have hcz : (i : Int) < (n : Int) := by omega
      have hiz : (i : Int) < (n : Int) + 1 := by omega
      by_cases hf : firstC c.toNat (bytesOf rest) < rest.size
      · have e1 := hsp hf
        rw [hix, if_pos hf] at HI2
        have HE : Hid (done ++ [(bytesOf rest).take (firstC c.toNat (bytesOf rest))] ++ splitC c.toNat (bytesOf (rest.extract (firstC c.toNat (bytesOf rest) + 1) rest.size)) = P) := Lib.hid (by
          rw [HDE.out, List.take_of_length_le (l := (bytesOf rest).drop _) (by rw [List.length_drop, hbl]; omega), ← HD.out, e1, List.append_assoc]; rfl)
        have HS1 := Lib.hid (HSE.out (firstC c.toNat (bytesOf rest)))
        generalize firstC c.toNat (bytesOf rest) = f at *
        have HST := Lib.hid (split_set done [] ((bytesOf rest).take f) (n + 1) (by omega))
        clear hsp hsl hix hbl e1 HSE HDE
        have hf0 : ¬ (f : Int) < 0 := by omega
        have hf1 : (f : Int) ≤ (rest.size : Int) := by omega
        have hf2 : (f : Int) + 1 ≤ (rest.size : Int) := by omega
        go_wp2_with fail
        refine (HI2.out _).mono ?_
        rintro e w9 ⟨rfl, rfl⟩
        go_wp2
        have HR2 : Hid (Row (wr.setCell ⟨b0, i, none⟩ (.string (rest.extract 0 f))) 9 1 (.slice (some ⟨b0, 0, none⟩) (n + 1) (n + 1)) (n + 1) (strsV (done ++ [(bytesOf rest).take f]) ++ List.replicate (n + 1 - (i + 1)) (Value.string .empty))) := Lib.hid (by
          have := HR.out.set i (.string (rest.extract 0 f))
          rw [HS1.out] at this ⊢
          rw [← hdl] at this ⊢
          rw [HST.out] at this
          exact this)
        go_roundg (n - (i + 1))
        · exact ⟨i + 1, by omega, rfl, by first | rfl | go_num, done ++ [(bytesOf rest).take f], rest.extract (f + 1) rest.size, rfl, by rw [List.length_append, hdl]; rfl, by rw [ByteArray.size_extract]; omega, HE, HR2, Lib.hid (HU.out.setCell (.inr HBS.out) _)⟩
        · omega
      · exfalso
        have e1 := hsl hf
        have := congrArg List.length HD.out
        rw [e1, List.length_append, HPN.out] at this
        simp at this
        omega
    · have hcz : ¬ (i : Int) < (n : Int) := by omega
      have hni : i = n := by omega
      subst hni
      have e1 : splitC c.toNat (bytesOf rest) = [bytesOf rest] := by
        have h1 := congrArg List.length HD.out
        rw [List.length_append, HPN.out] at h1
        have h2 : (splitC c.toNat (bytesOf rest)).length = 1 := by omega
        by_cases hf : firstC c.toNat (bytesOf rest) < rest.size
        · have h3 := hsp hf
          rw [h3] at h2
          simp at h2
          exact absurd h2 (splitC_ne _ _)
        · exact hsl hf
      have HPE : Hid (P = done ++ [bytesOf rest]) := Lib.hid (by rw [← HD.out, e1])
      have HST := Lib.hid (split_set done [] (bytesOf rest) (i + 1) (by omega))
      have HSB := Lib.hid (strOf_bytesOf rest)
      clear hsp hsl hix hbl e1 HSE HDE HI2 hfl
      have hi1 : (i : Int) < (i : Int) + 1 := by omega
      go_wp2
      go_ret
      refine ⟨⟨_, rfl, ?_⟩, HU.out.setCell (.inr HBS.out) _⟩
      have hR2 := HR.out.set i (.string rest)
      rw [← HSB.out] at hR2
      have HST2 := HST.out
      rw [← hdl] at hR2 HST2
      rw [HST2, ← HPE.out] at hR2
      have hz : P.length = done.length + 1 := by rw [HPN.out, hdl]
      rw [← hz, Nat.sub_self, List.replicate_zero, List.append_nil] at hR2
      rw [HSB.out] at hR2
      rw [hz, hdl] at hR2
      rw [hz, hdl]
      exact hR2
theorem splitC_row (s : ByteArray) (c : UInt8) (w : World) (hs : s.size ≤ 1000000) :
    Calls Tryd.prog 39 #[.string s, .string { data := #[c] }] w fun e w' => (∃ v, e = .returned v ∧ Row w' 9 1 v (splitC c.toNat (bytesOf s)).length (strsV (splitC c.toNat (bytesOf s)))) ∧ Upd [] w w' := by
  have HG := Lib.hid (fun w => genSplitC_row s c w hs)
  generalize splitC c.toNat (bytesOf s) = P at *
  go_enter Tryd.func39, Tryd.ntmps39
  go_wp2_with fail
  refine (HG.out _).mono ?_
  rintro e w1 ⟨⟨v, rfl, hv⟩, hu⟩
  go_wp2
  go_ret
  exact ⟨⟨v, rfl, hv⟩, hu⟩
end Go.Proofs.YtigjingielnaoaaDoor
namespace Go.Proofs.YtigjingielnaoaaDoor
set_option linter.unusedVariables false
set_option linter.unusedSimpArgs false
set_option linter.unusedSectionVars false
open Go.RowKit
set_option linter.unusedVariables false
set_option linter.unusedSimpArgs false

/-- The value of a digit; nought for what is none. -/
def hexIx (c : Nat) : Nat := (max 0 (Lib.indexByte hexes.data.toList (UInt8.ofNat c))).toNat
theorem indexByte_lt (c : UInt8) : ∀ l : List UInt8, 0 < l.length → Lib.indexByte l c < l.length
  | [], h => by cases h
  | b :: l, _ => by
    unfold Lib.indexByte
    have hge := Lib.indexByte_ge l c
    split
    · simp
    · split
      · simp; omega
      · cases l with
        | nil => simp_all [Lib.indexByte]
        | cons b2 l2 =>
          have := indexByte_lt c (b2 :: l2) (by simp)
          simp only [List.length_cons] at this ⊢
          omega
theorem hexIx_lt (c : Nat) : hexIx c < 16 := by
  unfold hexIx
  have h := indexByte_lt (UInt8.ofNat c) hexes.data.toList (by decide)
  have hl : hexes.data.toList.length = 16 := rfl
  rw [hl] at h
  omega
theorem indexB_any (s : ByteArray) (c : UInt8) (w : World) : Calls Tryd.prog 57 #[.string s, .int .u8 (c.toNat : Nat)] w fun e w' => e = .returned (.int .i64 (Lib.indexByte s.data.toList c)) ∧ w = w' := by
  have HB := Lib.hid (fun w => sliteByteC_any s c w)
  go_enter Tryd.func57, Tryd.ntmps57
  go_wp2_with fail
  refine (HB.out _).mono ?_
  rintro e w' ⟨rfl, rfl⟩
  go_wp2
  go_ret
  exact ⟨rfl, rfl⟩
end Go.Proofs.YtigjingielnaoaaDoor
namespace Go.Proofs.YtigjingielnaoaaDoor
set_option linter.unusedVariables false
set_option linter.unusedSimpArgs false
set_option linter.unusedSectionVars false
open Go.RowKit
set_option linter.unusedVariables false

theorem infoBy8 : (Tryd.prog.info? 5).map (fun i => (i.zero, i.size, i.bytes)) = some (some (.int .u8 0), 1, 1) := by kernel_rfl
theorem sizeBld : (Tryd.prog.info? 103).map (·.size) = some 2 := by kernel_rfl
theorem cellsBy8 : Tryd.prog.cellsOf 5 = 1 := by kernel_rfl
/-- A type whose variables begin with a builder, and are no more. -/
def IsBldT (T : TypeId) : Prop := liesAt Tryd.prog Tryd.prog.depth T (2 / Tryd.prog.cellsOf T) 0 103 1 = true ∧ T ≠ 5
/-- A builder at b (from B on) with some bytes. -/
def Bld (T : TypeId) (B b : Nat) (l : List Nat) (w : World) : Prop := Lib.IsBuilder T 5 B b (u8s l) w
theorem Bld.fresh (T : TypeId) (w : World) : Bld T w.heap.size w.heap.size [] (w.alloc (.cells #[.pointer none, .slice none 0 0] T)) := Lib.fresh_isBuilder T _ w
theorem Bld.drew {T : TypeId} {B b : Nat} {l : List Nat} {w : World} (h : Bld T B b l w) : Bld T B b l w.drew := h.elim (fun x => .inl x.drew) (fun x => .inr x.drew)
theorem Bld.lt {T : TypeId} {B b : Nat} {l : List Nat} {w : World} (h : Bld T B b l w) : b < w.heap.size := h.elim (fun x => x.lt) (fun x => x.lt)
set_option maxRecDepth 100000 in
theorem copyCheck_any {T : TypeId} (hT : IsBldT T) (B b : Nat) (l : List Nat) (w : World) (h : Bld T B b l w) :
    Calls Tryd.prog 100 #[.pointer (some ⟨b, 0, none⟩)] w fun e w' => e = .returned (.tuple #[]) ∧ Lib.BuilderAt T 5 B b (.pointer (some ⟨b, 0, none⟩)) (u8s l) w' ∧ Below B w w' := by
  obtain ⟨j, hj, hjs⟩ := Option.map_eq_some_iff.1 sizeBld
  rcases h with h | h
  · have h0 := h.cell0
    have hsh := h.shape
    have hfz := h.frozen0
    have hF := Lib.hid h
    clear h
    go_enter Tryd.func100, Tryd.ntmps100
    go_wp2
    rw [Lib.run_to_unsafe w ⟨b, 0, none⟩ Tryd.underlying101 Tryd.underlying126 hj (by rw [hjs]; decide) hsh (Nat.zero_lt_succ 1)]
    simp only [Result.andThen]
    rw [Oper.upon_value]
    go_wp2
    rw [run_callFunc_extern Tryd.func118 (by kernel_rfl) (by kernel_rfl) (by kernel_rfl) (e := Extern.AbiNoEscape.same) (by kernel_rfl)]
    rw [Lib.run_noEscape]
    simp only [Result.andThen]
    rw [Oper.upon_value]
    go_wp2
    rw [Lib.run_from_unsafe w ⟨b, 0, none⟩ Tryd.underlying126 Tryd.underlying101 hj hsh hT.1]
    simp only [Result.andThen]
    rw [Oper.upon_value]
    go_wp2
    go_end0
    exact ⟨rfl, hF.out.used _, (Below.refl _ _).setCell (p := ⟨b, 0, none⟩) hF.out.1 _⟩
  · have h0 := h.cell0
    have hF := Lib.hid h
    have hNE := fun w => Lib.run_neq_ptr_same (P := Tryd.prog) w (tp := 101) (te := 103) ⟨b, 0, none⟩ Tryd.underlying101 hj
    clear h
    go_enter Tryd.func100, Tryd.ntmps100
    go_wp2
    go_end0
    exact ⟨rfl, hF.out, Below.refl _ _⟩
set_option maxRecDepth 100000 in
theorem writeString_any {T : TypeId} (hT : IsBldT T) (B b : Nat) (l : List Nat) (s : ByteArray) (w : World) (h : Bld T B b l w) (hlen : l.length + s.size ≤ 1000000000) (hBw : B ≤ w.heap.size) :
    Calls Tryd.prog 71 #[.pointer (some ⟨b, 0, none⟩), .string s] w fun e w' => e = .returned (.tuple #[.int .i64 s.size, .nilIface]) ∧ Bld T B b (l ++ bytesOf s) w' ∧ Below B w w' := by
  obtain ⟨i0, hi, hz0, hz1, hz2⟩ := info_parts infoBy8
  have HC := Lib.hid (copyCheck_any hT B b l w h)
  clear h
  go_enter Tryd.func71, Tryd.ntmps71
  go_wp2_with fail
  refine HC.out.mono ?_
  rintro e w1 ⟨rfl, h1, hb1⟩
  obtain ⟨hB, v, hbk, hown, hne⟩ := h1
  have hlt : b < w1.heap.size := Lib.BuilderAt.lt ⟨hB, v, hbk, hown, hne⟩
  have c0 : w1.cell? ⟨b, 0, none⟩ = some (.pointer (some ⟨b, 0, none⟩)) := by rw [Lib.cell_of_heap hbk]; rfl
  have c1 : w1.cell? ⟨b, 1, none⟩ = some v := by rw [Lib.cell_of_heap hbk]; rfl
  have HBK := Lib.hid hbk
  have hul : (u8s l).length = l.length := length_u8s l
  clear hbk
  go_wp2_with (at_builtin; refine Lib.wpList_append_own_string _ rfl _ _ 85 9 rfl B 5 i0 Tryd.underlying85 Tryd.underlying9 hi hz0 hz1 hz2 _ _ _ rfl hown s rfl ?c3 ?c4 ?c5 ?_)
  case c3 => unfold maxLen; omega
  case c4 => omega
  case c5 => have := hb1.size; omega
  intro v' w2 hown' hgrow _
  have hb2 : w2.heap[b]? = some (.cells #[.pointer (some ⟨b, 0, none⟩), v] T (0, 0)) := by
    rw [hgrow.block b hlt (fun e => hne e.symm)]
    exact HBK.out
  have d1 : w2.cell? ⟨b, 1, none⟩ = some v := by rw [Lib.cell_of_heap hb2]; rfl
  have f1 : w2.frozen? ⟨b, 1, none⟩ = false := Lib.frozen_of_heap hb2 1
  obtain ⟨ao, n', cap, rfl⟩ : ∃ ao n' cap, v' = .slice ao n' cap := by
    rcases hown'.2 with ⟨hv, _⟩ | ⟨g, cap, cur, hv, _⟩
    · exact ⟨_, _, _, hv⟩
    · exact ⟨_, _, _, hv⟩
  have HFIN : Hid (Bld T B b (l ++ bytesOf s) (w2.setCell ⟨b, 1, none⟩ (.slice ao n' cap)) ∧ Below B w (w2.setCell ⟨b, 1, none⟩ (.slice ao n' cap))) := Lib.hid ⟨.inr (by
    rw [strCells_eq] at hown'
    have e : u8s l ++ u8s (bytesOf s) = u8s (l ++ bytesOf s) := (u8s_append _ _).symm
    rw [e] at hown'
    exact Lib.BuilderAt.put (T := T) (e := 5) hB hb2 (bs' := u8s (l ++ bytesOf s)) (by
      have e2 : (u8s (l ++ bytesOf s)).length = l.length + s.size := by rw [length_u8s, List.length_append, length_bytesOf]
      rw [e2]; exact hown') hT.2), (hb1.grown hgrow (by have := hb1.size; omega) (fun k hk => (hown.lt k hk).1)).setCell (p := ⟨b, 1, none⟩) hB _⟩
  clear hown' hgrow hb2 hown hb1
  go_wp2
  go_ret2
  exact ⟨rfl, HFIN.out⟩
theorem strOf_eq' (l : List Nat) (h : ∀ x ∈ l, x < 256) : u8s l = Lib.byteCells (l.map UInt8.ofNat) := by
  unfold u8s Lib.byteCells
  rw [List.map_map]
  refine List.map_congr_left fun x hx => ?_
  have := h x hx
  simp only [Function.comp, UInt8.toNat_ofNat']
  rw [Nat.mod_eq_of_lt (by omega)]
set_option maxRecDepth 100000 in
theorem bString_any {T : TypeId} (B b : Nat) (l : List Nat) (w : World) (h : Bld T B b l w) (h0 : l ≠ []) (hb : ∀ x ∈ l, x < 256) :
    Calls Tryd.prog 72 #[.pointer (some ⟨b, 0, none⟩)] w fun e w' => e = .returned (.string (strOf l)) ∧ Below B w w' := by
  obtain ⟨p, hB, v, hbk, hown, hne⟩ : ∃ p, Lib.BuilderAt T 5 B b p (u8s l) w := by
    rcases h with h | h
    · exact ⟨_, h⟩
    · exact ⟨_, h⟩
  have hl0 : l.length ≠ 0 := by simpa using h0
  rw [length_u8s] at hown
  obtain ⟨g, cap, cur, rfl, hbg, hg, hnc, hcm, hcs, htake⟩ : ∃ g cap cur, v = .slice (some ⟨g, 0, none⟩) l.length cap ∧ B ≤ g ∧ w.heap[g]? = some (.cells cur 5 (0, 0)) ∧ l.length ≤ cap ∧ cap ≤ maxLen ∧ cur.size = cap * 1 ∧ cur.toList.take (l.length * 1) = u8s l := by
    rcases hown.2 with ⟨_, hz⟩ | ⟨g, cap, cur, hv, r⟩
    · exact absurd hz hl0
    · exact ⟨g, cap, cur, hv, r⟩
  have c1 : w.drew.cell? ⟨b, 1, none⟩ = some (.slice (some ⟨g, 0, none⟩) l.length cap) := by
    have : w.drew.heap[b]? = some (.cells #[p, .slice (some ⟨g, 0, none⟩) l.length cap] T (0, 0)) := hbk
    rw [Lib.cell_of_heap this]; rfl
  have hSD : (Builtin.unsafeSliceData_ #[85] 119 #[.slice (some ⟨g, 0, none⟩) l.length cap]).run Tryd.prog w.drew = .ok (.pointer (some ⟨g, 0, none⟩)) w.drew :=
    Lib.run_unsafeSliceData_row _ _ _ _ _ _ (by omega)
  have hml : (l.map UInt8.ofNat).length = l.length := by simp
  have hUS : (Builtin.unsafeString_ #[119, 3] 9 #[.pointer (some ⟨g, 0, none⟩), .int .i64 l.length]).run Tryd.prog w.drew = .ok (.string (strOf l)) (w.drew.freeze ⟨g, 0, none⟩ l.length) := by
    have := Lib.run_unsafeString_row (P := Tryd.prog) w.drew 119 3 9 5 Tryd.underlying119 cellsBy8 g cur.size (by have hg' : w.drew.heap[g]? = some (.cells cur 5 (0, 0)) := hg; simp [World.shape?, hg']) (l.map UInt8.ofNat) (by simpa using h0) (by rw [hml]; omega) (by rw [hml]; unfold maxLen at hcm; omega) (by
      intro j x hx
      have := hown.cells (g := g) rfl j (.int .u8 x.toNat) (by
        rw [strOf_eq' l hb]; unfold Lib.byteCells; rw [List.getElem?_map, hx]; rfl)
      exact this)
    rw [hml] at this
    exact this
  clear hml
  have HFIN : Hid (Below B w (w.drew.freeze ⟨g, 0, none⟩ l.length)) := Lib.hid (Lib.below_freeze (Below.drew (Below.refl B w)) (p := ⟨g, 0, none⟩) hbg _)
  have HTK := Lib.hid htake
  clear htake hown hg hbk hne h
  go_enter Tryd.func72, Tryd.ntmps72
  go_wp2
  go_region
  all_goals (go_wp2; go_ret; exact ⟨rfl, HFIN.out⟩)
end Go.Proofs.YtigjingielnaoaaDoor
namespace Go.Proofs.YtigjingielnaoaaDoor
set_option linter.unusedVariables false
set_option linter.unusedSimpArgs false
set_option linter.unusedSectionVars false
open Go.RowKit
set_option linter.unusedVariables false

theorem at_upd {T : TypeId} {B b : Nat} {p : Value} {bs : List Value} {w w' : World} (h : Lib.BuilderAt T 5 B b p bs w) (hu : Upd [] w w') : Lib.BuilderAt T 5 B b p bs w' := by
  have hlt := h.lt
  obtain ⟨hB, v, hbk, hown, hne⟩ := h
  refine ⟨hB, v, (hu.block b hlt (by simp)).trans hbk, ⟨hown.1, ?_⟩, hne⟩
  rcases hown.2 with ⟨hv, hz⟩ | ⟨g, cap, cur, hv, hBg, hg, r⟩
  · exact .inl ⟨hv, hz⟩
  · exact .inr ⟨g, cap, cur, hv, hBg, (hu.block g (Array.getElem?_eq_some_iff.1 hg).1 (by simp)).trans hg, r⟩
theorem Bld.upd {T : TypeId} {B b : Nat} {l : List Nat} {w w' : World} (h : Bld T B b l w) (hu : Upd [] w w') : Bld T B b l w' := h.elim (fun x => .inl (at_upd x hu)) (fun x => .inr (at_upd x hu))
theorem Upd.belowB {B : Nat} {w w' : World} (h : Upd [] w w') (hB : B ≤ w.heap.size) : Below B w w' := h.below' hB (by simp)
end Go.Proofs.YtigjingielnaoaaDoor

/- Package strings: IndexByte, Index, Count, Split at a sign: walks. -/
import Derived.Laws.Strings3
import Derived.Deep.OwnRows
import Derived.Deep.LoopGhost
import Derived.WalkKit
import Derived.Handy
import Derived.Outline
import Derived.BigQuiet
import Derived.Deep.CutBlock
import Derived.Deep.DeepCutAuto
import Derived.Deep.DeepFit
import Derived.Deep.Light
import Derived.Deep.QuietTactic
import Derived.Deep.RegionHeld3
import Derived.Deep.RegionLaw
import Derived.IntWalk
import Derived.Laws.BitsAllLaws
import Derived.Lib.MinMax
import Derived.StillTailTactics
import Derived.WalkSpells
import Derived.Lib.Hide
import Derived.Test.YtigjingielnaoaaDoorQAM
import Derived.Test.YtigjingielnaoaaDoorQAI
import Derived.Test.YtigjingielnaoaaDoorQAA
import Derived.Lib.Builder
import Derived.Lib.UnsafeStr
import Derived.Test.YtigjingielnaoaaDoorRows
import Derived.Laws.Rows
import Derived.OwnWalk
import Derived.Test.YtigjingielnaoaaDoorQAF
import Derived.Lib.MakeNoZero
import Derived.Shelf.RegionOpen
namespace Go.Proofs.YtigjingielnaoaaDoor
set_option linter.unusedVariables false
set_option linter.unusedSimpArgs false
set_option linter.unusedSectionVars false
open Go.RowKit
set_option linter.unusedVariables false

set_option maxRecDepth 100000 in
theorem sliteByteC_any (s : ByteArray) (c : UInt8) (w : World) : Calls Tryd.prog 93 #[.string s, .int .u8 (c.toNat : Nat)] w fun e w' => e = .returned (.int .i64 (Lib.indexByte s.data.toList c)) ∧ w = w' := by
  have HC : Hid (((c.toNat : Nat) : Int).toNat.toUInt8 = c) := Lib.hid (by simp)
  go_enter Tryd.func93, Tryd.ntmps93
  go_wp2
  rw [run_callFunc_extern Tryd.func112 (by kernel_rfl) (by kernel_rfl) (by kernel_rfl) (e := Extern.BytealgIndexByte.indexByte) (by kernel_rfl), Lib.run_indexByteString, HC.out]
  simp only [Result.andThen]
  rw [Oper.upon_value]
  go_wp2
  go_ret
  exact ⟨rfl, rfl⟩
set_option maxRecDepth 100000 in
theorem sliteC_any (s : ByteArray) (c : UInt8) (w : World) : Calls Tryd.prog 105 #[.string s, .string { data := #[c] }] w fun e w' => e = .returned (.int .i64 (Lib.indexByte s.data.toList c)) ∧ w = w' := by
  have HB := Lib.hid (fun w => sliteByteC_any s c w)
  cases hq : ([c] == s.toList) with
  | true =>
    have e1 : s.toList = [c] := (beq_iff_eq.1 hq).symm
    have HZ := Lib.hid (show Lib.indexByte s.data.toList c = 0 from by rw [ByteArray.toList_eq] at e1; rw [e1]; simp [Lib.indexByte])
    clear e1
    go_enter Tryd.func105, Tryd.ntmps105
    go_wp2
    go_ret
    exact ⟨by rw [HZ.out]; rfl, rfl⟩
  | false =>
    go_enter Tryd.func105, Tryd.ntmps105
    go_wp2_with fail
    refine (HB.out _).mono ?_
    rintro e w' ⟨rfl, rfl⟩
    go_wp2
    go_ret
    exact ⟨rfl, rfl⟩
theorem indexC_any (s : ByteArray) (c : UInt8) (w : World) : Calls Tryd.prog 81 #[.string s, .string { data := #[c] }] w fun e w' => e = .returned (.int .i64 (Lib.indexByte s.data.toList c)) ∧ w = w' := by
  have HB := Lib.hid (fun w => sliteC_any s c w)
  go_enter Tryd.func81, Tryd.ntmps81
  go_wp2_with fail
  refine (HB.out _).mono ?_
  rintro e w' ⟨rfl, rfl⟩
  go_wp2
  go_ret
  exact ⟨rfl, rfl⟩
/-- A slice that reads as texts. -/
def TextsAt (w : World) (v : Value) (ps : List (List Nat)) : Prop := ∃ a cap, v = .slice a ps.length cap ∧ ps.length ≤ cap ∧ ∀ i, (hi : i < ps.length) → ∃ b off, a = some ⟨b, off, none⟩ ∧ w.cell? ⟨b, off + i, none⟩ = some (.string (strOf ps[i]))
theorem textCell_lt {w : World} {b o : Nat} {u : Value} (h : w.cell? ⟨b, o, none⟩ = some u) : b < w.heap.size := by
  rcases Nat.lt_or_ge b w.heap.size with h1 | h1
  · exact h1
  · rw [show w.cell? ⟨b, o, none⟩ = none by simp [World.cell?, Array.getElem?_eq_none h1]] at h; cases h
theorem TextsAt.below {w w' : World} {v : Value} {l : List (List Nat)} {B : Nat} (h : TextsAt w v l) (hb : Below B w w') (hB : w.heap.size ≤ B) : TextsAt w' v l := by
  obtain ⟨a, cap, e, hc, h⟩ := h
  refine ⟨a, cap, e, hc, fun i hi => ?_⟩
  obtain ⟨b, off, e2, h2⟩ := h i hi
  exact ⟨b, off, e2, (hb.cell (p := ⟨b, _, none⟩) (Nat.lt_of_lt_of_le (textCell_lt h2) hB)).trans h2⟩
theorem TextsAt.upd {w w' : World} {v : Value} {l : List (List Nat)} (h : TextsAt w v l) (hu : Upd [] w w') : TextsAt w' v l := h.below hu.below (Nat.le_refl _)
def strsV (ps : List (List Nat)) : List Value := ps.map fun p => .string (strOf p)
theorem Row.textsAt {w : World} {v : Value} {ps : List (List Nat)} (h : Row w 9 1 v ps.length (strsV ps)) : TextsAt w v ps := by
  obtain ⟨a, cap, rfl⟩ := h.form
  rcases Nat.eq_zero_or_pos ps.length with h0 | h0
  · refine ⟨a, cap, rfl, by omega, fun i hi => by omega⟩
  · obtain ⟨g, cap', hv, _, hc⟩ := h.form' h0
    simp only [Value.slice.injEq] at hv
    obtain ⟨rfl, _, rfl⟩ := hv
    exact ⟨_, _, rfl, hc, fun i hi => ⟨g, 0, rfl, by rw [Nat.zero_add]; exact h.cell i (by unfold strsV; rw [List.getElem?_map, List.getElem?_eq_getElem hi]; rfl)⟩⟩
theorem infoStrE : (Tryd.prog.info? 9).map (fun i => (i.zero, i.size, i.bytes)) = some (some (.string ByteArray.empty), 1, 16) := by kernel_rfl
theorem split_set (ps rest : List (List Nat)) (x : List Nat) (n : Nat) (h : ps.length < n) : (strsV ps ++ List.replicate (n - ps.length) (Value.string .empty)).set ps.length (Value.string (strOf x)) = strsV (ps ++ [x]) ++ List.replicate (n - (ps.length + 1)) (Value.string .empty) := by
  rw [show n - ps.length = (n - (ps.length + 1)) + 1 by omega, List.replicate_succ, List.set_append_right _ _ (by simp [strsV])]
  simp [strsV]
end Go.Proofs.YtigjingielnaoaaDoor
namespace Go.Proofs.YtigjingielnaoaaDoor
set_option linter.unusedVariables false
set_option linter.unusedSimpArgs false
set_option linter.unusedSectionVars false
open Go.RowKit
set_option linter.unusedVariables false
set_option linter.unusedSimpArgs false

/-- The value of a digit; nought for what is none. -/
def hexIx (c : Nat) : Nat := (max 0 (Lib.indexByte hexes.data.toList (UInt8.ofNat c))).toNat
theorem indexByte_lt (c : UInt8) : ∀ l : List UInt8, 0 < l.length → Lib.indexByte l c < l.length
  | [], h => by cases h
  | b :: l, _ => by
    unfold Lib.indexByte
    have hge := Lib.indexByte_ge l c
    split
    · simp
    · split
      · simp; omega
      · cases l with
        | nil => simp_all [Lib.indexByte]
        | cons b2 l2 =>
          have := indexByte_lt c (b2 :: l2) (by simp)
          simp only [List.length_cons] at this ⊢
          omega
theorem hexIx_lt (c : Nat) : hexIx c < 16 := by
  unfold hexIx
  have h := indexByte_lt (UInt8.ofNat c) hexes.data.toList (by decide)
  have hl : hexes.data.toList.length = 16 := rfl
  rw [hl] at h
  omega
theorem hexIx_hexd (k : Nat) (h : k < 16) : hexIx (hexd k) = k := by
  have : ∀ k : Fin 16, hexIx (hexd k.val) = k.val := by decide
  exact this ⟨k, h⟩
/-- A number of digits to a base (at most ten are looked at). -/
def numB (base : Nat) (l : List Nat) : Nat := (l.take 10).foldl (fun n c => n * base + hexIx c) 0
def foldB (base : Nat) (l : List Nat) : Nat := l.foldl (fun n c => n * base + hexIx c) 0
theorem foldB_snoc (base : Nat) (l : List Nat) (c : Nat) : foldB base (l ++ [c]) = foldB base l * base + hexIx c := by unfold foldB; rw [List.foldl_append]; rfl
theorem foldB_lt (base : Nat) (hb : base ≤ 16) : ∀ (n : Nat) (l : List Nat), l.length = n → foldB base l < 16 ^ n
  | 0, l, h => by rw [List.eq_nil_of_length_eq_zero h]; simp [foldB]
  | n + 1, l, h => by
    rcases List.eq_nil_or_concat l with rfl | ⟨L, c, rfl⟩
    · simp at h
    · rw [List.concat_eq_append] at h ⊢
      have ih := foldB_lt base hb n L (by simp at h; exact h)
      rw [foldB_snoc, Nat.pow_succ]
      have h1 := hexIx_lt c
      have h2 : foldB base L * base ≤ foldB base L * 16 := Nat.mul_le_mul_left _ hb
      omega
theorem foldB_lt2 (base : Nat) (hb : base ≤ 16) (l : List Nat) (hl : l.length ≤ 10) : foldB base l < 1099511627776 := by
  have h1 := foldB_lt base hb l.length l rfl
  have h2 : 16 ^ l.length ≤ 16 ^ 10 := Nat.pow_le_pow_right (by omega) hl
  omega
theorem indexB_any (s : ByteArray) (c : UInt8) (w : World) : Calls Tryd.prog 57 #[.string s, .int .u8 (c.toNat : Nat)] w fun e w' => e = .returned (.int .i64 (Lib.indexByte s.data.toList c)) ∧ w = w' := by
  have HB := Lib.hid (fun w => sliteByteC_any s c w)
  go_enter Tryd.func57, Tryd.ntmps57
  go_wp2_with fail
  refine (HB.out _).mono ?_
  rintro e w' ⟨rfl, rfl⟩
  go_wp2
  go_ret
  exact ⟨rfl, rfl⟩
end Go.Proofs.YtigjingielnaoaaDoor
namespace Go.Proofs.YtigjingielnaoaaDoor
set_option linter.unusedVariables false
set_option linter.unusedSimpArgs false
set_option linter.unusedSectionVars false
open Go.RowKit
set_option linter.unusedVariables false

theorem infoBy8 : (Tryd.prog.info? 5).map (fun i => (i.zero, i.size, i.bytes)) = some (some (.int .u8 0), 1, 1) := by kernel_rfl
theorem sizeBld : (Tryd.prog.info? 103).map (·.size) = some 2 := by kernel_rfl
theorem cellsBy8 : Tryd.prog.cellsOf 5 = 1 := by kernel_rfl
/-- A type whose variables begin with a builder, and are no more. -/
def IsBldT (T : TypeId) : Prop := liesAt Tryd.prog Tryd.prog.depth T (2 / Tryd.prog.cellsOf T) 0 103 1 = true ∧ T ≠ 5
/-- A builder at b (from B on) with some bytes. -/
def Bld (T : TypeId) (B b : Nat) (l : List Nat) (w : World) : Prop := Lib.IsBuilder T 5 B b (u8s l) w
theorem Bld.fresh (T : TypeId) (w : World) : Bld T w.heap.size w.heap.size [] (w.alloc (.cells #[.pointer none, .slice none 0 0] T)) := Lib.fresh_isBuilder T _ w
theorem Bld.drew {T : TypeId} {B b : Nat} {l : List Nat} {w : World} (h : Bld T B b l w) : Bld T B b l w.drew := h.elim (fun x => .inl x.drew) (fun x => .inr x.drew)
theorem Bld.lt {T : TypeId} {B b : Nat} {l : List Nat} {w : World} (h : Bld T B b l w) : b < w.heap.size := h.elim (fun x => x.lt) (fun x => x.lt)
set_option maxRecDepth 100000 in
theorem copyCheck_any {T : TypeId} (hT : IsBldT T) (B b : Nat) (l : List Nat) (w : World) (h : Bld T B b l w) :
    Calls Tryd.prog 100 #[.pointer (some ⟨b, 0, none⟩)] w fun e w' => e = .returned (.tuple #[]) ∧ Lib.BuilderAt T 5 B b (.pointer (some ⟨b, 0, none⟩)) (u8s l) w' ∧ Below B w w' := by
  obtain ⟨j, hj, hjs⟩ := Option.map_eq_some_iff.1 sizeBld
  rcases h with h | h
  · have h0 := h.cell0
    have hsh := h.shape
    have hfz := h.frozen0
    have hF := Lib.hid h
    clear h
    go_enter Tryd.func100, Tryd.ntmps100
    go_wp2
    rw [Lib.run_to_unsafe w ⟨b, 0, none⟩ Tryd.underlying101 Tryd.underlying126 hj (by rw [hjs]; decide) hsh (Nat.zero_lt_succ 1)]
    simp only [Result.andThen]
    rw [Oper.upon_value]
    go_wp2
    rw [run_callFunc_extern Tryd.func118 (by kernel_rfl) (by kernel_rfl) (by kernel_rfl) (e := Extern.AbiNoEscape.same) (by kernel_rfl)]
    rw [Lib.run_noEscape]
    simp only [Result.andThen]
    rw [Oper.upon_value]
    go_wp2
    rw [Lib.run_from_unsafe w ⟨b, 0, none⟩ Tryd.underlying126 Tryd.underlying101 hj hsh hT.1]
    simp only [Result.andThen]
    rw [Oper.upon_value]
    go_wp2
    go_end0
    exact ⟨rfl, hF.out.used _, (Below.refl _ _).setCell (p := ⟨b, 0, none⟩) hF.out.1 _⟩
  · have h0 := h.cell0
    have hF := Lib.hid h
    have hNE := fun w => Lib.run_neq_ptr_same (P := Tryd.prog) w (tp := 101) (te := 103) ⟨b, 0, none⟩ Tryd.underlying101 hj
    clear h
    go_enter Tryd.func100, Tryd.ntmps100
    go_wp2
    go_end0
    exact ⟨rfl, hF.out, Below.refl _ _⟩
set_option maxRecDepth 100000 in
theorem writeString_any {T : TypeId} (hT : IsBldT T) (B b : Nat) (l : List Nat) (s : ByteArray) (w : World) (h : Bld T B b l w) (hlen : l.length + s.size ≤ 1000000000) (hBw : B ≤ w.heap.size) :
    Calls Tryd.prog 71 #[.pointer (some ⟨b, 0, none⟩), .string s] w fun e w' => e = .returned (.tuple #[.int .i64 s.size, .nilIface]) ∧ Bld T B b (l ++ bytesOf s) w' ∧ Below B w w' := by
  obtain ⟨i0, hi, hz0, hz1, hz2⟩ := info_parts infoBy8
  have HC := Lib.hid (copyCheck_any hT B b l w h)
  clear h
  go_enter Tryd.func71, Tryd.ntmps71
  go_wp2_with fail
  refine HC.out.mono ?_
  rintro e w1 ⟨rfl, h1, hb1⟩
  obtain ⟨hB, v, hbk, hown, hne⟩ := h1
  have hlt : b < w1.heap.size := Lib.BuilderAt.lt ⟨hB, v, hbk, hown, hne⟩
  have c0 : w1.cell? ⟨b, 0, none⟩ = some (.pointer (some ⟨b, 0, none⟩)) := by rw [Lib.cell_of_heap hbk]; rfl
  have c1 : w1.cell? ⟨b, 1, none⟩ = some v := by rw [Lib.cell_of_heap hbk]; rfl
  have HBK := Lib.hid hbk
  have hul : (u8s l).length = l.length := length_u8s l
  clear hbk
  go_wp2_with (at_builtin; refine Lib.wpList_append_own_string _ rfl _ _ 85 9 rfl B 5 i0 Tryd.underlying85 Tryd.underlying9 hi hz0 hz1 hz2 _ _ _ rfl hown s rfl ?c3 ?c4 ?c5 ?_)
  case c3 => unfold maxLen; omega
  case c4 => omega
  case c5 => have := hb1.size; omega
  intro v' w2 hown' hgrow _
  have hb2 : w2.heap[b]? = some (.cells #[.pointer (some ⟨b, 0, none⟩), v] T (0, 0)) := by
    rw [hgrow.block b hlt (fun e => hne e.symm)]
    exact HBK.out
  have d1 : w2.cell? ⟨b, 1, none⟩ = some v := by rw [Lib.cell_of_heap hb2]; rfl
  have f1 : w2.frozen? ⟨b, 1, none⟩ = false := Lib.frozen_of_heap hb2 1
  obtain ⟨ao, n', cap, rfl⟩ : ∃ ao n' cap, v' = .slice ao n' cap := by
    rcases hown'.2 with ⟨hv, _⟩ | ⟨g, cap, cur, hv, _⟩
    · exact ⟨_, _, _, hv⟩
    · exact ⟨_, _, _, hv⟩
  have HFIN : Hid (Bld T B b (l ++ bytesOf s) (w2.setCell ⟨b, 1, none⟩ (.slice ao n' cap)) ∧ Below B w (w2.setCell ⟨b, 1, none⟩ (.slice ao n' cap))) := Lib.hid ⟨.inr (by
    rw [strCells_eq] at hown'
    have e : u8s l ++ u8s (bytesOf s) = u8s (l ++ bytesOf s) := (u8s_append _ _).symm
    rw [e] at hown'
    exact Lib.BuilderAt.put (T := T) (e := 5) hB hb2 (bs' := u8s (l ++ bytesOf s)) (by
      have e2 : (u8s (l ++ bytesOf s)).length = l.length + s.size := by rw [length_u8s, List.length_append, length_bytesOf]
      rw [e2]; exact hown') hT.2), (hb1.grown hgrow (by have := hb1.size; omega) (fun k hk => (hown.lt k hk).1)).setCell (p := ⟨b, 1, none⟩) hB _⟩
  clear hown' hgrow hb2 hown hb1
  go_wp2
  go_ret2
  exact ⟨rfl, HFIN.out⟩
theorem strOf_eq' (l : List Nat) (h : ∀ x ∈ l, x < 256) : u8s l = Lib.byteCells (l.map UInt8.ofNat) := by
  unfold u8s Lib.byteCells
  rw [List.map_map]
  refine List.map_congr_left fun x hx => ?_
  have := h x hx
  simp only [Function.comp, UInt8.toNat_ofNat']
  rw [Nat.mod_eq_of_lt (by omega)]
set_option maxRecDepth 100000 in
theorem bString_any {T : TypeId} (B b : Nat) (l : List Nat) (w : World) (h : Bld T B b l w) (h0 : l ≠ []) (hb : ∀ x ∈ l, x < 256) :
    Calls Tryd.prog 72 #[.pointer (some ⟨b, 0, none⟩)] w fun e w' => e = .returned (.string (strOf l)) ∧ Below B w w' := by
  obtain ⟨p, hB, v, hbk, hown, hne⟩ : ∃ p, Lib.BuilderAt T 5 B b p (u8s l) w := by
    rcases h with h | h
    · exact ⟨_, h⟩
    · exact ⟨_, h⟩
  have hl0 : l.length ≠ 0 := by simpa using h0
  rw [length_u8s] at hown
  obtain ⟨g, cap, cur, rfl, hbg, hg, hnc, hcm, hcs, htake⟩ : ∃ g cap cur, v = .slice (some ⟨g, 0, none⟩) l.length cap ∧ B ≤ g ∧ w.heap[g]? = some (.cells cur 5 (0, 0)) ∧ l.length ≤ cap ∧ cap ≤ maxLen ∧ cur.size = cap * 1 ∧ cur.toList.take (l.length * 1) = u8s l := by
    rcases hown.2 with ⟨_, hz⟩ | ⟨g, cap, cur, hv, r⟩
    · exact absurd hz hl0
    · exact ⟨g, cap, cur, hv, r⟩
  have c1 : w.drew.cell? ⟨b, 1, none⟩ = some (.slice (some ⟨g, 0, none⟩) l.length cap) := by
    have : w.drew.heap[b]? = some (.cells #[p, .slice (some ⟨g, 0, none⟩) l.length cap] T (0, 0)) := hbk
    rw [Lib.cell_of_heap this]; rfl
  have hSD : (Builtin.unsafeSliceData_ #[85] 119 #[.slice (some ⟨g, 0, none⟩) l.length cap]).run Tryd.prog w.drew = .ok (.pointer (some ⟨g, 0, none⟩)) w.drew :=
    Lib.run_unsafeSliceData_row _ _ _ _ _ _ (by omega)
  have hml : (l.map UInt8.ofNat).length = l.length := by simp
  have hUS : (Builtin.unsafeString_ #[119, 3] 9 #[.pointer (some ⟨g, 0, none⟩), .int .i64 l.length]).run Tryd.prog w.drew = .ok (.string (strOf l)) (w.drew.freeze ⟨g, 0, none⟩ l.length) := by
    have := Lib.run_unsafeString_row (P := Tryd.prog) w.drew 119 3 9 5 Tryd.underlying119 cellsBy8 g cur.size (by have hg' : w.drew.heap[g]? = some (.cells cur 5 (0, 0)) := hg; simp [World.shape?, hg']) (l.map UInt8.ofNat) (by simpa using h0) (by rw [hml]; omega) (by rw [hml]; unfold maxLen at hcm; omega) (by
      intro j x hx
      have := hown.cells (g := g) rfl j (.int .u8 x.toNat) (by
        rw [strOf_eq' l hb]; unfold Lib.byteCells; rw [List.getElem?_map, hx]; rfl)
      exact this)
    rw [hml] at this
    exact this
  clear hml
  have HFIN : Hid (Below B w (w.drew.freeze ⟨g, 0, none⟩ l.length)) := Lib.hid (Lib.below_freeze (Below.drew (Below.refl B w)) (p := ⟨g, 0, none⟩) hbg _)
  have HTK := Lib.hid htake
  clear htake hown hg hbk hne h
  go_enter Tryd.func72, Tryd.ntmps72
  go_wp2
  go_region
  all_goals (go_wp2; go_ret; exact ⟨rfl, HFIN.out⟩)
end Go.Proofs.YtigjingielnaoaaDoor
namespace Go.Proofs.YtigjingielnaoaaDoor
set_option linter.unusedVariables false
set_option linter.unusedSimpArgs false
set_option linter.unusedSectionVars false
open Go.RowKit
set_option linter.unusedVariables false

theorem at_upd {T : TypeId} {B b : Nat} {p : Value} {bs : List Value} {w w' : World} (h : Lib.BuilderAt T 5 B b p bs w) (hu : Upd [] w w') : Lib.BuilderAt T 5 B b p bs w' := by
  have hlt := h.lt
  obtain ⟨hB, v, hbk, hown, hne⟩ := h
  refine ⟨hB, v, (hu.block b hlt (by simp)).trans hbk, ⟨hown.1, ?_⟩, hne⟩
  rcases hown.2 with ⟨hv, hz⟩ | ⟨g, cap, cur, hv, hBg, hg, r⟩
  · exact .inl ⟨hv, hz⟩
  · exact .inr ⟨g, cap, cur, hv, hBg, (hu.block g (Array.getElem?_eq_some_iff.1 hg).1 (by simp)).trans hg, r⟩
theorem Bld.upd {T : TypeId} {B b : Nat} {l : List Nat} {w w' : World} (h : Bld T B b l w) (hu : Upd [] w w') : Bld T B b l w' := h.elim (fun x => .inl (at_upd x hu)) (fun x => .inr (at_upd x hu))
theorem Upd.belowB {B : Nat} {w w' : World} (h : Upd [] w w') (hB : B ≤ w.heap.size) : Below B w w' := h.below' hB (by simp)
end Go.Proofs.YtigjingielnaoaaDoor
namespace Go.Proofs.YtigjingielnaoaaDoor
set_option linter.unusedVariables false
set_option linter.unusedSimpArgs false
set_option linter.unusedSectionVars false
open Go.RowKit
set_option linter.unusedVariables false

theorem sizeBy8 : (Tryd.prog.info? 5).map (fun x => x.size) = some 1 := by kernel_rfl
set_option maxHeartbeats 2000000 in
set_option maxRecDepth 1000000 in
theorem growB_any {T : TypeId} (hT : IsBldT T) (B b n : Nat) (w : World) (hB : B ≤ b) (hbk : w.heap[b]? = some (.cells #[.pointer (some ⟨b, 0, none⟩), .slice none 0 0] T (0, 0))) (hBw : B ≤ w.heap.size) (hn : n ≤ 281474976710656) :
    Calls Tryd.prog 101 #[.pointer (some ⟨b, 0, none⟩), .int .i64 (n : Nat)] w fun e w' => e = .returned (.tuple #[]) ∧ Bld T B b [] w' ∧ Below B w w' := by
  obtain ⟨cs, hrun, hle, hmax⟩ := Lib.run_makeNoZero (P := Tryd.prog) w.drew #[3] 85 5 Tryd.underlying85 n hn
  have hw : IntKind.i64.wrap (IntKind.i64.wrap 0 + (n : Int)) = n := by
    rw [IntKind.wrap_i64, IntKind.wrap_i64]
    omega
  have hcall : (callFunc 119 #[.int .i64 (IntKind.i64.wrap (IntKind.i64.wrap 0 + (n : Int)))]).run Tryd.prog w.drew = .ok (.value (.slice (some ⟨w.drew.heap.size, 0, none⟩) n cs.size)) (w.drew.drew.drew.alloc (.cells cs 5)) := by
    rw [hw, run_callFunc_extern Tryd.func119 (by kernel_rfl) (by kernel_rfl) (by kernel_rfl) (e := Extern.BytealgMakeNoZero.makeNoZero #[3] #[85]) (by kernel_rfl), hrun]
    rfl
  have hlt : b < w.heap.size := by
    rcases Nat.lt_or_ge b w.heap.size with h' | h'
    · exact h'
    · simp [Array.getElem?_eq_none h'] at hbk
  have c1 : w.drew.cell? ⟨b, 1, none⟩ = some (.slice none 0 0) := by
    have : w.drew.heap[b]? = _ := hbk
    rw [Lib.cell_of_heap this]; rfl
  have c2 : (w.alloc (.cells cs 5)).cell? ⟨b, 1, none⟩ = some (.slice none 0 0) := by
    have : (w.alloc (.cells cs 5)).heap[b]? = _ := (Lib.alloc_old w _ b hlt).trans hbk
    rw [Lib.cell_of_heap this]; rfl
  have f2 : (w.alloc (.cells cs 5)).frozen? ⟨b, 1, none⟩ = false := Lib.frozen_of_heap ((Lib.alloc_old w _ b hlt).trans hbk) 1
  have hcopy : ∀ W : World, (Builtin.copy_ #[85, 85] 3 #[.slice (some ⟨w.heap.size, 0, none⟩) 0 cs.size, .slice none 0 0]).run Tryd.prog W = .ok (goInt 0) W :=
    fun W => run_copy_none W 85 85 3 5 _ _ 0 cs.size 0 0 Tryd.underlying85 sizeBy8 rfl
  clear hw
  have hfin := Lib.grown_fresh (T := T) (e := 5) (cs := cs) hB hbk hBw (hmax (by unfold maxLen; omega)) hT.2
  rw [World.setCell_alloc_past _ _ _ _ hlt] at hfin
  have HFIN := Lib.hid hfin
  clear hfin
  go_enter Tryd.func101, Tryd.ntmps101
  go_wp2
  go_region
  all_goals (go_wp2; go_end0; exact ⟨rfl, .inr HFIN.out.1, HFIN.out.2⟩)
set_option maxRecDepth 100000 in
theorem copyCheckF_any {T : TypeId} (hT : IsBldT T) (B b : Nat) (w : World) (hB : B ≤ b) (hbk : w.heap[b]? = some (.cells #[.pointer none, .slice none 0 0] T (0, 0))) :
    Calls Tryd.prog 100 #[.pointer (some ⟨b, 0, none⟩)] w fun e w' => e = .returned (.tuple #[]) ∧ w' = w.setCell ⟨b, 0, none⟩ (.pointer (some ⟨b, 0, none⟩)) := by
  obtain ⟨j, hj, hjs⟩ := Option.map_eq_some_iff.1 sizeBld
  have h0 : w.cell? ⟨b, 0, none⟩ = some (.pointer none) := by rw [Lib.cell_of_heap hbk]; rfl
  have hsh : w.shape? b = some (T, 2) := by simp [World.shape?, hbk]
  have hfz := Lib.frozen_of_heap hbk 0
  clear hbk
  go_enter Tryd.func100, Tryd.ntmps100
  go_wp2
  rw [Lib.run_to_unsafe w ⟨b, 0, none⟩ Tryd.underlying101 Tryd.underlying126 hj (by rw [hjs]; decide) hsh (Nat.zero_lt_succ 1)]
  simp only [Result.andThen]
  rw [Oper.upon_value]
  go_wp2
  rw [run_callFunc_extern Tryd.func118 (by kernel_rfl) (by kernel_rfl) (by kernel_rfl) (e := Extern.AbiNoEscape.same) (by kernel_rfl)]
  rw [Lib.run_noEscape]
  simp only [Result.andThen]
  rw [Oper.upon_value]
  go_wp2
  rw [Lib.run_from_unsafe w ⟨b, 0, none⟩ Tryd.underlying126 Tryd.underlying101 hj hsh hT.1]
  simp only [Result.andThen]
  rw [Oper.upon_value]
  go_wp2
  go_end0
  exact ⟨rfl, rfl⟩
set_option maxHeartbeats 2000000 in
set_option maxRecDepth 1000000 in
theorem growF_any {T : TypeId} (hT : IsBldT T) (B b n : Nat) (w : World) (hB : B ≤ b) (hbk : w.heap[b]? = some (.cells #[.pointer none, .slice none 0 0] T (0, 0))) (hBw : B ≤ w.heap.size) (hn : n ≤ 281474976710656) (hn0 : 0 < n) :
    Calls Tryd.prog 70 #[.pointer (some ⟨b, 0, none⟩), .int .i64 (n : Nat)] w fun e w' => e = .returned (.tuple #[]) ∧ Bld T B b [] w' ∧ Below B w w' := by
  have hbk1 : (w.setCell ⟨b, 0, none⟩ (.pointer (some ⟨b, 0, none⟩))).heap[b]? = some (.cells #[.pointer (some ⟨b, 0, none⟩), .slice none 0 0] T (0, 0)) := by
    simp [World.setCell, Array.getElem?_modify, hbk]
  have c1 : (w.setCell ⟨b, 0, none⟩ (.pointer (some ⟨b, 0, none⟩))).cell? ⟨b, 1, none⟩ = some (.slice none 0 0) := by rw [Lib.cell_of_heap hbk1]; rfl
  have HL := Lib.hid ((Below.refl B w).setCell (p := ⟨b, 0, none⟩) hB (.pointer (some ⟨b, 0, none⟩)))
  have HCC := Lib.hid (copyCheckF_any hT B b w hB hbk)
  have HB1 := Lib.hid hbk1
  have hBw1 : B ≤ (w.setCell ⟨b, 0, none⟩ (.pointer (some ⟨b, 0, none⟩))).heap.size := by rw [World.size_setCell]; exact hBw
  have hnz : ¬ (n : Int) < 0 := by omega
  have hnz2 : (0 : Int) < (n : Int) := by omega
  clear hbk hbk1
  go_enter Tryd.func70, Tryd.ntmps70
  go_wp2_with fail
  refine HCC.out.mono ?_
  rintro e w' ⟨rfl, rfl⟩
  go_wp2
  generalize w.setCell ⟨b, 0, none⟩ (.pointer (some ⟨b, 0, none⟩)) = w1 at *
  go_quiet (fail)
  rename_i nq
  have HG := Lib.hid (growB_any hT B b n (w1.drewN nq) hB HB1.out hBw1 hn)
  go_wp2_with fail
  refine HG.out.mono ?_
  rintro e w2 ⟨rfl, h1, h2⟩
  go_wp2
  go_end0
  exact ⟨rfl, h1, HL.out.trans (((Upd.refl [] w1).drewN nq).belowB hBw1 |>.trans h2)⟩
end Go.Proofs.YtigjingielnaoaaDoor

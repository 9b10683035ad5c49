/- Packages local, swingleref19: Path. -/
import Derived.Test.YtigjingielnaoaaDoorRef13S
import Derived.Test.YtigjingielnaoaaDoorQAD
import Derived.WalkKit
import Derived.Handy
import Derived.Outline
import Derived.BigQuiet
import Derived.Deep.CutBlock
import Derived.Deep.DeepCutAuto
import Derived.Deep.DeepFit
import Derived.Deep.Light
import Derived.Deep.LoopGhost
import Derived.Deep.QuietTactic
import Derived.Deep.RegionHeld3
import Derived.Deep.RegionLaw
import Derived.IntWalk
import Derived.Laws.BitsAllLaws
import Derived.Lib.MinMax
import Derived.StillTailTactics
import Derived.WalkSpells
import Derived.Lib.Hide
namespace Go.Proofs.YtigjingielnaoaaDoor
set_option linter.unusedVariables false
set_option linter.unusedSimpArgs false
set_option linter.unusedSectionVars false
open Go.RowKit
set_option linter.unusedVariables false

/-- Does a text end in a slash? -/
def endS (l : List Nat) : Bool := decide (l.drop (l.length - 1) = [47])
theorem endS_pos {l : List Nat} (h : endS l = true) : 1 ≤ l.length := by
  unfold endS at h
  have := congrArg List.length (of_decide_eq_true h)
  rw [List.length_drop] at this; simp at this; omega
theorem endS_get (s : ByteArray) (h : 0 < s.size) : endS (bytesOf s) = decide (s[s.size - 1].toNat = 47) := by
  unfold endS
  rw [length_bytesOf, List.drop_eq_getElem_cons (by rw [length_bytesOf]; omega), bytesOf_get s _ (by omega), List.drop_of_length_le (by rw [length_bytesOf]; omega)]
  simp
theorem endS_nil (s : ByteArray) (h : s.size = 0) : endS (bytesOf s) = false := by
  unfold endS
  have : bytesOf s = [] := List.eq_nil_of_length_eq_zero (by rw [length_bytesOf]; exact h)
  rw [this]; rfl
/-- A name's path, its kind, and whether it may be. -/
def pathP (l : List Nat) : List Nat × Nat × Bool :=
  if endS l = true then (if rightP (l.take (l.length - 1)) = true then (l.take (l.length - 1), 2, true) else ([], 0, false))
  else if rightP l = true ∨ l = resP then (l, 1, true) else ([], 0, false)
def pathV (p : List Nat × Nat × Bool) : Value := .tuple #[.string (strOf p.1), .int .i64 (p.2.1 : Nat), .bool p.2.2]
theorem pathP_lt {l : List Nat} (h : ∀ x ∈ l, x < 256) : ∀ x ∈ (pathP l).1, x < 256 := by
  unfold pathP
  repeat' split
  all_goals first
    | exact fun x hx => h x (List.mem_of_mem_take hx)
    | exact h
    | (intro x hx; simp at hx)
theorem pathP_len (l : List Nat) : (pathP l).1.length ≤ l.length := by
  unfold pathP
  repeat' split
  all_goals simp [List.length_take]
set_option maxRecDepth 100000 in
theorem hasSuf_any (s : ByteArray) (w : World) (hs : s.size ≤ 1000000) : Calls Tryd.prog 82 #[.string s, .string { data := #[47] }] w fun e w' => e = .returned (.bool (endS (bytesOf s))) ∧ w = w' := by
  by_cases h0 : s.size = 0
  · have HE := Lib.hid (endS_nil s h0)
    go_enter Tryd.func82, Tryd.ntmps82
    go_wp2
    go_ret
    exact ⟨by rw [HE.out]; rfl, rfl⟩
  · have h1 : 1 ≤ s.size := by omega
    have HT : Hid (((s.extract (s.size - 1) s.size).toList == [47]) = endS (bytesOf s)) := Lib.hid (by
      rw [toList_bytes, bytesOf_drop]; unfold endS; rw [length_bytesOf]; rfl)
    cases hb : endS (bytesOf s) with
    | true =>
      have t1 := HT.out.trans hb
      clear hb HT
      go_enter Tryd.func82, Tryd.ntmps82
      go_wp2
      go_ret
      exact ⟨rfl, rfl⟩
    | false =>
      have t1 := HT.out.trans hb
      clear hb HT
      go_enter Tryd.func82, Tryd.ntmps82
      go_wp2
      go_ret
      exact ⟨rfl, rfl⟩
/-- CutSuffix at "/". -/
def cutV (s : ByteArray) : Value := .tuple #[.string (if endS (bytesOf s) = true then s.extract 0 (s.size - 1) else s), .bool (endS (bytesOf s))]
theorem cutV_yes {s : ByteArray} (h : endS (bytesOf s) = true) : cutV s = .tuple #[.string (s.extract 0 (s.size - 1)), .bool true] := by unfold cutV; rw [h]; rfl
theorem cutV_no {s : ByteArray} (h : endS (bytesOf s) = false) : cutV s = .tuple #[.string s, .bool false] := by unfold cutV; rw [h]; rfl
theorem cutSufL_any (s : ByteArray) (w : World) (hs : s.size ≤ 1000000) : Calls Tryd.prog 95 #[.string s, .string { data := #[47] }] w fun e w' => e = .returned (cutV s) ∧ w = w' := by
  have HH := Lib.hid (fun w => hasSuf_any s w hs)
  cases hb : endS (bytesOf s) with
  | true =>
    have h1 : 1 ≤ s.size := by have := endS_pos hb; rw [length_bytesOf] at this; exact this
    have HV := Lib.hid (cutV_yes hb)
    rw [hb] at HH
    clear hb
    go_enter Tryd.func95, Tryd.ntmps95
    go_wp2_with (go_at_call 82; refine (HH.out _).mono ?_; rintro e w' ⟨rfl, rfl⟩)
    go_ret2
    exact ⟨by rw [HV.out]; rfl, rfl⟩
  | false =>
    have HV := Lib.hid (cutV_no hb)
    rw [hb] at HH
    clear hb
    go_enter Tryd.func95, Tryd.ntmps95
    go_wp2_with (go_at_call 82; refine (HH.out _).mono ?_; rintro e w' ⟨rfl, rfl⟩)
    go_ret2
    exact ⟨by rw [HV.out]; rfl, rfl⟩
theorem cutSuf_any (s : ByteArray) (w : World) (hs : s.size ≤ 1000000) : Calls Tryd.prog 60 #[.string s, .string { data := #[47] }] w fun e w' => e = .returned (cutV s) ∧ w = w' := by
  have HH := Lib.hid (fun w => cutSufL_any s w hs)
  have HV : Hid (cutV s = .tuple #[.string (if endS (bytesOf s) = true then s.extract 0 (s.size - 1) else s), .bool (endS (bytesOf s))]) := Lib.hid rfl
  rw [HV.out] at HH
  generalize (if endS (bytesOf s) = true then s.extract 0 (s.size - 1) else s) = r at *
  generalize endS (bytesOf s) = b at *
  go_enter Tryd.func60, Tryd.ntmps60
  go_wp2_with (go_at_call 95; refine (HH.out _).mono ?_; rintro e w' ⟨rfl, rfl⟩)
  go_ret2
  exact ⟨by rw [HV.out]; rfl, rfl⟩

/-- How pathP goes: the name ends in a slash, or not. -/
theorem pathP_dir {l : List Nat} (h : endS l = true) (hr : rightP (l.take (l.length - 1)) = true) : pathP l = (l.take (l.length - 1), 2, true) := by unfold pathP; rw [if_pos h, if_pos hr]
theorem pathP_dir0 {l : List Nat} (h : endS l = true) (hr : rightP (l.take (l.length - 1)) = false) : pathP l = ([], 0, false) := by unfold pathP; rw [if_pos h, hr]; rfl
theorem pathP_file {l : List Nat} (h : endS l = false) (hr : rightP l = true ∨ l = resP) : pathP l = (l, 1, true) := by unfold pathP; rw [h, if_neg (by simp), if_pos hr]
theorem pathP_none {l : List Nat} (h : endS l = false) (hr : ¬ (rightP l = true ∨ l = resP)) : pathP l = ([], 0, false) := by unfold pathP; rw [h, if_neg (by simp), if_neg hr]
theorem pathV_eq {l a : List Nat} {k : Nat} {b : Bool} (h : pathP l = (a, k, b)) : pathV (pathP l) = .tuple #[.string (strOf a), .int .i64 (k : Nat), .bool b] := by rw [h]; rfl
theorem isRes (s : ByteArray) : (s.toList == [46, 115, 119, 105, 110, 103, 108, 101]) = decide (bytesOf s = resP) := toList_bytes s _
set_option maxRecDepth 100000 in
set_option maxHeartbeats 4000000 in
theorem path_any (s : ByteArray) (w : World) (hs : s.size ≤ 1000000) : Calls Tryd.prog 30 #[.string s] w fun e w' => e = .returned (pathV (pathP (bytesOf s))) ∧ Upd [] w w' := by
  have HC := Lib.hid (fun w => cutSuf_any s w hs)
  have HR := Lib.hid (fun w => nameRight_any s w (by omega))
  have HQ := Lib.hid (isRes s)
  cases hb : endS (bytesOf s) with
  | true =>
    have h1 : 1 ≤ s.size := by have := endS_pos hb; rw [length_bytesOf] at this; exact this
    rw [cutV_yes hb] at HC
    have HX := Lib.hid (fun w => nameRight_any (s.extract 0 (s.size - 1)) w (by rw [ByteArray.size_extract]; omega))
    have he : bytesOf (s.extract 0 (s.size - 1)) = (bytesOf s).take ((bytesOf s).length - 1) := by rw [bytesOf_extract, List.drop_zero, length_bytesOf]; rfl
    rw [he] at HX
    have HST : Hid (s.extract 0 (s.size - 1) = strOf ((bytesOf s).take ((bytesOf s).length - 1))) := Lib.hid (by rw [strOf_take, length_bytesOf])
    clear he HR
    cases hr : rightP ((bytesOf s).take ((bytesOf s).length - 1)) with
    | true =>
      have HV := Lib.hid (pathV_eq (pathP_dir hb hr))
      rw [hr] at HX
      clear hb hr
      go_enter Tryd.func30, Tryd.ntmps30
      go_wp2_with fail
      refine (HC.out _).mono ?_
      rintro e w1 ⟨rfl, rfl⟩
      go_wp2_with fail
      refine (HX.out _).mono ?_
      rintro e w2 ⟨rfl, hU⟩
      go_wp2
      go_ret3
      exact ⟨by rw [HV.out, ← HST.out]; rfl, hU⟩
    | false =>
      have HV := Lib.hid (pathV_eq (pathP_dir0 hb hr))
      rw [hr] at HX
      clear hb hr
      go_enter Tryd.func30, Tryd.ntmps30
      go_wp2_with fail
      refine (HC.out _).mono ?_
      rintro e w1 ⟨rfl, rfl⟩
      go_wp2_with fail
      refine (HX.out _).mono ?_
      rintro e w2 ⟨rfl, hU⟩
      go_wp2
      go_ret3
      exact ⟨by rw [HV.out]; rfl, hU⟩
  | false =>
    rw [cutV_no hb] at HC
    have HST := Lib.hid (strOf_bytesOf s)
    cases hr : rightP (bytesOf s) with
    | true =>
      have HV := Lib.hid (pathV_eq (pathP_file hb (.inl hr)))
      rw [hr] at HR
      clear hb hr
      go_enter Tryd.func30, Tryd.ntmps30
      go_wp2_with fail
      refine (HC.out _).mono ?_
      rintro e w1 ⟨rfl, rfl⟩
      go_wp2_with fail
      refine (HR.out _).mono ?_
      rintro e w2 ⟨rfl, hU⟩
      go_wp2
      go_ret3
      exact ⟨by rw [HV.out, HST.out]; rfl, hU⟩
    | false =>
      by_cases hq : bytesOf s = resP
      · have t1 := HQ.out.trans (decide_eq_true hq)
        have HV := Lib.hid (pathV_eq (pathP_file hb (.inr hq)))
        rw [hr] at HR
        clear hb hr hq HQ
        go_enter Tryd.func30, Tryd.ntmps30
        go_wp2_with fail
        refine (HC.out _).mono ?_
        rintro e w1 ⟨rfl, rfl⟩
        go_wp2_with fail
        refine (HR.out _).mono ?_
        rintro e w2 ⟨rfl, hU⟩
        go_wp2_with (go_at_call 62; refine (reserved_any _).mono ?_; rintro e w' ⟨rfl, rfl⟩)
        go_ret3
        exact ⟨by rw [HV.out, HST.out]; rfl, hU⟩
      · have t1 := HQ.out.trans (decide_eq_false hq)
        have HV := Lib.hid (pathV_eq (pathP_none hb (by rw [hr]; simp [hq])))
        rw [hr] at HR
        clear hb hr hq HQ
        go_enter Tryd.func30, Tryd.ntmps30
        go_wp2_with fail
        refine (HC.out _).mono ?_
        rintro e w1 ⟨rfl, rfl⟩
        go_wp2_with fail
        refine (HR.out _).mono ?_
        rintro e w2 ⟨rfl, hU⟩
        go_wp2_with (go_at_call 62; refine (reserved_any _).mono ?_; rintro e w' ⟨rfl, rfl⟩)
        go_ret3
        exact ⟨by rw [HV.out]; rfl, hU⟩
set_option maxRecDepth 100000 in
set_option maxHeartbeats 4000000 in
theorem rpath_any (s : ByteArray) (w : World) (hs : s.size ≤ 1100000) : Calls Tryd.prog 53 #[.string s] w fun e w' => e = .returned (pathV (pathP (bytesOf s))) ∧ Upd [] w w' := by
  have HR := Lib.hid (fun w => rname_any s w (by omega))
  have HQ := Lib.hid (isRes s)
  cases hb : endS (bytesOf s) with
  | true =>
    have h1 : 1 ≤ s.size := by have := endS_pos hb; rw [length_bytesOf] at this; exact this
    have h47 : s[s.size - 1].toNat = 47 := by rw [endS_get s (by omega)] at hb; exact of_decide_eq_true hb
    have t47 : ((s[s.size - 1].toNat : Int) == 47) = true := by rw [beq_iff_eq]; omega
    have HX := Lib.hid (fun w => rname_any (s.extract 0 (s.size - 1)) w (by rw [ByteArray.size_extract]; omega))
    have he : bytesOf (s.extract 0 (s.size - 1)) = (bytesOf s).take ((bytesOf s).length - 1) := by rw [bytesOf_extract, List.drop_zero, length_bytesOf]; rfl
    rw [he] at HX
    have HST : Hid (s.extract 0 (s.size - 1) = strOf ((bytesOf s).take ((bytesOf s).length - 1))) := Lib.hid (by rw [strOf_take, length_bytesOf])
    clear he HR h47
    cases hr : rightP ((bytesOf s).take ((bytesOf s).length - 1)) with
    | true =>
      have HV := Lib.hid (pathV_eq (pathP_dir hb hr))
      rw [hr] at HX
      clear hb hr
      go_enter Tryd.func53, Tryd.ntmps53
      go_wp2_with fail
      refine (HX.out _).mono ?_
      rintro e w2 ⟨rfl, hU⟩
      go_wp2
      go_ret3
      exact ⟨by rw [HV.out, ← HST.out]; rfl, hU⟩
    | false =>
      have HV := Lib.hid (pathV_eq (pathP_dir0 hb hr))
      rw [hr] at HX
      clear hb hr
      go_enter Tryd.func53, Tryd.ntmps53
      go_wp2_with fail
      refine (HX.out _).mono ?_
      rintro e w2 ⟨rfl, hU⟩
      go_wp2
      go_ret3
      exact ⟨by rw [HV.out]; rfl, hU⟩
  | false =>
    have HST := Lib.hid (strOf_bytesOf s)
    have ways : s.size = 0 ∨ (1 ≤ s.size ∧ Hid (∃ h : s.size - 1 < s.size, (((s[s.size - 1]'h).toNat : Int) == 47) = false)) := by
      by_cases h0 : s.size = 0
      · exact .inl h0
      · refine .inr ⟨by omega, Lib.hid ⟨by omega, ?_⟩⟩
        rw [endS_get s (by omega)] at hb
        have := of_decide_eq_false hb
        rw [beq_eq_false_iff_ne]; omega
    cases hr : rightP (bytesOf s) with
    | true =>
      have HV := Lib.hid (pathV_eq (pathP_file hb (.inl hr)))
      rw [hr] at HR
      clear hb hr
      rcases ways with h0 | ⟨h1, hw⟩
      · go_enter Tryd.func53, Tryd.ntmps53
        go_wp2_with fail
        refine (HR.out _).mono ?_
        rintro e w2 ⟨rfl, hU⟩
        go_wp2
        go_ret3
        exact ⟨by rw [HV.out, HST.out]; rfl, hU⟩
      · obtain ⟨hw1, t47⟩ := hw.out
        go_enter Tryd.func53, Tryd.ntmps53
        go_wp2_with fail
        refine (HR.out _).mono ?_
        rintro e w2 ⟨rfl, hU⟩
        go_wp2
        go_ret3
        exact ⟨by rw [HV.out, HST.out]; rfl, hU⟩
    | false =>
      by_cases hq : bytesOf s = resP
      · have t1 := HQ.out.trans (decide_eq_true hq)
        have HV := Lib.hid (pathV_eq (pathP_file hb (.inr hq)))
        rw [hr] at HR
        have hz : s.size = 8 := by rw [← length_bytesOf s, hq]; rfl
        have HZ := Lib.hid hz
        have h1 : 1 ≤ s.size := by omega
        obtain ⟨hw1, t47⟩ : ∃ h : s.size - 1 < s.size, (((s[s.size - 1]'h).toNat : Int) == 47) = false := by
          rcases ways with h0 | ⟨_, hw⟩
          · omega
          · exact hw.out
        clear hb hr hq HQ ways hz
        go_enter Tryd.func53, Tryd.ntmps53
        go_wp2_with fail
        refine (HR.out _).mono ?_
        rintro e w2 ⟨rfl, hU⟩
        go_wp2
        go_ret3
        exact ⟨by rw [HV.out, HST.out]; rfl, hU⟩
      · have t1 := HQ.out.trans (decide_eq_false hq)
        have HV := Lib.hid (pathV_eq (pathP_none hb (by rw [hr]; simp [hq])))
        rw [hr] at HR
        clear hb hr hq HQ
        rcases ways with h0 | ⟨h1, hw⟩
        · go_enter Tryd.func53, Tryd.ntmps53
          go_wp2_with fail
          refine (HR.out _).mono ?_
          rintro e w2 ⟨rfl, hU⟩
          go_wp2
          go_ret3
          exact ⟨by rw [HV.out]; rfl, hU⟩
        · obtain ⟨hw1, t47⟩ := hw.out
          go_enter Tryd.func53, Tryd.ntmps53
          go_wp2_with fail
          refine (HR.out _).mono ?_
          rintro e w2 ⟨rfl, hU⟩
          go_wp2
          go_ret3
          exact ⟨by rw [HV.out]; rfl, hU⟩
end Go.Proofs.YtigjingielnaoaaDoor
namespace Go.Proofs.YtigjingielnaoaaDoor
set_option linter.unusedVariables false
set_option linter.unusedSimpArgs false
set_option linter.unusedSectionVars false
open Go.RowKit

/-- A record's fields. -/
structure RecD where
  p : ByteArray
  m : Int
  sum : Nat
  l : Int
  wh : Int
  k : Int
  md : Int
  t : Nat
  pos : Int
def RecD.cells (r : RecD) : List Value := [.string r.p, .int .i64 r.m, .int .u32 (r.sum : Nat), .int .i64 r.l, .int .i64 r.wh, .int .i64 r.k, .int .i64 r.md, .int .u32 (r.t : Nat), .int .i64 r.pos]
def RecD.v (r : RecD) : Value := .agg #[.string r.p, .int .i64 r.m, .int .u32 (r.sum : Nat), .int .i64 r.l, .int .i64 r.wh, .int .i64 r.k, .int .i64 r.md, .int .u32 (r.t : Nat), .int .i64 r.pos]
/-- What fits: a path of at most a thousand bytes, numbers of their widths. -/
structure RecD.Fits (r : RecD) : Prop where
  p : r.p.size ≤ 1000
  sum : r.sum < 4294967296
  t : r.t < 4294967296
def nameP (k : Int) (p : ByteArray) : List Nat := if k = 2 then bytesOf p ++ [47] else bytesOf p
theorem nameP_lt (k : Int) (p : ByteArray) : ∀ x ∈ nameP k p, x < 256 := by
  unfold nameP
  split
  · intro x hx; rcases List.mem_append.1 hx with h | h
    · exact bytesOf_lt p x h
    · simp at h; omega
  · exact bytesOf_lt p
theorem nameP_len (k : Int) (p : ByteArray) : (nameP k p).length ≤ p.size + 1 := by
  unfold nameP
  split
  · simp [length_bytesOf]
  · rw [length_bytesOf]; omega
def sizeB (n : Int) : Bool := decide (0 ≤ n) && decide (n < 2147483648)
def laidB (r : RecD) : Bool :=
  if (r.m ≠ 0 ∧ r.m ≠ 8) ∨ sizeB r.l = false ∨ sizeB r.wh = false ∨ sizeB r.pos = false then false
  else if r.k = 2 then decide (r.sum = 0) && decide (r.l = 0) && decide (r.wh = 0) && decide (r.m = 0) else decide (r.m = 8) || decide (r.l = r.wh)
def rtimeB (k : Int) (t : Nat) : Bool := if k = 2 then decide (t = 2162688) else timeB t
/-- Is its path the name's, and its kind? -/
def nameB (r : RecD) : Bool := (pathP (nameP r.k r.p)).2.2 && decide ((pathP (nameP r.k r.p)).1 = bytesOf r.p) && decide (((pathP (nameP r.k r.p)).2.1 : Int) = r.k)
def recErr (r : RecD) : Nat := if nameB r = false then 5 else if laidB r = false then 2 else if r.md < 0 ∨ 511 < r.md then 12 else if rtimeB r.k r.t = false then 13 else 0
end Go.Proofs.YtigjingielnaoaaDoor
namespace Go.Proofs.YtigjingielnaoaaDoor
set_option linter.unusedVariables false
set_option linter.unusedSimpArgs false
set_option linter.unusedSectionVars false
open Go.RowKit
set_option linter.unusedVariables false

theorem add_slash (p : ByteArray) : p ++ ({ data := #[47] } : ByteArray) = strOf (bytesOf p ++ [47]) := by
  rw [← strOf_append, strOf_bytesOf]; rfl
theorem name_any (r : RecD) (w : World) (h : r.Fits) : Calls Tryd.prog 37 #[r.v] w fun e w' => e = .returned (.string (strOf (nameP r.k r.p))) ∧ Upd [] w w' := by
  have hp := h.p
  obtain ⟨p, m, sum, l, wh, k, md, t, pos⟩ := r
  dsimp only at hp
  unfold RecD.v
  dsimp only
  have HA := Lib.hid (add_slash p)
  have HB := Lib.hid (strOf_bytesOf p)
  by_cases hk : k = 2
  · subst hk
    have HN : Hid (nameP 2 p = bytesOf p ++ [47]) := Lib.hid rfl
    go_enter Tryd.func37, Tryd.ntmps37
    go_wp2
    go_ret
    exact ⟨by rw [HN.out, ← HA.out]; rfl, (Upd.refl _ _).alloc _⟩
  · have HN : Hid (nameP k p = bytesOf p) := Lib.hid (if_neg hk)
    have t1 : (k == 2) = false := by rw [beq_eq_false_iff_ne]; exact hk
    go_enter Tryd.func37, Tryd.ntmps37
    go_wp2
    go_ret
    exact ⟨by rw [HN.out, HB.out]; rfl, (Upd.refl _ _).alloc _⟩
theorem rname19_any (r : RecD) (w : World) (h : r.Fits) : Calls Tryd.prog 25 #[r.v] w fun e w' => e = .returned (.string (strOf (nameP r.k r.p))) ∧ Upd [] w w' := by
  have hp := h.p
  obtain ⟨p, m, sum, l, wh, k, md, t, pos⟩ := r
  dsimp only at hp
  unfold RecD.v
  dsimp only
  have HA := Lib.hid (add_slash p)
  have HB := Lib.hid (strOf_bytesOf p)
  by_cases hk : k = 2
  · subst hk
    have HN : Hid (nameP 2 p = bytesOf p ++ [47]) := Lib.hid rfl
    go_enter Tryd.func25, Tryd.ntmps25
    go_wp2
    go_ret
    exact ⟨by rw [HN.out, ← HA.out]; rfl, (Upd.refl _ _).alloc _⟩
  · have HN : Hid (nameP k p = bytesOf p) := Lib.hid (if_neg hk)
    have t1 : (k == 2) = false := by rw [beq_eq_false_iff_ne]; exact hk
    go_enter Tryd.func25, Tryd.ntmps25
    go_wp2
    go_ret
    exact ⟨by rw [HN.out, HB.out]; rfl, (Upd.refl _ _).alloc _⟩
theorem size_any (n : Int) (w : World) : Calls Tryd.prog 98 #[.int .i64 n] w fun e w' => e = .returned (.bool (sizeB n)) ∧ w = w' := by
  by_cases h : 0 ≤ n
  · have t1 : decide (0 ≤ n) = true := decide_eq_true h
    have HS : Hid (sizeB n = decide (n < 2147483648)) := Lib.hid (by unfold sizeB; rw [t1]; rfl)
    go_enter Tryd.func98, Tryd.ntmps98
    go_wp2
    go_returns
    exact ⟨by rw [HS.out]; rfl, rfl⟩
  · have t1 : decide (0 ≤ n) = false := decide_eq_false h
    have HS : Hid (sizeB n = false) := Lib.hid (by unfold sizeB; rw [t1]; rfl)
    go_enter Tryd.func98, Tryd.ntmps98
    go_wp2
    go_returns
    exact ⟨by rw [HS.out]; rfl, rfl⟩
set_option maxRecDepth 100000 in
set_option maxHeartbeats 4000000 in
theorem laid_any (r : RecD) (w : World) (h : r.Fits) : Calls Tryd.prog 63 #[r.v] w fun e w' => e = .returned (.bool (laidB r)) ∧ Upd [] w w' := by
  have hp := h.p
  have hs := h.sum
  have HL := Lib.hid (show laidB r = if (r.m ≠ 0 ∧ r.m ≠ 8) ∨ sizeB r.l = false ∨ sizeB r.wh = false ∨ sizeB r.pos = false then false
    else if r.k = 2 then decide (r.sum = 0) && decide (r.l = 0) && decide (r.wh = 0) && decide (r.m = 0) else decide (r.m = 8) || decide (r.l = r.wh) from rfl)
  obtain ⟨p, m, sum, l, wh, k, md, t, pos⟩ := r
  dsimp only at hp hs HL
  unfold RecD.v
  dsimp only
  rw [HL.out]
  clear HL
  go_enter Tryd.func63, Tryd.ntmps63
  go_wp2_with (go_at_call 98; refine (size_any _ _).mono ?_; rintro e w2 ⟨rfl, rfl⟩)
  all_goals go_returns
  all_goals (refine ⟨congrArg (fun z => Ending.returned (.bool z)) ?_, (Upd.refl _ _).alloc _⟩)
  all_goals (simp_all <;> rfl)
set_option maxRecDepth 100000 in
set_option maxHeartbeats 4000000 in
theorem time_any (r : RecD) (w : World) (h : r.Fits) : Calls Tryd.prog 64 #[r.v] w fun e w' => e = .returned (.bool (rtimeB r.k r.t)) ∧ Upd [] w w' := by
  have ht := h.t
  obtain ⟨p, m, sum, l, wh, k, md, t, pos⟩ := r
  dsimp only at ht
  unfold RecD.v
  dsimp only
  have HT := Lib.hid (fun w' => dosRight_any t w' ht)
  by_cases hk : k = 2
  · subst hk
    have HN : Hid (rtimeB 2 t = decide (t = 2162688)) := Lib.hid rfl
    have t1 : ((t : Int) == 2162688) = decide (t = 2162688) := by rw [Bool.eq_iff_iff, beq_iff_eq, decide_eq_true_eq]; omega
    go_enter Tryd.func64, Tryd.ntmps64
    go_wp2
    go_ret
    exact ⟨by rw [HN.out]; rfl, (Upd.refl _ _).alloc _⟩
  · have HN : Hid (rtimeB k t = timeB t) := Lib.hid (if_neg hk)
    have t1 : (k == 2) = false := by rw [beq_eq_false_iff_ne]; exact hk
    go_enter Tryd.func64, Tryd.ntmps64
    go_wp2_with fail
    refine (HT.out _).mono ?_
    rintro e w1 ⟨rfl, hU⟩
    go_wp2
    go_ret
    exact ⟨by rw [HN.out]; rfl, ((Upd.refl _ _).alloc _).then hU⟩
set_option maxRecDepth 100000 in
set_option maxHeartbeats 4000000 in
theorem rtime_any (r : RecD) (w : World) (h : r.Fits) : Calls Tryd.prog 54 #[r.v] w fun e w' => e = .returned (.bool (rtimeB r.k r.t)) ∧ Upd [] w w' := by
  have ht := h.t
  obtain ⟨p, m, sum, l, wh, k, md, t, pos⟩ := r
  dsimp only at ht
  unfold RecD.v
  dsimp only
  have HS := Lib.hid (fun w' => rsplit_any t w' ht)
  have HR := Lib.hid (fun w' => rright_any _ _ _ _ _ _ w' (parts_ok t))
  have HT := Lib.hid (show timeB t = rightB (1980 + (t : Int) / 33554432 % 128) ((t : Int) / 2097152 % 16) ((t : Int) / 65536 % 32) ((t : Int) / 2048 % 32) ((t : Int) / 32 % 64) (2 * ((t : Int) % 32)) from rfl)
  unfold partsL at HS
  by_cases hk : k = 2
  · subst hk
    have HN : Hid (rtimeB 2 t = decide (t = 2162688)) := Lib.hid rfl
    have t1 : ((t : Int) == 2162688) = decide (t = 2162688) := by rw [Bool.eq_iff_iff, beq_iff_eq, decide_eq_true_eq]; omega
    go_enter Tryd.func54, Tryd.ntmps54
    go_wp2
    go_ret
    exact ⟨by rw [HN.out]; rfl, (Upd.refl _ _).alloc _⟩
  · have HN : Hid (rtimeB k t = timeB t) := Lib.hid (if_neg hk)
    have t1 : (k == 2) = false := by rw [beq_eq_false_iff_ne]; exact hk
    go_enter Tryd.func54, Tryd.ntmps54
    go_wp2_with fail
    refine (HS.out _).mono ?_
    rintro e w1 ⟨rfl, hU⟩
    go_wp2_with fail
    refine (HR.out w1).mono ?_
    rintro e w2 ⟨rfl, hU2⟩
    go_wp2
    go_ret
    exact ⟨by rw [HN.out, HT.out]; rfl, (((Upd.refl _ _).alloc _).then hU).then hU2⟩
end Go.Proofs.YtigjingielnaoaaDoor

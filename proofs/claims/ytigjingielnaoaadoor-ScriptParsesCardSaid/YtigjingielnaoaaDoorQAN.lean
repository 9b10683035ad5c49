/- Package script: list: its walk. -/
import Derived.Test.YtigjingielnaoaaDoorQAK
import Derived.Test.YtigjingielnaoaaDoorQAM
import Derived.Deep.QuietTactic
import Derived.BigQuiet
import Derived.Test.YtigjingielnaoaaDoorQAC
import Derived.Test.YtigjingielnaoaaDoorQAB
import Derived.Test.YtigjingielnaoaaDoorQAL
import Derived.Test.YtigjingielnaoaaDoorDTxt
import Derived.Test.YtigjingielnaoaaDoorDosPa
import Derived.Test.YtigjingielnaoaaDoorQAA
namespace Go.Proofs.YtigjingielnaoaaDoor
set_option linter.unusedVariables false
set_option linter.unusedSimpArgs false
set_option linter.unusedSectionVars false
open Go.RowKit
set_option linter.unusedVariables false
set_option linter.unusedSimpArgs false

/-- A slice that reads as numbers. -/
def IntsAt (w : World) (v : Value) (l : List Int) : Prop := ∃ a cap, v = .slice a l.length cap ∧ l.length ≤ cap ∧ ∀ i, (hi : i < l.length) → ∃ b off, a = some ⟨b, off, none⟩ ∧ w.cell? ⟨b, off + i, none⟩ = some (.int .i64 l[i])
theorem Upd.keepS {w w' : World} (hu : Upd [] w w') {b o : Nat} {u : Value} (h : w.cell? ⟨b, o, none⟩ = some u) : w'.cell? ⟨b, o, none⟩ = some u := (hu.at (textCell_lt h) (by simp) o).trans h
theorem IntsAt.upd {w w' : World} {v : Value} {l : List Int} (h : IntsAt w v l) (hu : Upd [] w w') : IntsAt w' v l := by
  obtain ⟨a, cap, e, hc, h⟩ := h
  refine ⟨a, cap, e, hc, fun i hi => ?_⟩
  obtain ⟨b, off, e2, h2⟩ := h i hi
  exact ⟨b, off, e2, hu.keepS h2⟩
/-- Numbers, with commas between. -/
def listP (l : List Int) : List Nat := if l = [] then [45] else joinC 44 (l.map decZ)
theorem decZ_len {n : Int} (h1 : -1000000 < n) (h2 : n < 1000000) : (decZ n).length ≤ 8 := by
  unfold decZ
  split
  · have := decL_len 6 (-n).toNat (by omega)
    simp; omega
  · have := decL_len 6 n.toNat (by omega)
    omega
theorem decZ_lt {n : Int} (h1 : -1000000 < n) (h2 : n < 1000000) : ∀ x ∈ decZ n, x < 256 := by
  intro x hx
  unfold decZ at hx
  split at hx
  · rcases List.mem_cons.1 hx with rfl | hx
    · omega
    · have := decL_dig 6 (-n).toNat (by omega) x hx; omega
  · have := decL_dig 6 n.toNat (by omega) x hx; omega
theorem totC_le (B : Nat) : ∀ ps : List (List Nat), (∀ p ∈ ps, p.length ≤ B) → totC ps ≤ (B + 1) * ps.length
  | [], _ => by simp [totC]
  | p :: ps, h => by
    have h1 := totC_le B ps (fun q hq => h q (List.mem_cons_of_mem _ hq))
    have h2 := h p (List.mem_cons_self ..)
    unfold totC at h1 ⊢
    simp only [List.map_cons, List.sum_cons, List.length_cons] at h1 ⊢
    rw [Nat.mul_add]
    omega
theorem infoStrL : (Tryd.prog.info? 9).map (fun i => (i.zero, i.size, i.bytes)) = some (some (.string ByteArray.empty), 1, 16) := by kernel_rfl
set_option maxRecDepth 100000 in
set_option maxHeartbeats 3200000 in
theorem slist_any (l : List Int) (v : Value) (w : World) (hv : IntsAt w v l) (hb : ∀ n ∈ l, -1000000 < n ∧ n < 1000000) (hl : l.length ≤ 1000) :
    Calls Tryd.prog 78 #[v] w fun e w' => e = .returned (.string (strOf (listP l))) ∧ Upd [] w w' := by
  obtain ⟨i0, hi, hz0, hz1, hz2⟩ := info_parts infoStrL
  obtain ⟨a, cap, rfl, hcap, hc⟩ := hv
  have HC := Lib.hid hc
  by_cases h0 : l.length = 0
  · have HV : Hid (listP l = [45]) := Lib.hid (by unfold listP; rw [if_pos (List.eq_nil_of_length_eq_zero h0)])
    rw [HV.out]
    have hz : (l.length : Int) = 0 := by omega
    go_enter Tryd.func78, Tryd.ntmps78
    go_wp2
    go_ret
    exact ⟨rfl, Upd.refl _ _⟩
  · have HV : Hid (listP l = joinC 44 (l.map decZ)) := Lib.hid (by unfold listP; rw [if_neg (fun h => h0 (by rw [h]; rfl))])
    have HJ := Lib.hid (fun v w h => joinC_any (l.map decZ) 44 v w h (fun p hp => by obtain ⟨n, hn, rfl⟩ := List.mem_map.1 hp; exact decZ_lt (hb n hn).1 (hb n hn).2) (by rw [List.length_map]; exact hl) (by
      have h1 := totC_le 8 (l.map decZ) (fun p hp => by obtain ⟨n, hn, rfl⟩ := List.mem_map.1 hp; exact decZ_len (hb n hn).1 (hb n hn).2)
      rw [List.length_map] at h1
      omega))
    have HE : Hid (joinC (44 : UInt8).toNat (l.map decZ) = joinC 44 (l.map decZ)) := Lib.hid rfl
    rw [HE.out] at HJ
    clear HE
    rw [HV.out]
    obtain ⟨n, hn⟩ : ∃ n, l.length = n := ⟨_, rfl⟩
    have HNL := Lib.hid hn
    have HB := Lib.hid hb
    obtain ⟨b, off, rfl, hx0⟩ := hc 0 (by omega)
    clear hx0
    have HCC : Hid (∀ i, (hi : i < l.length) → w.cell? ⟨b, off + i, none⟩ = some (.int .i64 l[i])) := Lib.hid (fun i hi => by
      obtain ⟨b', o', e1, e2⟩ := hc i hi
      cases e1
      exact e2)
    clear hc HC hb
    rw [hn] at h0 hl hcap ⊢
    clear hn
    have hz : ¬ (n : Int) = 0 := by omega
    have hzb : ((n : Int) == 0) = false := by simp; omega
    have HML : Hid ((l.map decZ).length = n) := Lib.hid (by rw [List.length_map]; exact HNL.out)
    have HMT : Hid (∀ i, (hi : i < l.length) → (l.map decZ).take (i + 1) = (l.map decZ).take i ++ [decZ l[i]]) := Lib.hid (fun i hi => by
      rw [List.take_succ_eq_append_getElem (by rw [List.length_map]; exact hi), List.getElem_map])
    generalize l.map decZ = M at *
    go_enter Tryd.func78, Tryd.ntmps78
    go_wp2
    go_loopg [3, 11] n (fun gg s3 s11 wr => ∃ i, i ≤ n ∧ gg = n - i ∧ s11 = .int .i64 (i : Nat) ∧ Hid (OwnS w wr s3 (M.take i)) ∧ Hid (Upd [] w wr))
    case atStart => exact ⟨0, Nat.zero_le _, rfl, rfl, Lib.hid (OwnS.nil w w), Lib.hid (Upd.refl _ _)⟩
    case round =>
      obtain ⟨i, hin, rfl, rfl, HR, HU⟩ := hrel
      have hwl : (M.take i).length = i := by rw [List.length_take, HML.out]; omega
      by_cases hc : i < n
      · have hcz : (i : Int) < (n : Int) := by omega
        have hil : i < l.length := by rw [HNL.out]; exact hc
        have c1 := HU.out.keepS (HCC.out i hil)
        have hbb := HB.out l[i] (List.getElem_mem hil)
        have HTK := Lib.hid (HMT.out i hil)
        generalize l[i] = x at *
        have HD := Lib.hid (fun w => sdec_any x w hbb.1 hbb.2)
        obtain ⟨va, vc, rfl⟩ := HR.out.form
        rw [hwl] at HR ⊢
        have HWL := Lib.hid hwl
        clear hwl hbb hil
        go_wp2_with fail
        refine (HD.out _).mono ?_
        rintro e w3 ⟨rfl, hu3⟩
        have hR3 := HR.out.upd hu3
        have HU3 := Lib.hid (HU.out.then hu3)
        have hR5 := hR3.1.alloc (.cells #[.string (strOf (decZ x))] 9)
        rw [HWL.out] at hR5
        clear hu3
        go_wp2_with (at_builtin; refine wpList_app _ rfl _ _ 40 rfl 9 i0 _ 1 16 Tryd.underlying40 hi hz0 hz1 hz2 rfl (by omega) (.slice va i vc) i _ rfl hR5 ⟨w3.heap.size, 0, none⟩ 1 1 [_] rfl rfl (World.news_of_block (cs := #[_]) (t := 9) (fr := (0, 0)) (heap_alloc_new _ _)) (by simp [Value.oneCell']) (by unfold maxLen; omega) (by omega) ?_)
        intro v4 w5 hR4 hU4 hT4
        have hap := hR3.app (p := decZ x) _ HU3.out (by rw [HWL.out]; exact hR4) hU4 hT4
        rw [← HTK.out] at hap
        have HAP := Lib.hid hap
        clear hR4 hU4 hT4 hap hR3 hR5
        go_wp2
        go_roundg (n - (i + 1))
        · exact ⟨i + 1, by omega, rfl, by first | rfl | go_num, Lib.hid HAP.out.1, Lib.hid HAP.out.2⟩
        · omega
      · have hcz : ¬ (i : Int) < (n : Int) := by omega
        obtain rfl : i = n := by omega
        obtain ⟨va, vc, rfl⟩ := HR.out.form
        rw [hwl] at HR ⊢
        have HT : Hid (TextsAt wr (.slice va i vc) M) := Lib.hid (by
          have := HR.out.texts
          rw [List.take_of_length_le (by rw [HML.out]; exact Nat.le_refl _)] at this
          exact this)
        clear hwl HR
        go_wp2_with fail
        refine (HJ.out _ _ HT.out).mono ?_
        rintro e w4 ⟨rfl, hu4⟩
        go_wp2
        go_ret
        exact ⟨rfl, HU.out.then hu4⟩
end Go.Proofs.YtigjingielnaoaaDoor
namespace Go.Proofs.YtigjingielnaoaaDoor
set_option linter.unusedVariables false
set_option linter.unusedSimpArgs false
set_option linter.unusedSectionVars false
open Go.RowKit
set_option linter.unusedVariables false
set_option linter.unusedSimpArgs false

set_option maxRecDepth 100000 in
set_option maxHeartbeats 3200000 in
theorem sequal_any (l1 l2 : List Int) (v1 v2 : Value) (w : World) (h1 : IntsAt w v1 l1) (h2 : IntsAt w v2 l2) (hl : l1.length ≤ 9223372036854775807) (hl2 : l2.length ≤ 9223372036854775807) :
    Calls Tryd.prog 122 #[v1, v2] w fun e w' => e = .returned (.bool (decide (l1 = l2))) ∧ Upd [] w w' := by
  obtain ⟨a1, cap1, rfl, hcap1, hc1⟩ := h1
  obtain ⟨a2, cap2, rfl, hcap2, hc2⟩ := h2
  by_cases hlen : l1.length = l2.length
  · have HC1 := Lib.hid hc1
    have HC2 := Lib.hid hc2
    have HLN := Lib.hid hlen
    obtain ⟨n, hn⟩ : ∃ n, l1.length = n := ⟨_, rfl⟩
    have hn2 : l2.length = n := by omega
    have HN1 := Lib.hid hn
    have HN2 := Lib.hid hn2
    clear hc1 hc2 hlen
    rw [hn] at hcap1 hl ⊢
    rw [hn2] at hcap2 ⊢
    clear hn hn2 hl2
    go_enter Tryd.func122, Tryd.ntmps122
    go_wp2
    go_loopg [13] n (fun gg s13 wr => ∃ i, i ≤ n ∧ gg = n - i ∧ s13 = .int .i64 (i : Nat) ∧ Hid (l1.take i = l2.take i) ∧ Hid (Upd [] w wr))
    case atStart => exact ⟨0, Nat.zero_le _, rfl, rfl, Lib.hid rfl, Lib.hid (Upd.refl _ _)⟩
    case round =>
      obtain ⟨i, hin, rfl, rfl, HT, HU⟩ := hrel
      by_cases hc : i < n
      · have hcz : (i : Int) < (n : Int) := by omega
        have hi1 : i < l1.length := by rw [HN1.out]; exact hc
        have hi2 : i < l2.length := by rw [HN2.out]; exact hc
        obtain ⟨b1, o1, rfl, d1⟩ := HC1.out i hi1
        obtain ⟨b2, o2, rfl, d2⟩ := HC2.out i hi2
        have c1 := HU.out.keepS d1
        have c2 := HU.out.keepS d2
        have c1d : wr.drew.cell? ⟨b1, o1 + i, none⟩ = _ := c1
        have c2d : wr.drew.cell? ⟨b2, o2 + i, none⟩ = _ := c2
        have hw1 : IntKind.i64.wrap ((i : Int) + 1) = ((i + 1 : Nat) : Int) := by rw [IntWalk.i64_in _ (by omega)]; rfl
        by_cases hq : l1[i] = l2[i]
        · have HT2 : Hid (l1.take (i + 1) = l2.take (i + 1)) := Lib.hid (by rw [List.take_succ_eq_append_getElem hi1, List.take_succ_eq_append_getElem hi2, HT.out, hq])
          rw [hq] at c1 c1d d1
          generalize l2[i] = x at *
          clear hq
          go_upto_region 6 with fail
          go_quiet (fail)
          go_wp2
          go_roundg (n - (i + 1))
          · exact ⟨i + 1, by omega, rfl, by first | rfl | go_num, HT2, Lib.hid (by first | exact HU.out | exact HU.out.drew | exact HU.out.drewN _)⟩
          · omega
        · have HD : Hid (decide (l1 = l2) = false) := Lib.hid (decide_eq_false (fun h => hq (by subst h; rfl)))
          generalize l1[i] = x at *
          generalize l2[i] = y at *
          have hq2 : (x == y) = false := by simpa using hq
          go_upto_region 6 with fail
          go_quiet (fail)
          go_wp2
          go_ret
          exact ⟨by rw [HD.out]; rfl, by first | exact HU.out | exact HU.out.drew | exact HU.out.drewN _⟩
      · have hcz : ¬ (i : Int) < (n : Int) := by omega
        obtain rfl : i = n := by omega
        have HD : Hid (decide (l1 = l2) = true) := Lib.hid (decide_eq_true (by
          have h := HT.out
          rw [List.take_of_length_le (by rw [HN1.out]; exact Nat.le_refl _), List.take_of_length_le (by rw [HN2.out]; exact Nat.le_refl _)] at h
          exact h))
        go_wp2
        go_ret
        exact ⟨by rw [HD.out]; rfl, HU.out⟩
  · have HD : Hid (decide (l1 = l2) = false) := Lib.hid (decide_eq_false (fun h => hlen (by rw [h])))
    rw [HD.out]
    have hz : ¬ (l1.length : Int) = (l2.length : Int) := by omega
    have hzb : ((l1.length : Int) == (l2.length : Int)) = false := by simpa using hz
    have hzn : (l1.length == l2.length) = false := by simpa using hlen
    clear hc1 hc2
    go_enter Tryd.func122, Tryd.ntmps122
    go_wp2
    go_ret
    exact ⟨rfl, Upd.refl _ _⟩
end Go.Proofs.YtigjingielnaoaaDoor
namespace Go.Proofs.YtigjingielnaoaaDoor
set_option linter.unusedVariables false
set_option linter.unusedSimpArgs false
set_option linter.unusedSectionVars false
open Go.RowKit
set_option linter.unusedVariables false
set_option linter.unusedSimpArgs false

def printI (k m : Int) (t : Nat) (s : Int) (c : Nat) : Value := .agg #[.int .i64 k, .int .i64 m, .int .u32 (t : Nat), .int .i64 s, .int .u32 (c : Nat)]
/-- May a print be? -/
def fineB (k m : Int) (t : Nat) (s : Int) (c : Nat) : Bool :=
  if k = 0 then decide (m = 0 ∧ t = 0 ∧ s = 0 ∧ c = 0) else if k = 2 then decide (0 ≤ m ∧ m ≤ 511 ∧ t = 0 ∧ s = 0 ∧ c = 0) else if k = 1 then decide (0 ≤ m ∧ m ≤ 511 ∧ timeB t = true ∧ 0 ≤ s ∧ s ≤ 65000 ∧ (0 < s ∨ c = 0)) else false
end Go.Proofs.YtigjingielnaoaaDoor
namespace Go.Proofs.YtigjingielnaoaaDoor
set_option linter.unusedVariables false
set_option linter.unusedSimpArgs false
set_option linter.unusedSectionVars false
open Go.RowKit
set_option linter.unusedVariables false
set_option linter.unusedSimpArgs false

/-- The words of a file's print. -/
def fileW (m t s c : Nat) : List (List Nat) := [[102, 105, 108, 101], permTo m 9, dosTextP t, decL s, hexP c 8]
/-- The text of a print. -/
def textP (k m : Int) (t : Nat) (s : Int) (c : Nat) : List Nat :=
  if fineB k m t s c = false then [] else if k = 0 then [110, 111, 110, 101] else if k = 2 then [100, 105, 114, 32] ++ permTo m.toNat 9 else joinC 32 (fileW m.toNat t s.toNat c)
theorem textsAt_new (w : World) (ps : List (List Nat)) (T : TypeId) : TextsAt (w.alloc (.cells (ps.map fun p => Value.string (strOf p)).toArray T)) (.slice (some ⟨w.heap.size, 0, none⟩) ps.length ps.length) ps := by
  have hB := Blk.new w (ps.map fun p => Value.string (strOf p)) T
  exact ⟨_, _, rfl, Nat.le_refl _, fun i hi => ⟨_, 0, rfl, by rw [Nat.zero_add]; exact hB.cell i (by rw [List.getElem?_map, List.getElem?_eq_getElem hi]; rfl)⟩⟩
theorem clockP_len (y mo d h mi s : Nat) : (clockP y mo d h mi s).length = 19 := by
  unfold clockP
  simp only [List.length_append, digP_len, List.length_cons, List.length_nil]
theorem dosTextP_len (t : Nat) : (dosTextP t).length ≤ 19 := by
  unfold dosTextP
  split
  · rw [clockP_len]; omega
  · simp
end Go.Proofs.YtigjingielnaoaaDoor
namespace Go.Proofs.YtigjingielnaoaaDoor
set_option linter.unusedVariables false
set_option linter.unusedSimpArgs false
set_option linter.unusedSectionVars false
open Go.RowKit
set_option linter.unusedVariables false
set_option linter.unusedSimpArgs false

/-- A print's five numbers. -/
structure PrN where
  k : Int
  m : Int
  t : Nat
  s : Int
  c : Nat
def PrN.text (p : PrN) : List Nat := textP p.k p.m p.t p.s p.c
def PrN.val (p : PrN) : Value := printI p.k p.m p.t p.s p.c
def PrN.no : PrN := ⟨0, 0, 0, 0, 0⟩
theorem modeP_true {l : List Nat} (h : (modeP l).2 = true) : (modeP l).1 < 512 ∧ permTo (modeP l).1 9 = l := by
  unfold modeP at h ⊢
  by_cases h0 : l.length ≠ 9
  · rw [if_pos h0] at h; cases h
  · rw [if_neg h0] at h ⊢
    by_cases h1 : permTo (bitsM l) 9 = l
    · rw [if_pos h1]; exact ⟨bitsM_lt 9 l (by omega), h1⟩
    · rw [if_neg h1] at h; cases h
theorem modeP_false {l : List Nat} (h : (modeP l).2 = false) : (modeP l).1 = 0 := by
  unfold modeP at h ⊢
  by_cases h0 : l.length ≠ 9
  · rw [if_pos h0]
  · rw [if_neg h0] at h ⊢
    by_cases h1 : permTo (bitsM l) 9 = l
    · rw [if_pos h1] at h; cases h
    · rw [if_neg h1]
theorem modeP_lt (l : List Nat) : (modeP l).1 < 512 := by
  cases h : (modeP l).2 with
  | true => exact (modeP_true h).1
  | false => rw [modeP_false h]; decide
end Go.Proofs.YtigjingielnaoaaDoor
namespace Go.Proofs.YtigjingielnaoaaDoor
set_option linter.unusedVariables false
set_option linter.unusedSimpArgs false
set_option linter.unusedSectionVars false
open Go.RowKit
set_option linter.unusedVariables false

def nodeV (k m : Int) (t : Nat) (D : ByteArray) : Value := .agg #[.int .i64 k, .int .i64 m, .int .u32 (t : Nat), .string D]
def nodeErr (k m : Int) (t : Nat) (D : ByteArray) : Nat :=
  if k < 0 ∨ 2 < k then 8 else if k = 0 ∧ (m ≠ 0 ∨ t ≠ 0 ∨ D.toList ≠ []) then 1 else if k = 2 ∧ (D.toList ≠ [] ∨ t ≠ 0) then 1 else if m < 0 ∨ 511 < m then 12 else if k = 1 ∧ timeB t = false then 13 else if 65000 < D.size then 4 else 0
set_option maxRecDepth 100000 in
set_option maxHeartbeats 3200000 in
theorem nodeRight_any (k m : Int) (t : Nat) (D : ByteArray) (w : World) (ht : t < 4294967296) (hD : D.size ≤ 9223372036854775807) : Calls Tryd.prog 41 #[nodeV k m t D] w fun e w' => e = .returned (.int .i64 (nodeErr k m t D : Nat)) ∧ Upd [] w w' := by
  have HT := Lib.hid (fun w' => dosRight_any t w' ht)
  have HM := Lib.hid (fun m w' => mode_any m w')
  unfold nodeV
  go_enter Tryd.func41, Tryd.ntmps41
  go_wp2_with (first | (go_at_call 69; refine (HT.out _).mono ?_; rintro e w2 ⟨rfl, hU2⟩; have c3 := ((Blk.new w _ _).upd hU2 (by simp)).cell 3 rfl) | (go_at_call 65; refine (HM.out _ _).mono ?_; rintro e w2 ⟨rfl, rfl⟩))
  all_goals go_returns
  all_goals (refine ⟨congrArg (fun z => Ending.returned (.int .i64 z)) ?_, by first | exact (Upd.refl _ _).alloc _ | exact ((Upd.refl _ _).alloc _).then (by assumption)⟩)
  all_goals (clear HT HM; unfold nodeErr; (repeat' split) <;> first | rfl | (exfalso; omega) | (exfalso; simp_all; done) | (exfalso; simp_all; omega))
end Go.Proofs.YtigjingielnaoaaDoor
namespace Go.Proofs.YtigjingielnaoaaDoor
set_option linter.unusedVariables false
set_option linter.unusedSimpArgs false
set_option linter.unusedSectionVars false
open Go.RowKit
set_option linter.unusedVariables false
set_option linter.unusedSimpArgs false

theorem dosParseP_lt (l : List Nat) : (dosParseP l).1 < 4294967296 := by
  unfold dosParseP
  by_cases h0 : l.length ≠ 19
  · rw [if_pos h0]; decide
  · rw [if_neg h0]
    by_cases h1 : rightT l = false
    · rw [if_pos h1]; decide
    · rw [if_neg h1]
      have := timeT_lt (l := l) (by simpa using h1)
      by_cases h2 : dosTextP (timeT l) = l
      · rw [if_pos h2]; exact this
      · rw [if_neg h2]; decide
end Go.Proofs.YtigjingielnaoaaDoor
namespace Go.Proofs.YtigjingielnaoaaDoor
set_option linter.unusedVariables false
set_option linter.unusedSimpArgs false
set_option linter.unusedSectionVars false
open Go.RowKit
set_option linter.unusedVariables false
set_option linter.unusedSimpArgs false

/-- Bytes as digits to the base 16. -/
def hexF (l : List Nat) : List Nat := l.flatMap fun b => [hexd (b / 16), hexd (b % 16)]
theorem hexF_snoc (l : List Nat) (b : Nat) : hexF (l ++ [b]) = hexF l ++ [hexd (b / 16), hexd (b % 16)] := by simp [hexF]
theorem hexF_len : ∀ l : List Nat, (hexF l).length = 2 * l.length
  | [] => rfl
  | b :: l => by
    have e : hexF (b :: l) = [hexd (b / 16), hexd (b % 16)] ++ hexF l := rfl
    have e2 : ([hexd (b / 16), hexd (b % 16)] : List Nat).length = 2 := rfl
    have e3 : (b :: l).length = l.length + 1 := rfl
    rw [e, List.length_append, hexF_len l, e2, e3]
    omega
def hexT (l : List Nat) : List Nat := if l = [] then [45] else hexF l
/-- The byte of two digits. -/
def pairB (x y : Nat) : Nat := (16 * hexIx x + hexIx y) % 256
def bytesN (l : List Nat) : Nat → List Nat
  | 0 => []
  | k + 1 => bytesN l k ++ [pairB (l.getD (2 * k) 0) (l.getD (2 * k + 1) 0)]
def bytesP (l : List Nat) : List Nat := bytesN l (l.length / 2)
theorem bytesN_len (l : List Nat) : ∀ k, (bytesN l k).length = k
  | 0 => rfl
  | k + 1 => by unfold bytesN; rw [List.length_append, bytesN_len l k]; rfl
theorem hexd_dig (k : Nat) (h : k < 16) : 48 ≤ hexd k ∧ hexd k ≤ 102 := by unfold hexd; split <;> omega
theorem hexF_dig (l : List Nat) (hl : ∀ b ∈ l, b < 256) : ∀ x ∈ hexF l, 48 ≤ x ∧ x ≤ 102 := fun x hx => by
  obtain ⟨b, hb, h⟩ := List.mem_flatMap.1 hx
  have := hl b hb
  simp at h
  rcases h with rfl | rfl
  · exact hexd_dig _ (by omega)
  · exact hexd_dig _ (by omega)
theorem hexT_dig (l : List Nat) (hl : ∀ b ∈ l, b < 256) : ∀ x ∈ hexT l, 45 ≤ x ∧ x ≤ 102 := fun x hx => by
  unfold hexT at hx
  split at hx
  · simp at hx; omega
  · have := hexF_dig l hl x hx; omega
/-- A node's words. -/
structure NodN where
  k : Int
  m : Int
  t : Nat
  D : ByteArray
def NodN.v (n : NodN) : Value := nodeV n.k n.m n.t n.D
def NodN.no : NodN := ⟨0, 0, 0, ⟨#[]⟩⟩
def fileW4 (n : NodN) : List (List Nat) := [[102, 105, 108, 101], permTo n.m.toNat 9, dosTextP n.t, hexT (bytesOf n.D)]
/-- A node's text. -/
def NodN.text (n : NodN) : List Nat :=
  if nodeErr n.k n.m n.t n.D ≠ 0 then [] else if n.k = 0 then [110, 111, 110, 101] else if n.k = 2 then [100, 105, 114, 32] ++ permTo n.m.toNat 9 else joinC 32 (fileW4 n)
/-- The node of words. -/
def NodN.pre (l : List Nat) : NodN :=
  if (splitC 32 l).length = 2 then ⟨2, ((modeP ((splitC 32 l).getD 1 [])).1 : Nat), 0, ⟨#[]⟩⟩
  else if (splitC 32 l).length = 5 then ⟨1, ((modeP ((splitC 32 l).getD 1 [])).1 : Nat), (dosParseP ((splitC 32 l).getD 2 [] ++ [32] ++ (splitC 32 l).getD 3 [])).1, strOf (bytesP ((splitC 32 l).getD 4 []))⟩
  else NodN.no
def nodOk (l : List Nat) : Bool := decide (l ≠ [] ∧ (NodN.pre l).text = l)
def nodN (l : List Nat) : NodN := if nodOk l = true then NodN.pre l else NodN.no
theorem nodeErr_zero {k m : Int} {t : Nat} {D : ByteArray} (h : nodeErr k m t D = 0) : (k = 0 ∧ m = 0 ∧ t = 0 ∧ D.toList = []) ∨ (k = 2 ∧ 0 ≤ m ∧ m ≤ 511 ∧ t = 0 ∧ D.toList = []) ∨ (k = 1 ∧ 0 ≤ m ∧ m ≤ 511 ∧ timeB t = true ∧ D.size ≤ 65000) := by
  unfold nodeErr at h
  by_cases h1 : k < 0 ∨ 2 < k
  · rw [if_pos h1] at h; cases h
  rw [if_neg h1] at h
  by_cases h2 : k = 0 ∧ (m ≠ 0 ∨ t ≠ 0 ∨ D.toList ≠ [])
  · rw [if_pos h2] at h; cases h
  rw [if_neg h2] at h
  by_cases h3 : k = 2 ∧ (D.toList ≠ [] ∨ t ≠ 0)
  · rw [if_pos h3] at h; cases h
  rw [if_neg h3] at h
  by_cases h4 : m < 0 ∨ 511 < m
  · rw [if_pos h4] at h; cases h
  rw [if_neg h4] at h
  by_cases h5 : k = 1 ∧ timeB t = false
  · rw [if_pos h5] at h; cases h
  rw [if_neg h5] at h
  by_cases h6 : 65000 < D.size
  · rw [if_pos h6] at h; cases h
  obtain rfl | rfl | rfl : k = 0 ∨ k = 1 ∨ k = 2 := by omega
  · left
    simp only [true_and, not_or, Classical.not_not] at h2
    exact ⟨rfl, h2⟩
  · right; right
    exact ⟨rfl, by omega, by omega, by cases hb : timeB t with | true => rfl | false => exact absurd ⟨rfl, hb⟩ h5, by omega⟩
  · right; left
    simp only [true_and, not_or, Classical.not_not] at h3
    exact ⟨rfl, by omega, by omega, h3.2, h3.1⟩
theorem empty_of {D : ByteArray} (h : D.toList = []) : D = ⟨#[]⟩ := by
  rw [ByteArray.toList_eq] at h
  have h2 : bytesOf D = [] := by unfold bytesOf; rw [h]; rfl
  rw [← strOf_bytesOf D, h2]
  rfl
theorem pre_lt (l : List Nat) : (NodN.pre l).t < 4294967296 := by
  unfold NodN.pre
  split
  · exact Nat.zero_lt_succ _
  · split
    · exact dosParseP_lt _
    · exact Nat.zero_lt_succ _
theorem nodN_no {l : List Nat} (h : nodOk l = false) : nodN l = NodN.no := by unfold nodN; rw [if_neg (by rw [h]; decide)]
theorem nodN_lt (l : List Nat) : (nodN l).t < 4294967296 := by
  unfold nodN
  split
  · exact pre_lt l
  · exact Nat.zero_lt_succ _
end Go.Proofs.YtigjingielnaoaaDoor

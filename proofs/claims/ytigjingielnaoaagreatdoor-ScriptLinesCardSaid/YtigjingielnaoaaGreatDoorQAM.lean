/- Package script: list: its walk. -/
import Derived.Test.YtigjingielnaoaaGreatDoorQAK
import Derived.Test.YtigjingielnaoaaGreatDoorQAL
import Derived.Deep.QuietTactic
import Derived.BigQuiet
import Derived.Test.YtigjingielnaoaaGreatDoorQAD
import Derived.Test.YtigjingielnaoaaGreatDoorHeld
namespace Go.Proofs.YtigjingielnaoaaGreatDoor
set_option linter.unusedVariables false
set_option linter.unusedSimpArgs false
set_option linter.unusedSectionVars false
open Go.RowKit
set_option linter.unusedVariables false
set_option linter.unusedSimpArgs false

/-- A slice that reads as numbers. -/
def IntsAt (w : World) (v : Value) (l : List Int) : Prop := ∃ a cap, v = .slice a l.length cap ∧ l.length ≤ cap ∧ ∀ i, (hi : i < l.length) → ∃ b off, a = some ⟨b, off, none⟩ ∧ w.cell? ⟨b, off + i, none⟩ = some (.int .i64 l[i])
theorem Upd.keepS {w w' : World} (hu : Upd [] w w') {b o : Nat} {u : Value} (h : w.cell? ⟨b, o, none⟩ = some u) : w'.cell? ⟨b, o, none⟩ = some u := (hu.at (textCell_lt h) (by simp) o).trans h
theorem IntsAt.upd {w w' : World} {v : Value} {l : List Int} (h : IntsAt w v l) (hu : Upd [] w w') : IntsAt w' v l := by
  obtain ⟨a, cap, e, hc, h⟩ := h
  refine ⟨a, cap, e, hc, fun i hi => ?_⟩
  obtain ⟨b, off, e2, h2⟩ := h i hi
  exact ⟨b, off, e2, hu.keepS h2⟩
/-- Numbers, with commas between. -/
def listP (l : List Int) : List Nat := if l = [] then [45] else joinC 44 (l.map decZ)
theorem decZ_len {n : Int} (h1 : -1000000 < n) (h2 : n < 1000000) : (decZ n).length ≤ 8 := by
  unfold decZ
  split
  · have := decL_len 6 (-n).toNat (by omega)
    simp; omega
  · have := decL_len 6 n.toNat (by omega)
    omega
theorem decZ_lt {n : Int} (h1 : -1000000 < n) (h2 : n < 1000000) : ∀ x ∈ decZ n, x < 256 := by
  intro x hx
  unfold decZ at hx
  split at hx
  · rcases List.mem_cons.1 hx with rfl | hx
    · omega
    · have := decL_dig 6 (-n).toNat (by omega) x hx; omega
  · have := decL_dig 6 n.toNat (by omega) x hx; omega
theorem totC_le (B : Nat) : ∀ ps : List (List Nat), (∀ p ∈ ps, p.length ≤ B) → totC ps ≤ (B + 1) * ps.length
  | [], _ => by simp [totC]
  | p :: ps, h => by
    have h1 := totC_le B ps (fun q hq => h q (List.mem_cons_of_mem _ hq))
    have h2 := h p (List.mem_cons_self ..)
    unfold totC at h1 ⊢
    simp only [List.map_cons, List.sum_cons, List.length_cons] at h1 ⊢
    rw [Nat.mul_add]
    omega
theorem infoStrL : (Tryz.prog.info? 9).map (fun i => (i.zero, i.size, i.bytes)) = some (some (.string ByteArray.empty), 1, 16) := by kernel_rfl
set_option maxRecDepth 100000 in
set_option maxHeartbeats 3200000 in
theorem slist_any (l : List Int) (v : Value) (w : World) (hv : IntsAt w v l) (hb : ∀ n ∈ l, -1000000 < n ∧ n < 1000000) (hl : l.length ≤ 1000) :
    Calls Tryz.prog 36 #[v] w fun e w' => e = .returned (.string (strOf (listP l))) ∧ Upd [] w w' := by
  obtain ⟨i0, hi, hz0, hz1, hz2⟩ := info_parts infoStrL
  obtain ⟨a, cap, rfl, hcap, hc⟩ := hv
  have HC := Lib.hid hc
  by_cases h0 : l.length = 0
  · have HV : Hid (listP l = [45]) := Lib.hid (by unfold listP; rw [if_pos (List.eq_nil_of_length_eq_zero h0)])
    rw [HV.out]
    have hz : (l.length : Int) = 0 := by omega
    go_enter Tryz.func36, Tryz.ntmps36
    go_wp2
    go_ret
    exact ⟨rfl, Upd.refl _ _⟩
  · have HV : Hid (listP l = joinC 44 (l.map decZ)) := Lib.hid (by unfold listP; rw [if_neg (fun h => h0 (by rw [h]; rfl))])
    have HJ := Lib.hid (fun v w h => joinC_any (l.map decZ) 44 v w h (fun p hp => by obtain ⟨n, hn, rfl⟩ := List.mem_map.1 hp; exact decZ_lt (hb n hn).1 (hb n hn).2) (by rw [List.length_map]; exact hl) (by
      have h1 := totC_le 8 (l.map decZ) (fun p hp => by obtain ⟨n, hn, rfl⟩ := List.mem_map.1 hp; exact decZ_len (hb n hn).1 (hb n hn).2)
      rw [List.length_map] at h1
      omega))
    have HE : Hid (joinC (44 : UInt8).toNat (l.map decZ) = joinC 44 (l.map decZ)) := Lib.hid rfl
    rw [HE.out] at HJ
    clear HE
    rw [HV.out]
    obtain ⟨n, hn⟩ : ∃ n, l.length = n := ⟨_, rfl⟩
    have HNL := Lib.hid hn
    have HB := Lib.hid hb
    obtain ⟨b, off, rfl, hx0⟩ := hc 0 (by omega)
    clear hx0
    have HCC : Hid (∀ i, (hi : i < l.length) → w.cell? ⟨b, off + i, none⟩ = some (.int .i64 l[i])) := Lib.hid (fun i hi => by
      obtain ⟨b', o', e1, e2⟩ := hc i hi
      cases e1
      exact e2)
    clear hc HC hb
    rw [hn] at h0 hl hcap ⊢
    clear hn
    have hz : ¬ (n : Int) = 0 := by omega
    have hzb : ((n : Int) == 0) = false := by simp; omega
    have HML : Hid ((l.map decZ).length = n) := Lib.hid (by rw [List.length_map]; exact HNL.out)
    have HMT : Hid (∀ i, (hi : i < l.length) → (l.map decZ).take (i + 1) = (l.map decZ).take i ++ [decZ l[i]]) := Lib.hid (fun i hi => by
      rw [List.take_succ_eq_append_getElem (by rw [List.length_map]; exact hi), List.getElem_map])
    generalize l.map decZ = M at *
    go_enter Tryz.func36, Tryz.ntmps36
    go_wp2
    go_loopg [3, 11] n (fun gg s3 s11 wr => ∃ i, i ≤ n ∧ gg = n - i ∧ s11 = .int .i64 (i : Nat) ∧ Hid (OwnS w wr s3 (M.take i)) ∧ Hid (Upd [] w wr))
    case atStart => exact ⟨0, Nat.zero_le _, rfl, rfl, Lib.hid (OwnS.nil w w), Lib.hid (Upd.refl _ _)⟩
    case round =>
      obtain ⟨i, hin, rfl, rfl, HR, HU⟩ := hrel
      have hwl : (M.take i).length = i := by rw [List.length_take, HML.out]; omega
      by_cases hc : i < n
      · have hcz : (i : Int) < (n : Int) := by omega
        have hil : i < l.length := by rw [HNL.out]; exact hc
        have c1 := HU.out.keepS (HCC.out i hil)
        have hbb := HB.out l[i] (List.getElem_mem hil)
        have HTK := Lib.hid (HMT.out i hil)
        generalize l[i] = x at *
        have HD := Lib.hid (fun w => sdec_any x w hbb.1 hbb.2)
        obtain ⟨va, vc, rfl⟩ := HR.out.form
        rw [hwl] at HR ⊢
        have HWL := Lib.hid hwl
        clear hwl hbb hil
        go_wp2_with fail
        refine (HD.out _).mono ?_
        rintro e w3 ⟨rfl, hu3⟩
        have hR3 := HR.out.upd hu3
        have HU3 := Lib.hid (HU.out.then hu3)
        have hR5 := hR3.1.alloc (.cells #[.string (strOf (decZ x))] 9)
        rw [HWL.out] at hR5
        clear hu3
        go_wp2_with (at_builtin; refine wpList_app _ rfl _ _ 33 rfl 9 i0 _ 1 16 Tryz.underlying33 hi hz0 hz1 hz2 rfl (by omega) (.slice va i vc) i _ rfl hR5 ⟨w3.heap.size, 0, none⟩ 1 1 [_] rfl rfl (World.news_of_block (cs := #[_]) (t := 9) (fr := (0, 0)) (heap_alloc_new _ _)) (by simp [Value.oneCell']) (by unfold maxLen; omega) (by omega) ?_)
        intro v4 w5 hR4 hU4 hT4
        have hap := hR3.app (p := decZ x) _ HU3.out (by rw [HWL.out]; exact hR4) hU4 hT4
        rw [← HTK.out] at hap
        have HAP := Lib.hid hap
        clear hR4 hU4 hT4 hap hR3 hR5
        go_wp2
        go_roundg (n - (i + 1))
        · exact ⟨i + 1, by omega, rfl, by first | rfl | go_num, Lib.hid HAP.out.1, Lib.hid HAP.out.2⟩
        · omega
      · have hcz : ¬ (i : Int) < (n : Int) := by omega
        obtain rfl : i = n := by omega
        obtain ⟨va, vc, rfl⟩ := HR.out.form
        rw [hwl] at HR ⊢
        have HT : Hid (TextsAt wr (.slice va i vc) M) := Lib.hid (by
          have := HR.out.texts
          rw [List.take_of_length_le (by rw [HML.out]; exact Nat.le_refl _)] at this
          exact this)
        clear hwl HR
        go_wp2_with fail
        refine (HJ.out _ _ HT.out).mono ?_
        rintro e w4 ⟨rfl, hu4⟩
        go_wp2
        go_ret
        exact ⟨rfl, HU.out.then hu4⟩
end Go.Proofs.YtigjingielnaoaaGreatDoor
namespace Go.Proofs.YtigjingielnaoaaGreatDoor
set_option linter.unusedVariables false
set_option linter.unusedSimpArgs false
set_option linter.unusedSectionVars false
open Go.RowKit
set_option linter.unusedVariables false
set_option linter.unusedSimpArgs false

set_option maxRecDepth 100000 in
set_option maxHeartbeats 3200000 in
theorem sequal_any (l1 l2 : List Int) (v1 v2 : Value) (w : World) (h1 : IntsAt w v1 l1) (h2 : IntsAt w v2 l2) (hl : l1.length ≤ 9223372036854775807) (hl2 : l2.length ≤ 9223372036854775807) :
    Calls Tryz.prog 38 #[v1, v2] w fun e w' => e = .returned (.bool (decide (l1 = l2))) ∧ Upd [] w w' := by
  obtain ⟨a1, cap1, rfl, hcap1, hc1⟩ := h1
  obtain ⟨a2, cap2, rfl, hcap2, hc2⟩ := h2
  by_cases hlen : l1.length = l2.length
  · have HC1 := Lib.hid hc1
    have HC2 := Lib.hid hc2
    have HLN := Lib.hid hlen
    obtain ⟨n, hn⟩ : ∃ n, l1.length = n := ⟨_, rfl⟩
    have hn2 : l2.length = n := by omega
    have HN1 := Lib.hid hn
    have HN2 := Lib.hid hn2
    clear hc1 hc2 hlen
    rw [hn] at hcap1 hl ⊢
    rw [hn2] at hcap2 ⊢
    clear hn hn2 hl2
    go_enter Tryz.func38, Tryz.ntmps38
    go_wp2
    go_loopg [13] n (fun gg s13 wr => ∃ i, i ≤ n ∧ gg = n - i ∧ s13 = .int .i64 (i : Nat) ∧ Hid (l1.take i = l2.take i) ∧ Hid (Upd [] w wr))
    case atStart => exact ⟨0, Nat.zero_le _, rfl, rfl, Lib.hid rfl, Lib.hid (Upd.refl _ _)⟩
    case round =>
      obtain ⟨i, hin, rfl, rfl, HT, HU⟩ := hrel
      by_cases hc : i < n
      · have hcz : (i : Int) < (n : Int) := by omega
        have hi1 : i < l1.length := by rw [HN1.out]; exact hc
        have hi2 : i < l2.length := by rw [HN2.out]; exact hc
        obtain ⟨b1, o1, rfl, d1⟩ := HC1.out i hi1
        obtain ⟨b2, o2, rfl, d2⟩ := HC2.out i hi2
        have c1 := HU.out.keepS d1
        have c2 := HU.out.keepS d2
        have c1d : wr.drew.cell? ⟨b1, o1 + i, none⟩ = _ := c1
        have c2d : wr.drew.cell? ⟨b2, o2 + i, none⟩ = _ := c2
        have hw1 : IntKind.i64.wrap ((i : Int) + 1) = ((i + 1 : Nat) : Int) := by rw [IntWalk.i64_in _ (by omega)]; rfl
        by_cases hq : l1[i] = l2[i]
        · have HT2 : Hid (l1.take (i + 1) = l2.take (i + 1)) := Lib.hid (by rw [List.take_succ_eq_append_getElem hi1, List.take_succ_eq_append_getElem hi2, HT.out, hq])
          rw [hq] at c1 c1d d1
          generalize l2[i] = x at *
          clear hq
          go_upto_region 6 with fail
          go_quiet (fail)
          go_wp2
          go_roundg (n - (i + 1))
          · exact ⟨i + 1, by omega, rfl, by first | rfl | go_num, HT2, Lib.hid (by first | exact HU.out | exact HU.out.drew | exact HU.out.drewN _)⟩
          · omega
        · have HD : Hid (decide (l1 = l2) = false) := Lib.hid (decide_eq_false (fun h => hq (by subst h; rfl)))
          generalize l1[i] = x at *
          generalize l2[i] = y at *
          have hq2 : (x == y) = false := by simpa using hq
          go_upto_region 6 with fail
          go_quiet (fail)
          go_wp2
          go_ret
          exact ⟨by rw [HD.out]; rfl, by first | exact HU.out | exact HU.out.drew | exact HU.out.drewN _⟩
      · have hcz : ¬ (i : Int) < (n : Int) := by omega
        obtain rfl : i = n := by omega
        have HD : Hid (decide (l1 = l2) = true) := Lib.hid (decide_eq_true (by
          have h := HT.out
          rw [List.take_of_length_le (by rw [HN1.out]; exact Nat.le_refl _), List.take_of_length_le (by rw [HN2.out]; exact Nat.le_refl _)] at h
          exact h))
        go_wp2
        go_ret
        exact ⟨by rw [HD.out]; rfl, HU.out⟩
  · have HD : Hid (decide (l1 = l2) = false) := Lib.hid (decide_eq_false (fun h => hlen (by rw [h])))
    rw [HD.out]
    have hz : ¬ (l1.length : Int) = (l2.length : Int) := by omega
    have hzb : ((l1.length : Int) == (l2.length : Int)) = false := by simpa using hz
    have hzn : (l1.length == l2.length) = false := by simpa using hlen
    clear hc1 hc2
    go_enter Tryz.func38, Tryz.ntmps38
    go_wp2
    go_ret
    exact ⟨rfl, Upd.refl _ _⟩
end Go.Proofs.YtigjingielnaoaaGreatDoor
namespace Go.Proofs.YtigjingielnaoaaGreatDoor
set_option linter.unusedVariables false
set_option linter.unusedSimpArgs false
set_option linter.unusedSectionVars false
open Go.RowKit
set_option linter.unusedVariables false
def nodeL (k m t : Int) (D : ByteArray) : Value := .agg #[.int .i64 k, .int .i64 m, .int .u32 t, .string D]
theorem eqlNode {a : Act} {o : Oper} {x y : Operand} {T : TypeId} (ho : o.op = .binOp .eql 24 x y T) (k m t k2 m2 t2 : Int) (D D2 : ByteArray) (hx : a.eval x = nodeL k m t D) (hy : a.eval y = nodeL k2 m2 t2 D2) (w : World) :
    (execOp a.eval o).run Tryz.prog w = .ok (.value (.bool (decide (k = k2 ∧ m = m2 ∧ t = t2 ∧ D = D2)))) w := by
  simp only [execOp, ho, hx, hy, nodeL]
  by_cases h1 : k = k2
  · by_cases h2 : m = m2
    · by_cases h3 : t = t2
      · by_cases h4 : D = D2
        · subst h1 h2 h3 h4
          go_simp
        · subst h1 h2 h3
          go_simp
          intro h
          rw [ByteArray.toList_eq, ByteArray.toList_eq] at h
          exact h4 (ByteArray.ext (Array.ext' h))
      · have e : (t == t2) = false := by simp [h3]
        subst h1 h2
        go_simp
    · have e : (m == m2) = false := by simp [h2]
      subst h1
      go_simp
  · have e : (k == k2) = false := by simp [h1]
    go_simp
end Go.Proofs.YtigjingielnaoaaGreatDoor
namespace Go.Proofs.YtigjingielnaoaaGreatDoor
set_option linter.unusedVariables false
set_option linter.unusedSimpArgs false
set_option linter.unusedSectionVars false
open Go.RowKit
set_option linter.unusedVariables false
set_option linter.unusedSimpArgs false

def printI (k m : Int) (t : Nat) (s : Int) (c : Nat) : Value := .agg #[.int .i64 k, .int .i64 m, .int .u32 (t : Nat), .int .i64 s, .int .u32 (c : Nat)]
/-- May a print be? -/
def fineB (k m : Int) (t : Nat) (s : Int) (c : Nat) : Bool :=
  if k = 0 then decide (m = 0 ∧ t = 0 ∧ s = 0 ∧ c = 0) else if k = 2 then decide (0 ≤ m ∧ m ≤ 511 ∧ t = 0 ∧ s = 0 ∧ c = 0) else if k = 1 then decide (0 ≤ m ∧ m ≤ 511 ∧ timeB t = true ∧ 0 ≤ s ∧ s ≤ 65000 ∧ (0 < s ∨ c = 0)) else false
end Go.Proofs.YtigjingielnaoaaGreatDoor
namespace Go.Proofs.YtigjingielnaoaaGreatDoor
set_option linter.unusedVariables false
set_option linter.unusedSimpArgs false
set_option linter.unusedSectionVars false
open Go.RowKit
set_option linter.unusedVariables false
set_option linter.unusedSimpArgs false

/-- The sign of a mode's bit. -/
def signP (m i : Nat) : Nat := if m / 2 ^ i % 2 = 0 then 45 else if i % 3 = 0 then 120 else if i % 3 = 1 then 119 else 114
def signsP (m : Nat) : Nat → List Nat
  | 0 => []
  | i + 1 => signP m i :: signsP m i
theorem signsP_len (m : Nat) : ∀ i, (signsP m i).length = i
  | 0 => rfl
  | i + 1 => by rw [signsP, List.length_cons, signsP_len m i]
theorem permTo_get (m : Nat) : ∀ (i j : Nat), i ≤ 9 → (h : j < 9) → (permTo m i)[j]'(by rw [permTo_len]; exact h) = if j < i ∧ m / 2 ^ (8 - j) % 2 = 0 then 45 else permBase[j]'h
  | 0, j, _, h => by rw [if_neg (by omega)]; rfl
  | i + 1, j, hi, h => by
    have ih := permTo_get m i j (by omega) h
    by_cases hq : m / 2 ^ (8 - i) % 2 = 0
    · have e : permTo m (i + 1) = (permTo m i).set i 45 := by show (if m / 2 ^ (8 - i) % 2 = 0 then _ else _) = _; rw [if_pos hq]
      simp only [e, List.getElem_set]
      by_cases hij : i = j
      · subst hij
        rw [if_pos rfl, if_pos ⟨by omega, hq⟩]
      · rw [if_neg hij, ih]
        by_cases hj : j < i
        · by_cases hz : m / 2 ^ (8 - j) % 2 = 0
          · rw [if_pos ⟨hj, hz⟩, if_pos ⟨by omega, hz⟩]
          · rw [if_neg (by omega), if_neg (by omega)]
        · rw [if_neg (by omega), if_neg (by omega)]
    · have e : permTo m (i + 1) = permTo m i := by show (if m / 2 ^ (8 - i) % 2 = 0 then _ else _) = _; rw [if_neg hq]
      simp only [e, ih]
      by_cases hij : i = j
      · subst hij
        rw [if_neg (by omega), if_neg (by omega)]
      · by_cases hj : j < i
        · by_cases hz : m / 2 ^ (8 - j) % 2 = 0
          · rw [if_pos ⟨hj, hz⟩, if_pos ⟨by omega, hz⟩]
          · rw [if_neg (by omega), if_neg (by omega)]
        · rw [if_neg (by omega), if_neg (by omega)]
theorem signs_perm (m : Nat) : ∀ i, i ≤ 9 → signsP m i = (permTo m 9).drop (9 - i)
  | 0, _ => by rw [List.drop_of_length_le (by rw [permTo_len]; omega)]; rfl
  | i + 1, h => by
    rw [List.drop_eq_getElem_cons (by rw [permTo_len]; omega), permTo_get m 9 (9 - (i + 1)) (by omega) (by omega), signsP, signs_perm m i (by omega), show 9 - (i + 1) + 1 = 9 - i by omega]
    congr 1
    unfold signP
    rw [show 8 - (9 - (i + 1)) = i by omega]
    by_cases hz : m / 2 ^ i % 2 = 0
    · rw [if_pos hz, if_pos ⟨by omega, hz⟩]
    · have hz2 : ¬ (9 - (i + 1) < 9 ∧ m / 2 ^ i % 2 = 0) := fun h => hz h.2
      rw [if_neg hz, if_neg hz2]
      clear hz hz2
      rcases (by omega : i = 0 ∨ i = 1 ∨ i = 2 ∨ i = 3 ∨ i = 4 ∨ i = 5 ∨ i = 6 ∨ i = 7 ∨ i = 8) with rfl | rfl | rfl | rfl | rfl | rfl | rfl | rfl | rfl <;> rfl
set_option maxRecDepth 100000 in
set_option maxHeartbeats 3200000 in
theorem rperm_any (n : Nat) (w : World) (hn : n < 512) : Calls Tryz.prog 53 #[.int .i64 (n : Nat)] w fun e w' => e = .returned (.string (strOf (permTo n 9))) ∧ Upd [] w w' := by
  have HV : Hid (permTo n 9 = signsP n 9) := Lib.hid (by rw [signs_perm n 9 (by omega)]; rfl)
  rw [HV.out]
  go_enter Tryz.func53, Tryz.ntmps53
  go_wp2
  go_loopg [0, 3, 4] 9 (fun g s0 s3 s4 wr => ∃ i m, i ≤ 9 ∧ g = 9 - i ∧ s4 = .int .i64 (i : Nat) ∧ s0 = .int .i64 (m : Nat) ∧ Hid (m = n / 2 ^ i) ∧ m < 512 ∧ s3 = .string (strOf (signsP n i)) ∧ Hid (Upd [] w wr))
  case atStart => exact ⟨0, n, by omega, rfl, rfl, rfl, Lib.hid (by simp), hn, rfl, Lib.hid (Upd.refl _ _)⟩
  case round =>
    obtain ⟨i, m, hi, rfl, rfl, rfl, HM, hm, rfl, HU⟩ := hrel
    by_cases hc9 : i < 9
    · have hcz : (i : Int) < 9 := by omega
      have hadd := fun w => addl_row [signP n i] (signsP n i) (by rw [signsP_len]; simp; omega) w
      have HS : Hid ([signP n i] ++ signsP n i = signsP n (i + 1)) := Lib.hid rfl
      rw [HS.out] at hadd
      have HM2 : Hid (m / 2 = n / 2 ^ (i + 1)) := Lib.hid (by rw [HM.out, Nat.div_div_eq_div_mul, Nat.pow_succ])
      have hm2 : m / 2 < 512 := by omega
      by_cases h1 : m % 2 = 1
      · have t1 : ((m : Int) % 2 == 1) = true := by simp; omega
        have hsg : signP n i = if i % 3 = 0 then 120 else if i % 3 = 1 then 119 else 114 := by
          unfold signP
          rw [← HM.out, if_neg (by omega)]
        have hB := Blk.new wr [.string ({ data := #[120] } : ByteArray), .string ({ data := #[119] } : ByteArray), .string ({ data := #[114] } : ByteArray)] 9
        have h3 : i % 3 < 3 := by omega
        have ht3 : ((i : Int) % 3).toNat = i % 3 := by omega
        rcases (by omega : i % 3 = 0 ∨ i % 3 = 1 ∨ i % 3 = 2) with e | e | e
        all_goals (
          have ez : (i : Int) % 3 = ((i % 3 : Nat) : Int) := by omega
          rw [e] at ez hsg
          simp at hsg)
        · have c0 := hB.cell 0 rfl
          clear hB
          rw [hsg] at hadd
          have hadd2 : ∀ w : World, (Op.stringOp .add ({ data := #[120] } : ByteArray) (strOf (signsP n i))).run Tryz.prog w = .ok (.string (strOf (signsP n (i + 1)))) w := hadd
          go_wp2
          go_roundg (9 - (i + 1))
          · exact ⟨i + 1, m / 2, by omega, rfl, by first | rfl | go_num, by first | rfl | go_num, HM2, hm2, rfl, Lib.hid (HU.out.alloc _)⟩
          · omega
        · have c0 := hB.cell 1 rfl
          clear hB
          rw [hsg] at hadd
          have hadd2 : ∀ w : World, (Op.stringOp .add ({ data := #[119] } : ByteArray) (strOf (signsP n i))).run Tryz.prog w = .ok (.string (strOf (signsP n (i + 1)))) w := hadd
          go_wp2
          go_roundg (9 - (i + 1))
          · exact ⟨i + 1, m / 2, by omega, rfl, by first | rfl | go_num, by first | rfl | go_num, HM2, hm2, rfl, Lib.hid (HU.out.alloc _)⟩
          · omega
        · have c0 := hB.cell 2 rfl
          clear hB
          rw [hsg] at hadd
          have hadd2 : ∀ w : World, (Op.stringOp .add ({ data := #[114] } : ByteArray) (strOf (signsP n i))).run Tryz.prog w = .ok (.string (strOf (signsP n (i + 1)))) w := hadd
          go_wp2
          go_roundg (9 - (i + 1))
          · exact ⟨i + 1, m / 2, by omega, rfl, by first | rfl | go_num, by first | rfl | go_num, HM2, hm2, rfl, Lib.hid (HU.out.alloc _)⟩
          · omega
      · have t1 : ((m : Int) % 2 == 1) = false := by simp; omega
        have hsg : signP n i = 45 := by
          unfold signP
          rw [← HM.out, if_pos (by omega)]
        rw [hsg] at hadd
        have hadd2 : ∀ w : World, (Op.stringOp .add ({ data := #[45] } : ByteArray) (strOf (signsP n i))).run Tryz.prog w = .ok (.string (strOf (signsP n (i + 1)))) w := hadd
        clear hadd hsg HS h1
        go_wp2
        go_roundg (9 - (i + 1))
        · exact ⟨i + 1, m / 2, by omega, rfl, by first | rfl | go_num, by first | rfl | go_num, HM2, hm2, rfl, HU⟩
        · omega
    · have hcz : ¬ (i : Int) < 9 := by omega
      have h9 : i = 9 := by omega
      subst h9
      go_wp2
      go_ret
      exact ⟨rfl, HU.out⟩
end Go.Proofs.YtigjingielnaoaaGreatDoor

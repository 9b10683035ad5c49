/- Package sum: Made: its walk. -/
import Derived.Test.YtibmhadnfggmlaaDoorSumP
namespace Go.Proofs.YtibmhadnfggmlaaDoor
set_option linter.unusedVariables false
set_option linter.unusedSimpArgs false
set_option linter.unusedSectionVars false
open Go.RowKit
set_option linter.unusedVariables false

def u32v (l : List Nat) : List Value := l.map fun x : Nat => .int .u32 (x : Int)
theorem u32v_one (l : List Nat) : ∀ v ∈ u32v l, v.oneCell' = true := by intro v hv; obtain ⟨x, _, rfl⟩ := List.mem_map.1 hv; rfl
theorem length_u32v (l : List Nat) : (u32v l).length = l.length := by simp [u32v]
theorem u32v_set (l : List Nat) (i x : Nat) : (u32v l).set i (.int .u32 (x : Nat)) = u32v (l.set i x) := by simp [u32v]
theorem u32v_get {l : List Nat} {i x : Nat} (h : l[i]? = some x) : (u32v l)[i]? = some (.int .u32 (x : Int)) := by simp [u32v, h]
def tabL : List Nat := (List.range 256).map (crcN 8)
theorem zeroTab : Tryd.zeroCells138 = (u32v (List.replicate 256 0)).toArray := by kernel_rfl
theorem infoTab : (Tryd.prog.info? 138).map (·.size) = some 256 := by kernel_rfl
theorem tabL_len : tabL.length = 256 := by simp [tabL]
theorem tabL_get {i : Nat} (h : i < 256) : tabL[i]? = some (crcN 8 i) := by simp [tabL, h]

set_option maxRecDepth 100000 in
set_option maxHeartbeats 3200000 in
theorem made_any (w : World) : Calls Tryd.prog 115 #[] w fun e w' => e = .returned (.agg (u32v tabL).toArray) ∧ Upd [] w w' := by
  go_enter Tryd.func115, Tryd.ntmps115
  go_wp2
  have hB0 := Blk.new w (u32v (List.replicate 256 0)) 138
  have hU0 : Upd [] w (w.alloc (.cells (u32v (List.replicate 256 0)).toArray 138)) := (Upd.refl [] w).alloc _
  rw [zeroTab]
  generalize w.alloc (.cells (u32v (List.replicate 256 0)).toArray 138) = w0 at *
  have HW := Lib.hid (Nat.le_refl w.heap.size)
  obtain ⟨b0, hb0⟩ : ∃ b0, w.heap.size = b0 := ⟨_, rfl⟩
  rw [hb0] at hB0 ⊢
  have HB := Lib.hid (show w.heap.size ≤ b0 by omega)
  clear hb0 HW
  go_loopg [3] 256 (fun g s3 wr => ∃ i L, i ≤ 256 ∧ g = 256 - i ∧ s3 = .int .i64 (i : Nat) ∧ Blk wr b0 (u32v L) 138 ∧ L.length = 256 ∧ Hid (∀ j, j < i → L[j]? = some (crcN 8 j)) ∧ Upd [] w wr)
  case atStart => exact ⟨0, List.replicate 256 0, by omega, rfl, rfl, hB0, by simp, Lib.hid (fun j h => by omega), hU0⟩
  case round =>
    obtain ⟨i, L, hi, rfl, rfl, hB, hL, HJ, hU⟩ := hrel
    clear hB0 hU0
    by_cases hc : i < 256
    · have hcz : (i : Int) < 256 := by omega
      have e0 : IntKind.u32.wrap (i : Int) = (i : Int) := wrap_u32_nat i (by omega)
      go_wp2
      go_loopg [2, 8] 8 (fun g s2 s8 wx => ∃ k x, k ≤ 8 ∧ g = 8 - k ∧ s8 = .int .i64 (k : Nat) ∧ s2 = .int .u32 (x : Nat) ∧ x < 4294967296 ∧ Hid (crcN 8 i = crcN (8 - k) x) ∧ wr = wx)
      case atStart => exact ⟨0, i, by omega, rfl, rfl, by first | rfl | (congr 1; omega), by omega, Lib.hid rfl, rfl⟩
      case round =>
        obtain ⟨k, x, hk, rfl, rfl, rfl, hx, HX, rfl⟩ := hrel
        by_cases hc2 : k < 8
        · have hkz : (k : Int) < 8 := by omega
          obtain ⟨p, hp⟩ : ∃ p, p = x % 2 := ⟨_, rfl⟩
          have ha : bits .and .u32 (x : Int) 1 = (p : Int) := by
            have h := and_u32 x 1 hx (by omega)
            rw [Nat.and_one_is_mod, ← hp] at h
            exact h
          have hst : crcN (8 - k) x = crcN (8 - (k + 1)) (crcStep x) := by rw [show 8 - k = (8 - (k + 1)) + 1 by omega]; rfl
          have HST := Lib.hid hst
          have hlt := Lib.hid (crcStep_lt hx)
          have hxx := xor_u32 (x / 2) 3988292384 (by omega) (by omega)
          rw [show ((x / 2 : Nat) : Int) = (x : Int) / 2 by omega] at hxx
          clear hst
          by_cases hp1 : p = 1
          · have t1 : ((p : Int) == 1) = true := by simp; omega
            have t1' : (p == 1) = true := by simp [hp1]
            have HC := Lib.hid (show crcStep x = (x / 2) ^^^ 3988292384 from by unfold crcStep; rw [if_pos (by omega)])
            have HXX := Lib.hid hxx
            clear hp hxx hp1
            go_wp2
            go_roundg (8 - (k + 1))
            · exact ⟨k + 1, crcStep x, by omega, rfl, by first | rfl | go_num, by rw [HC.out, ← HXX.out]; rfl, hlt.out, Lib.hid (by rw [HX.out, HST.out]), rfl⟩
            · omega
          · have t1 : ((p : Int) == 1) = false := by simp; omega
            have t1' : (p == 1) = false := by simp [hp1]
            have HC := Lib.hid (show crcStep x = x / 2 from by unfold crcStep; rw [if_neg (by omega)])
            clear hp hxx hp1
            go_wp2
            go_roundg (8 - (k + 1))
            · exact ⟨k + 1, crcStep x, by omega, rfl, by first | rfl | go_num, by rw [HC.out]; first | rfl | (congr 1; done) | (congr 1; omega), hlt.out, Lib.hid (by rw [HX.out, HST.out]), rfl⟩
            · omega
        · have hkz : ¬ (k : Int) < 8 := by omega
          have hk8 : k = 8 := by omega
          subst hk8
          have HX2 := Lib.hid (show crcN 8 i = x from HX.out)
          have c1 := hB.cell i (v := .int .u32 ((L[i]'(by omega) : Nat) : Int)) (by rw [u32v]; simp [hL, hc])
          have f1 := hB.frz i
          have hi0 : (0 : Int) ≤ (i : Int) := by omega
          generalize L[i]'(by omega) = old at *
          go_wp2
          go_roundg (256 - (i + 1))
          · refine ⟨i + 1, L.set i x, by omega, rfl, by first | rfl | go_num, by rw [← u32v_set]; exact hB.set i _, by simpa using hL, Lib.hid ?_, hU.setCell (.inr (by exact HB.out)) _⟩
            intro j hj
            by_cases hji : j = i
            · subst hji; rw [List.getElem?_set_self (by omega), HX2.out]
            · rw [List.getElem?_set_ne (by omega)]; exact HJ.out j (by omega)
          · omega
    · have hcz : ¬ (i : Int) < 256 := by omega
      have h8 : i = 256 := by omega
      subst h8
      have hLT : L = tabL := List.ext_getElem? (fun j => by
        by_cases hj : j < 256
        · rw [HJ.out j hj, tabL_get hj]
        · rw [List.getElem?_eq_none (by omega), List.getElem?_eq_none (by rw [tabL_len]; omega)])
      subst hLT
      have HLL := Lib.hid (length_u32v tabL)
      have HTL := Lib.hid tabL_len
      clear HJ hL
      generalize hTL : tabL = L at *
      have HTT := Lib.hid hTL
      clear hTL
      go_wp2_with (first
        | (refine wpList_loadBlk rfl 138 _ rfl b0 rfl 138 (u32v L) hB _ Tryd.underlying138 rfl (by rw [HLL.out, HTL.out]; exact infoTab) ?_)
        | (refine wpList_storeBlk rfl 138 _ _ rfl b0 rfl (u32v L) rfl 138 _ hB (by rw [HLL.out, HTL.out]; exact infoTab) rfl (u32v_one _) ?_; intro w2 hB2 hU2))
      refine bodyPost_ret (results_cell_row rfl _ _ b0 138 _ (0, 0) _ (by simp) hB2 Tryd.underlying138 rfl (by rw [infoTab]; simp [HLL.out, HTL.out])) (by simp) ⟨by rw [HTT.out], ?_⟩
      exact hU.trans hU2 (fun k hk => .inr (by have := HB.out; simp at hk; omega))
end Go.Proofs.YtibmhadnfggmlaaDoor

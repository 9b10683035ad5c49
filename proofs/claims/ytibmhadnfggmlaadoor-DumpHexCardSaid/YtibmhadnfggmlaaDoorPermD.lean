/- Package node: Perm: its walk. -/
import Derived.Test.YtibmhadnfggmlaaDoorNMd
import Derived.Lib.SlBytesConst
namespace Go.Proofs.YtibmhadnfggmlaaDoor
set_option linter.unusedVariables false
set_option linter.unusedSimpArgs false
set_option linter.unusedSectionVars false
open Go.RowKit
set_option linter.unusedVariables false

def permBase : List Nat := [114, 119, 120, 114, 119, 120, 114, 119, 120]
def permTo (m : Nat) : Nat → List Nat
  | 0 => permBase
  | i + 1 => if m / 2 ^ (8 - i) % 2 = 0 then (permTo m i).set i 45 else permTo m i
theorem permTo_len (m : Nat) : ∀ i, (permTo m i).length = 9
  | 0 => rfl
  | i + 1 => by
    unfold permTo
    split
    · rw [List.length_set]; exact permTo_len m i
    · exact permTo_len m i
theorem u8s_set' (l : List Nat) (i x : Nat) : (u8s l).set i (.int .u8 (x : Nat)) = u8s (l.set i x) := by simp [u8s]
/-- A block that a conversion from a constant has marked behind its end. -/
def BlkF (w : World) (b : Nat) (cs : List Value) (t : TypeId) (f : Nat) : Prop := w.heap[b]? = some (.cells cs.toArray t (f, f + 1))
theorem BlkF.cell {w : World} {b f : Nat} {cs : List Value} {t : TypeId} (h : BlkF w b cs t f) (i : Nat) {v : Value} (hi : cs[i]? = some v) : w.cell? ⟨b, i, none⟩ = some v := by
  unfold BlkF at h
  simp [World.cell?, h, hi]
theorem BlkF.frz {w : World} {b f : Nat} {cs : List Value} {t : TypeId} (h : BlkF w b cs t f) (i : Nat) (hi : i < f) : w.frozen? ⟨b, i, none⟩ = false := by
  unfold BlkF at h
  simp [World.frozen?, h]
  omega
theorem BlkF.set {w : World} {b f : Nat} {cs : List Value} {t : TypeId} (h : BlkF w b cs t f) (i : Nat) (v : Value) : BlkF (w.setCell ⟨b, i, none⟩ v) b (cs.set i v) t f := by
  unfold BlkF at h ⊢
  simp [World.setCell, Array.getElem?_modify, h]
theorem BlkF.new (w : World) (cs : List Value) (t : TypeId) (f : Nat) : BlkF (w.alloc (.cells cs.toArray t (f, f + 1))) w.heap.size cs t f := heap_alloc_new w _
theorem BlkF.conv {P : Program} {w : World} {b n c f : Nat} {l : List Nat} {src dst e : TypeId} (h : BlkF w b (u8s l) e f) (hl : l.length = n) (hs : P.underlying src = some (.slice e)) (he : P.underlying e = some (.int .u8)) (hd : P.underlying dst = some .string) :
    (convert src dst (.slice (some ⟨b, 0, none⟩) n c)).run P w = .ok (.string (strOf l)) w := by
  have hr := run_convert_bytes_arg w src e hs he b 0 n c (l.map fun x : Nat => (x : Int)) (by simpa using hl) (fun i hi => by
    have hil : i < l.length := by omega
    rw [Nat.zero_add]
    refine h.cell i ?_
    simp [u8s, hil]) dst hd
  rw [hr]
  congr 2
  simp only [strOfNums, strOf, List.map_map]
  congr 2
theorem and_i64 (a b : Nat) (ha : a < 9223372036854775808) (hb : b < 9223372036854775808) : bits .and .i64 (a : Int) (b : Int) = ((a &&& b : Nat) : Int) := by
  show IntKind.i64.wrap ((BitVec.ofInt 64 (a : Int) &&& BitVec.ofInt 64 (b : Int)).toNat : Int) = _
  rw [BitVec.toNat_and, ofInt_nat 64 a (by omega), ofInt_nat 64 b (by omega)]
  exact IntWalk.i64_in _ (by have := Nat.and_le_right (n := a) (m := b); omega)

set_option maxRecDepth 100000 in
set_option maxHeartbeats 1600000 in
theorem perm_any (m : Nat) (w : World) (hm : m < 512) : Calls Tryd.prog 24 #[.int .i64 (m : Nat)] w fun e w' => e = .returned (.string (strOf (permTo m 9))) ∧ Upd [] w w' := by
  have HM := Lib.hid (mode_any (m : Nat))
  have hmd : (decide (0 ≤ (m : Int)) && decide ((m : Int) ≤ 511)) = true := by simp; omega
  rw [hmd] at HM
  clear hmd
  have kc := fun (w : World) (C : Array Value) (n c : Nat) => Lib.run_convert_bytes_const (P := Tryd.prog) w 28 5 C n c Tryd.underlying28 Tryd.underlying5
  go_enter Tryd.func24, Tryd.ntmps24
  go_wp2_with fail
  refine (HM.out w).mono ?_
  rintro e w1 ⟨rfl, rfl⟩
  go_wp2
  have hB0 := BlkF.new w (u8s permBase) 5 9
  have hU0 : Upd [] w (w.alloc (.cells (u8s permBase).toArray 5 (9, 10))) := (Upd.refl [] w).alloc _
  change Code.wp _ _ _ _ (w.alloc (.cells (u8s permBase).toArray 5 (9, 10)))
  generalize w.alloc (.cells (u8s permBase).toArray 5 (9, 10)) = w0 at *
  obtain ⟨b0, hb0⟩ : ∃ b0, w.heap.size = b0 := ⟨_, rfl⟩
  rw [hb0] at hB0 ⊢
  have HB := Lib.hid (show w.heap.size ≤ b0 by omega)
  clear hb0 kc
  go_loopg [12] 9 (fun g s12 wr => ∃ i, i ≤ 9 ∧ g = 9 - i ∧ s12 = .int .i64 (i : Nat) ∧ BlkF wr b0 (u8s (permTo m i)) 5 9 ∧ Upd [] w wr)
  case atStart => exact ⟨0, by omega, rfl, rfl, hB0, hU0⟩
  case round =>
    obtain ⟨i, hi, rfl, rfl, hB, hU⟩ := hrel
    clear hB0 hU0
    by_cases hc9 : i < 9
    · have hcz : (i : Int) < 9 := by omega
      have hi0 : (0 : Int) ≤ (i : Int) := by omega
      have hz : (0 : Int) ≤ 8 - (i : Int) := by omega
      obtain ⟨p, hp⟩ : ∃ p, p = m / 2 ^ (8 - i) % 2 := ⟨_, rfl⟩
      have hq : m / 2 ^ (8 - i) < 512 := Nat.lt_of_le_of_lt (Nat.div_le_self _ _) hm
      have hand : bits .and .i64 ((m : Int) / 2 ^ (8 - i)) 1 = (p : Int) := by
        have h := and_i64 (m / 2 ^ (8 - i)) 1 (by omega) (by omega)
        rw [Nat.and_one_is_mod, ← hp] at h
        have e : ((m / 2 ^ (8 - i) : Nat) : Int) = (m : Int) / 2 ^ (8 - i) := by simp
        rw [e] at h
        exact h
      have hst : permTo m (i + 1) = if p = 0 then (permTo m i).set i 45 else permTo m i := by rw [hp]; rfl
      have HST := Lib.hid hst
      have hlen := permTo_len m i
      clear hst hp hq
      generalize permTo m i = L at *
      have c1 := hB.cell i (v := .int .u8 ((L[i]'(by omega) : Nat) : Int)) (by rw [u8s]; simp [hlen, hc9])
      have f1 := hB.frz i hc9
      generalize L[i]'(by omega) = old at *
      have HLN := Lib.hid hlen
      clear hlen
      by_cases hp0 : p = 0
      · have t1 : ((p : Int) == 0) = true := by simp; omega
        have t1' : (p == 0) = true := by simp [hp0]
        have HS2 := Lib.hid (show permTo m (i + 1) = L.set i 45 from by rw [HST.out, if_pos hp0])
        clear hp0
        go_wp2
        go_roundg (9 - (i + 1))
        · exact ⟨i + 1, by omega, rfl, by first | rfl | go_num, by rw [HS2.out, ← u8s_set']; exact hB.set i _, hU.setCell (.inr HB.out) _⟩
        · omega
      · have t1 : ((p : Int) == 0) = false := by simp; omega
        have t1' : (p == 0) = false := by simp [hp0]
        have HS2 := Lib.hid (show permTo m (i + 1) = L from by rw [HST.out, if_neg hp0])
        clear hp0
        go_wp2
        go_roundg (9 - (i + 1))
        · exact ⟨i + 1, by omega, rfl, by first | rfl | go_num, by rw [HS2.out]; exact hB, hU⟩
        · omega
    · have hcz : ¬ (i : Int) < 9 := by omega
      have h9 : i = 9 := by omega
      subst h9
      have hcv2 := hB.conv (P := Tryd.prog) (c := 9) (permTo_len m 9) Tryd.underlying28 Tryd.underlying5 Tryd.underlying9
      have hln := Lib.hid (permTo_len m 9)
      go_wp2
      go_returns
      exact ⟨rfl, hU⟩
end Go.Proofs.YtibmhadnfggmlaaDoor

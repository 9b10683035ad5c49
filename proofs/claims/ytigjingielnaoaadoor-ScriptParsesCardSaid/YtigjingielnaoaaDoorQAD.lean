/- Package node: Perm: its walk. -/
import Derived.Lib.SlBytesConst
import Derived.Test.YtigjingielnaoaaDoorQAC
import Derived.Test.YtigjingielnaoaaDoorQAA
import Derived.Deep.OwnRows
import Derived.WalkKit
import Derived.Handy
import Derived.Outline
import Derived.BigQuiet
import Derived.Deep.CutBlock
import Derived.Deep.DeepCutAuto
import Derived.Deep.DeepFit
import Derived.Deep.Light
import Derived.Deep.LoopGhost
import Derived.Deep.QuietTactic
import Derived.Deep.RegionHeld3
import Derived.Deep.RegionLaw
import Derived.IntWalk
import Derived.Laws.BitsAllLaws
import Derived.Lib.MinMax
import Derived.StillTailTactics
import Derived.WalkSpells
import Derived.Lib.Hide
import Derived.Laws.Rows
import Derived.OwnWalk
namespace Go.Proofs.YtigjingielnaoaaDoor
set_option linter.unusedVariables false
set_option linter.unusedSimpArgs false
set_option linter.unusedSectionVars false
open Go.RowKit
set_option linter.unusedVariables false

def permBase : List Nat := [114, 119, 120, 114, 119, 120, 114, 119, 120]
def permTo (m : Nat) : Nat → List Nat
  | 0 => permBase
  | i + 1 => if m / 2 ^ (8 - i) % 2 = 0 then (permTo m i).set i 45 else permTo m i
theorem permTo_len (m : Nat) : ∀ i, (permTo m i).length = 9
  | 0 => rfl
  | i + 1 => by
    unfold permTo
    split
    · rw [List.length_set]; exact permTo_len m i
    · exact permTo_len m i
theorem u8s_set' (l : List Nat) (i x : Nat) : (u8s l).set i (.int .u8 (x : Nat)) = u8s (l.set i x) := by simp [u8s]
/-- A block that a conversion from a constant has marked behind its end. -/
def BlkF (w : World) (b : Nat) (cs : List Value) (t : TypeId) (f : Nat) : Prop := w.heap[b]? = some (.cells cs.toArray t (f, f + 1))
theorem BlkF.cell {w : World} {b f : Nat} {cs : List Value} {t : TypeId} (h : BlkF w b cs t f) (i : Nat) {v : Value} (hi : cs[i]? = some v) : w.cell? ⟨b, i, none⟩ = some v := by
  unfold BlkF at h
  simp [World.cell?, h, hi]
theorem BlkF.frz {w : World} {b f : Nat} {cs : List Value} {t : TypeId} (h : BlkF w b cs t f) (i : Nat) (hi : i < f) : w.frozen? ⟨b, i, none⟩ = false := by
  unfold BlkF at h
  simp [World.frozen?, h]
  omega
theorem BlkF.set {w : World} {b f : Nat} {cs : List Value} {t : TypeId} (h : BlkF w b cs t f) (i : Nat) (v : Value) : BlkF (w.setCell ⟨b, i, none⟩ v) b (cs.set i v) t f := by
  unfold BlkF at h ⊢
  simp [World.setCell, Array.getElem?_modify, h]
theorem BlkF.new (w : World) (cs : List Value) (t : TypeId) (f : Nat) : BlkF (w.alloc (.cells cs.toArray t (f, f + 1))) w.heap.size cs t f := heap_alloc_new w _
theorem BlkF.conv {P : Program} {w : World} {b n c f : Nat} {l : List Nat} {src dst e : TypeId} (h : BlkF w b (u8s l) e f) (hl : l.length = n) (hs : P.underlying src = some (.slice e)) (he : P.underlying e = some (.int .u8)) (hd : P.underlying dst = some .string) :
    (convert src dst (.slice (some ⟨b, 0, none⟩) n c)).run P w = .ok (.string (strOf l)) w := by
  have hr := run_convert_bytes_arg w src e hs he b 0 n c (l.map fun x : Nat => (x : Int)) (by simpa using hl) (fun i hi => by
    have hil : i < l.length := by omega
    rw [Nat.zero_add]
    refine h.cell i ?_
    simp [u8s, hil]) dst hd
  rw [hr]
  congr 2
  simp only [strOfNums, strOf, List.map_map]
  congr 2
theorem and_i64 (a b : Nat) (ha : a < 9223372036854775808) (hb : b < 9223372036854775808) : bits .and .i64 (a : Int) (b : Int) = ((a &&& b : Nat) : Int) := by
  show IntKind.i64.wrap ((BitVec.ofInt 64 (a : Int) &&& BitVec.ofInt 64 (b : Int)).toNat : Int) = _
  rw [BitVec.toNat_and, ofInt_nat 64 a (by omega), ofInt_nat 64 b (by omega)]
  exact IntWalk.i64_in _ (by have := Nat.and_le_right (n := a) (m := b); omega)

set_option maxRecDepth 100000 in
set_option maxHeartbeats 1600000 in
theorem perm_any (m : Nat) (w : World) (hm : m < 512) : Calls Tryd.prog 35 #[.int .i64 (m : Nat)] w fun e w' => e = .returned (.string (strOf (permTo m 9))) ∧ Upd [] w w' := by
  have HM := Lib.hid (mode_any (m : Nat))
  have hmd : (decide (0 ≤ (m : Int)) && decide ((m : Int) ≤ 511)) = true := by simp; omega
  rw [hmd] at HM
  clear hmd
  have kc := fun (w : World) (C : Array Value) (n c : Nat) => Lib.run_convert_bytes_const (P := Tryd.prog) w 85 5 C n c Tryd.underlying85 Tryd.underlying5
  go_enter Tryd.func35, Tryd.ntmps35
  go_wp2_with fail
  refine (HM.out w).mono ?_
  rintro e w1 ⟨rfl, rfl⟩
  go_wp2
  have hB0 := BlkF.new w (u8s permBase) 5 9
  have hU0 : Upd [] w (w.alloc (.cells (u8s permBase).toArray 5 (9, 10))) := (Upd.refl [] w).alloc _
  change Code.wp _ _ _ _ (w.alloc (.cells (u8s permBase).toArray 5 (9, 10)))
  generalize w.alloc (.cells (u8s permBase).toArray 5 (9, 10)) = w0 at *
  obtain ⟨b0, hb0⟩ : ∃ b0, w.heap.size = b0 := ⟨_, rfl⟩
  rw [hb0] at hB0 ⊢
  have HB := Lib.hid (show w.heap.size ≤ b0 by omega)
  clear hb0 kc
  go_loopg [12] 9 (fun g s12 wr => ∃ i, i ≤ 9 ∧ g = 9 - i ∧ s12 = .int .i64 (i : Nat) ∧ BlkF wr b0 (u8s (permTo m i)) 5 9 ∧ Upd [] w wr)
  case atStart => exact ⟨0, by omega, rfl, rfl, hB0, hU0⟩
  case round =>
    obtain ⟨i, hi, rfl, rfl, hB, hU⟩ := hrel
    clear hB0 hU0
    by_cases hc9 : i < 9
    · have hcz : (i : Int) < 9 := by omega
      have hi0 : (0 : Int) ≤ (i : Int) := by omega
      have hz : (0 : Int) ≤ 8 - (i : Int) := by omega
      obtain ⟨p, hp⟩ : ∃ p, p = m / 2 ^ (8 - i) % 2 := ⟨_, rfl⟩
      have hq : m / 2 ^ (8 - i) < 512 := Nat.lt_of_le_of_lt (Nat.div_le_self _ _) hm
      have hand : bits .and .i64 ((m : Int) / 2 ^ (8 - i)) 1 = (p : Int) := by
        have h := and_i64 (m / 2 ^ (8 - i)) 1 (by omega) (by omega)
        rw [Nat.and_one_is_mod, ← hp] at h
        have e : ((m / 2 ^ (8 - i) : Nat) : Int) = (m : Int) / 2 ^ (8 - i) := by simp
        rw [e] at h
        exact h
      have hst : permTo m (i + 1) = if p = 0 then (permTo m i).set i 45 else permTo m i := by rw [hp]; rfl
      have HST := Lib.hid hst
      have hlen := permTo_len m i
      clear hst hp hq
      generalize permTo m i = L at *
      have c1 := hB.cell i (v := .int .u8 ((L[i]'(by omega) : Nat) : Int)) (by rw [u8s]; simp [hlen, hc9])
      have f1 := hB.frz i hc9
      generalize L[i]'(by omega) = old at *
      have HLN := Lib.hid hlen
      clear hlen
      by_cases hp0 : p = 0
      · have t1 : ((p : Int) == 0) = true := by simp; omega
        have t1' : (p == 0) = true := by simp [hp0]
        have HS2 := Lib.hid (show permTo m (i + 1) = L.set i 45 from by rw [HST.out, if_pos hp0])
        clear hp0
        go_wp2
        go_roundg (9 - (i + 1))
        · exact ⟨i + 1, by omega, rfl, by first | rfl | go_num, by rw [HS2.out, ← u8s_set']; exact hB.set i _, hU.setCell (.inr HB.out) _⟩
        · omega
      · have t1 : ((p : Int) == 0) = false := by simp; omega
        have t1' : (p == 0) = false := by simp [hp0]
        have HS2 := Lib.hid (show permTo m (i + 1) = L from by rw [HST.out, if_neg hp0])
        clear hp0
        go_wp2
        go_roundg (9 - (i + 1))
        · exact ⟨i + 1, by omega, rfl, by first | rfl | go_num, by rw [HS2.out]; exact hB, hU⟩
        · omega
    · have hcz : ¬ (i : Int) < 9 := by omega
      have h9 : i = 9 := by omega
      subst h9
      have hcv2 := hB.conv (P := Tryd.prog) (c := 9) (permTo_len m 9) Tryd.underlying85 Tryd.underlying5 Tryd.underlying9
      have hln := Lib.hid (permTo_len m 9)
      go_wp2
      go_returns
      exact ⟨rfl, hU⟩
end Go.Proofs.YtigjingielnaoaaDoor
namespace Go.Proofs.YtigjingielnaoaaDoor
set_option linter.unusedVariables false
set_option linter.unusedSimpArgs false
set_option linter.unusedSectionVars false
open Go.RowKit

/-- A reader: its text, where it is, whether it went wrong. -/
structure RS where
  s : ByteArray
  p : Nat
  bad : Bool
def RS.cells (r : RS) : List Value := [.string r.s, .int .i64 (r.p : Nat), .bool r.bad]
def RS.l (r : RS) : List Nat := bytesOf r.s
def RS.text (r : RS) (n : Nat) : List Nat × RS :=
  if r.bad = true then ([], r) else if r.s.size - r.p < n then ([], ⟨r.s, r.p, true⟩) else ((r.l.drop r.p).take n, ⟨r.s, r.p + n, false⟩)
theorem RS.text_lt (r : RS) (n : Nat) : ∀ x ∈ (r.text n).1, x < 256 := by
  unfold RS.text
  repeat' split
  all_goals first
    | (intro x hx; simp at hx; done)
    | exact fun x hx => bytesOf_lt r.s x (List.mem_of_mem_drop (List.mem_of_mem_take hx))
end Go.Proofs.YtigjingielnaoaaDoor
namespace Go.Proofs.YtigjingielnaoaaDoor
set_option linter.unusedVariables false
set_option linter.unusedSimpArgs false
set_option linter.unusedSectionVars false
open Go.RowKit
set_option linter.unusedVariables false

theorem infoByte : (Tryd.prog.info? 5).map (fun i => (i.zero, i.size, i.bytes)) = some (some (.int .u8 0), 1, 1) := by kernel_rfl
theorem Blk.conv {P : Program} {w : World} {b n c : Nat} {l : List Nat} {src dst e : TypeId} (h : Blk w b (u8s l) e) (hl : l.length = n) (hs : P.underlying src = some (.slice e)) (he : P.underlying e = some (.int .u8)) (hd : P.underlying dst = some .string) :
    (convert src dst (.slice (some ⟨b, 0, none⟩) n c)).run P w = .ok (.string (strOf l)) w := by
  have hr := run_convert_bytes_arg w src e hs he b 0 n c (l.map fun x : Nat => (x : Int)) (by simpa using hl) (fun i hi => by
    have hil : i < l.length := by omega
    rw [Nat.zero_add]
    refine h.cell i ?_
    simp [u8s, hil]) dst hd
  rw [hr]
  congr 2
  simp only [strOfNums, strOf, List.map_map]
  congr 2
theorem u8s_set2 (l : List Nat) (i x : Nat) : (u8s l).set i (.int .u8 (x : Nat)) = u8s (l.set i x) := by simp [u8s]
end Go.Proofs.YtigjingielnaoaaDoor
namespace Go.Proofs.YtigjingielnaoaaDoor
set_option linter.unusedVariables false
set_option linter.unusedSimpArgs false
set_option linter.unusedSectionVars false
open Go.RowKit
set_option linter.unusedVariables false
set_option linter.unusedSimpArgs false

/-- So many decimal digits. -/
def digP (n : Nat) : Nat → List Nat
  | 0 => []
  | k + 1 => digP (n / 10) k ++ [48 + n % 10]
theorem digP_len : ∀ (k n : Nat), (digP n k).length = k
  | 0, _ => rfl
  | k + 1, n => by rw [digP, List.length_append, digP_len k]; rfl
theorem digP_lt : ∀ (k n : Nat), ∀ x ∈ digP n k, x < 256
  | 0, _, x, h => by cases h
  | k + 1, n, x, h => by
    rw [digP] at h
    rcases List.mem_append.1 h with h | h
    · exact digP_lt k _ x h
    · simp at h; omega
/-- What stands in the buffer behind i rounds: zeros, then the last i digits. -/
def digB (n k i : Nat) : List Nat := List.replicate (k - i) 0 ++ digP n i
theorem digB_step (n k i : Nat) (h : i < k) : (digB n k i).set (k - 1 - i) (48 + n / 10 ^ i % 10) = digB n k (i + 1) := by
  have e : ∀ (i n : Nat), digP n (i + 1) = (48 + n / 10 ^ i % 10) :: digP n i := by
    intro i
    induction i with
    | zero => intro n; simp [digP]
    | succ i ih =>
      intro n
      rw [digP, ih (n / 10), digP, Nat.div_div_eq_div_mul, Nat.pow_succ']
      rfl
  unfold digB
  rw [e, show k - i = (k - (i + 1)) + 1 by omega, List.replicate_succ', List.append_assoc, List.set_append_right _ _ (by simp; omega)]
  simp
  rw [show k - 1 - i - (k - (i + 1)) = 0 by omega]
  rfl
theorem digB_len (n k i : Nat) (h : i ≤ k) : (digB n k i).length = k := by unfold digB; rw [List.length_append, digP_len, List.length_replicate]; omega
set_option maxRecDepth 100000 in
set_option maxHeartbeats 1600000 in
theorem digits_any (n k : Nat) (w : World) (hn : n < 1000000) (hk : k ≤ 20) : Calls Tryd.prog 67 #[.int .i64 (n : Nat), .int .i64 (k : Nat)] w fun e w' => e = .returned (.string (strOf (digP n k))) ∧ Upd [] w w' := by
  have hmk := fun w => run_make_row' (P := Tryd.prog) 85 5 (.int .u8 0) 1 Tryd.underlying85 infoByte rfl .i64 .i64 k (by omega) (by omega) (w := w)
  go_enter Tryd.func67, Tryd.ntmps67
  go_wp2
  have hB0 : Blk (w.alloc (.cells (madeCells #[.int .u8 0] k) 5)) w.heap.size (u8s (digB n k 0)) 5 := by
    have := heap_alloc_new w (.cells (madeCells #[.int .u8 0] k) 5)
    unfold Blk
    rw [this]
    congr 2
    apply Array.ext
    · simp [madeCells, u8s, digB, digP]
    · intro j h1 h2
      simp [madeCells, u8s, digB, digP, Nat.mod_one]
  have hU0 : Upd [] w (w.alloc (.cells (madeCells #[.int .u8 0] k) 5)) := (Upd.refl [] w).alloc _
  generalize w.alloc (.cells (madeCells #[.int .u8 0] k) 5) = w0 at *
  obtain ⟨b0, hb0⟩ : ∃ b0, w.heap.size = b0 := ⟨_, rfl⟩
  rw [hb0] at hB0 ⊢
  have HB := Lib.hid (show w.heap.size ≤ b0 by omega)
  have HB0 := Lib.hid hB0
  have HU0 := Lib.hid hU0
  clear hb0 hmk hB0 hU0
  go_loopg [0, 11] k (fun g s0 s11 wr => ∃ i, i ≤ k ∧ g = k - i ∧ s11 = .int .i64 (i : Nat) ∧ ∃ m : Nat, s0 = .int .i64 (m : Nat) ∧ Hid (m = n / 10 ^ i) ∧ m ≤ n ∧ Hid (Blk wr b0 (u8s (digB n k i)) 5) ∧ Hid (Upd [] w wr))
  case atStart => exact ⟨0, by omega, rfl, rfl, n, rfl, Lib.hid (by simp), Nat.le_refl _, HB0, HU0⟩
  case round =>
    obtain ⟨i, hi, rfl, rfl, m, rfl, HM, hmn, hB, hU⟩ := hrel
    clear HB0 HU0
    by_cases hc9 : i < k
    · have hcz : (i : Int) < (k : Int) := by omega
      have HST := Lib.hid (digB_step n k i hc9)
      rw [← HM.out] at HST
      have hln := digB_len n k i hi
      have hix : k - 1 - i < k := by omega
      have hcast : (k : Int) - 1 - (i : Int) = ((k - 1 - i : Nat) : Int) := by omega
      have hj0 : (0 : Int) ≤ (k : Int) - 1 - (i : Int) := by omega
      have hj1 : (k : Int) - 1 - (i : Int) < (k : Int) := by omega
      have hjn : ((k : Int) - 1 - (i : Int)).toNat = k - 1 - i := by omega
      obtain ⟨u, hu⟩ : ∃ u, (u8s (digB n k i))[k - 1 - i]? = some u := ⟨_, List.getElem?_eq_getElem (by rw [u8s, List.length_map, hln]; exact hix)⟩
      have c1 := hB.out.cell (k - 1 - i) hu
      clear hu
      have f1 := hB.out.frz (k - 1 - i)
      have HM2 : Hid (m / 10 = n / 10 ^ (i + 1)) := Lib.hid (by rw [HM.out, Nat.div_div_eq_div_mul, Nat.pow_succ])
      have hm10 : m / 10 ≤ n := by omega
      clear hln hcast
      go_wp2
      go_roundg (k - (i + 1))
      · exact ⟨i + 1, by omega, rfl, by first | rfl | go_num, m / 10, by first | rfl | go_num, HM2, hm10, Lib.hid (by rw [← HST.out, ← u8s_set2]; exact hB.out.set _ _), Lib.hid (hU.out.setCell (.inr HB.out) _)⟩
      · omega
    · have hcz : ¬ (i : Int) < (k : Int) := by omega
      have h9 : i = k := by omega
      subst h9
      have hB2 := hB.out
      unfold digB at hB2
      rw [Nat.sub_self, List.replicate_zero, List.nil_append] at hB2
      have hcv2 := hB2.conv (P := Tryd.prog) (c := i) (digP_len i n) Tryd.underlying85 Tryd.underlying5 Tryd.underlying9
      clear hB2
      go_wp2
      go_ret
      exact ⟨rfl, hU.out⟩
end Go.Proofs.YtigjingielnaoaaDoor

/- Package field: plain: numbers as bytes, a reader. -/
import Derived.Test.YtigjingielnaoaaGreatDoorQAA
import Derived.Deep.OwnRows
import Derived.WalkKit
import Derived.Handy
import Derived.Outline
import Derived.BigQuiet
import Derived.Deep.CutBlock
import Derived.Deep.DeepCutAuto
import Derived.Deep.DeepFit
import Derived.Deep.Light
import Derived.Deep.LoopGhost
import Derived.Deep.QuietTactic
import Derived.Deep.RegionHeld3
import Derived.Deep.RegionLaw
import Derived.IntWalk
import Derived.Laws.BitsAllLaws
import Derived.Lib.MinMax
import Derived.StillTailTactics
import Derived.WalkSpells
import Derived.Lib.Hide
import Derived.Laws.Rows
import Derived.OwnWalk
import Derived.Test.YtigjingielnaoaaGreatDoorQAD
namespace Go.Proofs.YtigjingielnaoaaGreatDoor
set_option linter.unusedVariables false
set_option linter.unusedSimpArgs false
set_option linter.unusedSectionVars false
open Go.RowKit

/-- A reader: its text, where it is, whether it went wrong. -/
structure RS where
  s : ByteArray
  p : Nat
  bad : Bool
def RS.cells (r : RS) : List Value := [.string r.s, .int .i64 (r.p : Nat), .bool r.bad]
def RS.l (r : RS) : List Nat := bytesOf r.s
def RS.text (r : RS) (n : Nat) : List Nat × RS :=
  if r.bad = true then ([], r) else if r.s.size - r.p < n then ([], ⟨r.s, r.p, true⟩) else ((r.l.drop r.p).take n, ⟨r.s, r.p + n, false⟩)
theorem RS.text_lt (r : RS) (n : Nat) : ∀ x ∈ (r.text n).1, x < 256 := by
  unfold RS.text
  repeat' split
  all_goals first
    | (intro x hx; simp at hx; done)
    | exact fun x hx => bytesOf_lt r.s x (List.mem_of_mem_drop (List.mem_of_mem_take hx))
theorem RS.text_len (r : RS) (n : Nat) : (r.text n).1.length ≤ n := by
  unfold RS.text
  repeat' split
  all_goals (simp; try omega)
end Go.Proofs.YtigjingielnaoaaGreatDoor
namespace Go.Proofs.YtigjingielnaoaaGreatDoor
set_option linter.unusedVariables false
set_option linter.unusedSimpArgs false
set_option linter.unusedSectionVars false
open Go.RowKit
set_option linter.unusedVariables false

theorem infoByte : (Tryz.prog.info? 5).map (fun i => (i.zero, i.size, i.bytes)) = some (some (.int .u8 0), 1, 1) := by kernel_rfl
theorem Blk.conv {P : Program} {w : World} {b n c : Nat} {l : List Nat} {src dst e : TypeId} (h : Blk w b (u8s l) e) (hl : l.length = n) (hs : P.underlying src = some (.slice e)) (he : P.underlying e = some (.int .u8)) (hd : P.underlying dst = some .string) :
    (convert src dst (.slice (some ⟨b, 0, none⟩) n c)).run P w = .ok (.string (strOf l)) w := by
  have hr := run_convert_bytes_arg w src e hs he b 0 n c (l.map fun x : Nat => (x : Int)) (by simpa using hl) (fun i hi => by
    have hil : i < l.length := by omega
    rw [Nat.zero_add]
    refine h.cell i ?_
    simp [u8s, hil]) dst hd
  rw [hr]
  congr 2
  simp only [strOfNums, strOf, List.map_map]
  congr 2
theorem u8s_set2 (l : List Nat) (i x : Nat) : (u8s l).set i (.int .u8 (x : Nat)) = u8s (l.set i x) := by simp [u8s]
end Go.Proofs.YtigjingielnaoaaGreatDoor
namespace Go.Proofs.YtigjingielnaoaaGreatDoor
set_option linter.unusedVariables false
set_option linter.unusedSimpArgs false
set_option linter.unusedSectionVars false
open Go.RowKit
set_option linter.unusedVariables false
set_option linter.unusedSimpArgs false

/-- So many decimal digits. -/
def digP (n : Nat) : Nat → List Nat
  | 0 => []
  | k + 1 => digP (n / 10) k ++ [48 + n % 10]
theorem digP_len : ∀ (k n : Nat), (digP n k).length = k
  | 0, _ => rfl
  | k + 1, n => by rw [digP, List.length_append, digP_len k]; rfl
theorem digP_lt : ∀ (k n : Nat), ∀ x ∈ digP n k, x < 256
  | 0, _, x, h => by cases h
  | k + 1, n, x, h => by
    rw [digP] at h
    rcases List.mem_append.1 h with h | h
    · exact digP_lt k _ x h
    · simp at h; omega
theorem digP_dig : ∀ (k n : Nat), ∀ x ∈ digP n k, 48 ≤ x ∧ x ≤ 57
  | 0, _, x, h => by cases h
  | k + 1, n, x, h => by
    rw [digP] at h
    rcases List.mem_append.1 h with h | h
    · exact digP_dig k _ x h
    · simp at h; omega
/-- What stands in the buffer behind i rounds: zeros, then the last i digits. -/
def digB (n k i : Nat) : List Nat := List.replicate (k - i) 0 ++ digP n i
theorem digB_step (n k i : Nat) (h : i < k) : (digB n k i).set (k - 1 - i) (48 + n / 10 ^ i % 10) = digB n k (i + 1) := by
  have e : ∀ (i n : Nat), digP n (i + 1) = (48 + n / 10 ^ i % 10) :: digP n i := by
    intro i
    induction i with
    | zero => intro n; simp [digP]
    | succ i ih =>
      intro n
      rw [digP, ih (n / 10), digP, Nat.div_div_eq_div_mul, Nat.pow_succ']
      rfl
  unfold digB
  rw [e, show k - i = (k - (i + 1)) + 1 by omega, List.replicate_succ', List.append_assoc, List.set_append_right _ _ (by simp; omega)]
  simp
  rw [show k - 1 - i - (k - (i + 1)) = 0 by omega]
  rfl
theorem digB_len (n k i : Nat) (h : i ≤ k) : (digB n k i).length = k := by unfold digB; rw [List.length_append, digP_len, List.length_replicate]; omega
set_option maxRecDepth 100000 in
set_option maxHeartbeats 1600000 in
theorem digits_any (n k : Nat) (w : World) (hn : n < 1000000) (hk : k ≤ 20) : Calls Tryz.prog 111 #[.int .i64 (n : Nat), .int .i64 (k : Nat)] w fun e w' => e = .returned (.string (strOf (digP n k))) ∧ Upd [] w w' := by
  have hmk := fun w => run_make_row' (P := Tryz.prog) 87 5 (.int .u8 0) 1 Tryz.underlying87 infoByte rfl .i64 .i64 k (by omega) (by omega) (w := w)
  go_enter Tryz.func111, Tryz.ntmps111
  go_wp2
  have hB0 : Blk (w.alloc (.cells (madeCells #[.int .u8 0] k) 5)) w.heap.size (u8s (digB n k 0)) 5 := by
    have := heap_alloc_new w (.cells (madeCells #[.int .u8 0] k) 5)
    unfold Blk
    rw [this]
    congr 2
    apply Array.ext
    · simp [madeCells, u8s, digB, digP]
    · intro j h1 h2
      simp [madeCells, u8s, digB, digP, Nat.mod_one]
  have hU0 : Upd [] w (w.alloc (.cells (madeCells #[.int .u8 0] k) 5)) := (Upd.refl [] w).alloc _
  generalize w.alloc (.cells (madeCells #[.int .u8 0] k) 5) = w0 at *
  obtain ⟨b0, hb0⟩ : ∃ b0, w.heap.size = b0 := ⟨_, rfl⟩
  rw [hb0] at hB0 ⊢
  have HB := Lib.hid (show w.heap.size ≤ b0 by omega)
  have HB0 := Lib.hid hB0
  have HU0 := Lib.hid hU0
  clear hb0 hmk hB0 hU0
  go_loopg [0, 11] k (fun g s0 s11 wr => ∃ i, i ≤ k ∧ g = k - i ∧ s11 = .int .i64 (i : Nat) ∧ ∃ m : Nat, s0 = .int .i64 (m : Nat) ∧ Hid (m = n / 10 ^ i) ∧ m ≤ n ∧ Hid (Blk wr b0 (u8s (digB n k i)) 5) ∧ Hid (Upd [] w wr))
  case atStart => exact ⟨0, by omega, rfl, rfl, n, rfl, Lib.hid (by simp), Nat.le_refl _, HB0, HU0⟩
  case round =>
    obtain ⟨i, hi, rfl, rfl, m, rfl, HM, hmn, hB, hU⟩ := hrel
    clear HB0 HU0
    by_cases hc9 : i < k
    · have hcz : (i : Int) < (k : Int) := by omega
      have HST := Lib.hid (digB_step n k i hc9)
      rw [← HM.out] at HST
      have hln := digB_len n k i hi
      have hix : k - 1 - i < k := by omega
      have hcast : (k : Int) - 1 - (i : Int) = ((k - 1 - i : Nat) : Int) := by omega
      have hj0 : (0 : Int) ≤ (k : Int) - 1 - (i : Int) := by omega
      have hj1 : (k : Int) - 1 - (i : Int) < (k : Int) := by omega
      have hjn : ((k : Int) - 1 - (i : Int)).toNat = k - 1 - i := by omega
      obtain ⟨u, hu⟩ : ∃ u, (u8s (digB n k i))[k - 1 - i]? = some u := ⟨_, List.getElem?_eq_getElem (by rw [u8s, List.length_map, hln]; exact hix)⟩
      have c1 := hB.out.cell (k - 1 - i) hu
      clear hu
      have f1 := hB.out.frz (k - 1 - i)
      have HM2 : Hid (m / 10 = n / 10 ^ (i + 1)) := Lib.hid (by rw [HM.out, Nat.div_div_eq_div_mul, Nat.pow_succ])
      have hm10 : m / 10 ≤ n := by omega
      clear hln hcast
      go_wp2
      go_roundg (k - (i + 1))
      · exact ⟨i + 1, by omega, rfl, by first | rfl | go_num, m / 10, by first | rfl | go_num, HM2, hm10, Lib.hid (by rw [← HST.out, ← u8s_set2]; exact hB.out.set _ _), Lib.hid (hU.out.setCell (.inr HB.out) _)⟩
      · omega
    · have hcz : ¬ (i : Int) < (k : Int) := by omega
      have h9 : i = k := by omega
      subst h9
      have hB2 := hB.out
      unfold digB at hB2
      rw [Nat.sub_self, List.replicate_zero, List.nil_append] at hB2
      have hcv2 := hB2.conv (P := Tryz.prog) (c := i) (digP_len i n) Tryz.underlying87 Tryz.underlying5 Tryz.underlying9
      clear hB2
      go_wp2
      go_ret
      exact ⟨rfl, hU.out⟩
end Go.Proofs.YtigjingielnaoaaGreatDoor

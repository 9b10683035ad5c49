/- Packages node and swingleref14: a number's digits to the base 16: walks. -/
import Derived.Test.YtibmhadnfggmlaaDoorNDec
namespace Go.Proofs.YtibmhadnfggmlaaDoor
set_option linter.unusedVariables false
set_option linter.unusedSimpArgs false
set_option linter.unusedSectionVars false
open Go.RowKit
set_option linter.unusedVariables false
set_option linter.unusedSimpArgs false

def hexes : ByteArray := { data := #[48, 49, 50, 51, 52, 53, 54, 55, 56, 57, 97, 98, 99, 100, 101, 102] }
def hexd (k : Nat) : Nat := if k < 10 then 48 + k else 87 + k
/-- So many digits to the base 16. -/
def hexP (n : Nat) : Nat → List Nat
  | 0 => []
  | k + 1 => hexP (n / 16) k ++ [hexd (n % 16)]
theorem hexP_len : ∀ (k n : Nat), (hexP n k).length = k
  | 0, _ => rfl
  | k + 1, n => by rw [hexP, List.length_append, hexP_len k]; rfl
theorem hexP_dig : ∀ (k n : Nat), ∀ x ∈ hexP n k, 48 ≤ x ∧ x ≤ 57 ∨ 97 ≤ x ∧ x ≤ 102
  | 0, _, x, h => by cases h
  | k + 1, n, x, h => by
    rw [hexP] at h
    rcases List.mem_append.1 h with h | h
    · exact hexP_dig k _ x h
    · simp [hexd] at h; split at h <;> omega
theorem hexP_cons : ∀ (i n : Nat), hexP n (i + 1) = hexd (n / 16 ^ i % 16) :: hexP n i
  | 0, n => by simp [hexP]
  | i + 1, n => by
    rw [hexP, hexP_cons i (n / 16), hexP, Nat.div_div_eq_div_mul, Nat.pow_succ']
    rfl
theorem hexes_get (k : Nat) (h : k < 16) : (hexes[k]'(by exact h)).toNat = hexd k := by
  have : ∀ k : Fin 16, (hexes[k.val]'(by exact k.isLt)).toNat = hexd k.val := by decide
  exact this ⟨k, h⟩
theorem hexes_cut (k : Nat) (h : k < 16) : hexes.extract k (k + 1) = strOf [hexd k] := by
  have : ∀ k : Fin 16, (hexes.extract k.val (k.val + 1)).data = (strOf [hexd k.val]).data := by decide
  exact ByteArray.ext (this ⟨k, h⟩)
/-- What stands in the buffer behind i rounds: the first i digits, then zeros. -/
def hexB (n i : Nat) : List Nat := (hexP n 8).take i ++ List.replicate (8 - i) 0
theorem hexB_len (n i : Nat) (h : i ≤ 8) : (hexB n i).length = 8 := by unfold hexB; rw [List.length_append, List.length_take, hexP_len, List.length_replicate]; omega
theorem hexP_get : ∀ (k n i : Nat) (h : i < k), (hexP n k)[i]'(by rw [hexP_len]; exact h) = hexd (n / 16 ^ (k - 1 - i) % 16)
  | 0, n, i, h => by omega
  | k + 1, n, i, h => by
    simp only [hexP_cons]
    cases i with
    | zero => simp
    | succ i =>
      simp only [List.getElem_cons_succ]
      rw [hexP_get k n i (by omega), show k - 1 - i = k + 1 - 1 - (i + 1) by omega]
theorem hexB_step (n i : Nat) (h : i < 8) : (hexB n i).set i (hexd (n / 16 ^ (7 - i) % 16)) = hexB n (i + 1) := by
  have hl : i < (hexP n 8).length := by rw [hexP_len]; exact h
  unfold hexB
  rw [List.set_append_right _ _ (by rw [List.length_take, hexP_len]; omega), List.take_succ_eq_append_getElem hl, hexP_get 8 n i h, List.append_assoc]
  congr 1
  rw [List.length_take, hexP_len, show i - min i 8 = 0 by omega, show 8 - i = (8 - (i + 1)) + 1 by omega, List.replicate_succ]
  rfl
theorem shr_and (n i : Nat) (hn : n < 4294967296) (h : i < 8) : bits .and .u32 ((n : Int) / 2 ^ (28 - 4 * i)) 15 = ((n / 16 ^ (7 - i) % 16 : Nat) : Int) := by
  have h1 := mask_u32 n (28 - 4 * i) 4 hn (by omega)
  rw [show (2 : Nat) ^ (28 - 4 * i) = 16 ^ (7 - i) by rw [show 28 - 4 * i = 4 * (7 - i) by omega, Nat.pow_mul]] at h1
  exact h1
set_option maxRecDepth 100000 in
set_option maxHeartbeats 3200000 in
theorem nhex_any (n : Nat) (w : World) (hn : n < 4294967296) : Calls Tryd.prog 72 #[.int .u32 (n : Nat)] w fun e w' => e = .returned (.string (strOf (hexP n 8))) ∧ Upd [] w w' := by
  have hmk := fun w => run_make_row' (P := Tryd.prog) 28 5 (.int .u8 0) 1 Tryd.underlying28 infoByte rfl .i64 .i64 8 (by omega) (by omega) (w := w)
  simp only [Int.cast_ofNat_Int] at hmk
  go_enter Tryd.func72, Tryd.ntmps72
  go_wp2
  have hB0 : Blk (w.alloc (.cells (madeCells #[.int .u8 0] 8) 5)) w.heap.size (u8s (hexB n 0)) 5 := by
    have := heap_alloc_new w (.cells (madeCells #[.int .u8 0] 8) 5)
    unfold Blk
    rw [this]
    congr 2
    apply Array.ext
    · simp [madeCells, u8s, hexB]
    · intro j h1 h2
      simp [-List.reduceReplicate, madeCells, u8s, hexB, Nat.mod_one]
  have hU0 : Upd [] w (w.alloc (.cells (madeCells #[.int .u8 0] 8) 5)) := (Upd.refl [] w).alloc _
  generalize w.alloc (.cells (madeCells #[.int .u8 0] 8) 5) = w0 at *
  obtain ⟨b0, hb0⟩ : ∃ b0, w.heap.size = b0 := ⟨_, rfl⟩
  rw [hb0] at hB0 ⊢
  have HB := Lib.hid (show w.heap.size ≤ b0 by omega)
  have HB0 := Lib.hid hB0
  have HU0 := Lib.hid hU0
  clear hb0 hmk hB0 hU0
  go_loopg [8] 8 (fun g s8 wr => ∃ i, i ≤ 8 ∧ g = 8 - i ∧ s8 = .int .i64 (i : Nat) ∧ Hid (Blk wr b0 (u8s (hexB n i)) 5) ∧ Hid (Upd [] w wr))
  case atStart => exact ⟨0, by omega, rfl, rfl, HB0, HU0⟩
  case round =>
    obtain ⟨i, hi, rfl, rfl, hB, hU⟩ := hrel
    clear HB0 HU0
    by_cases hc9 : i < 8
    · have hcz : (i : Int) < 8 := by omega
      have HST := Lib.hid (hexB_step n i hc9)
      have hln := hexB_len n i hi
      have hz0 : (0 : Int) ≤ 28 - 4 * (i : Int) := by omega
      have hzt : (28 - 4 * (i : Int)).toNat = 28 - 4 * i := by omega
      have hand := shr_and n i hn hc9
      have hk : n / 16 ^ (7 - i) % 16 < 16 := by omega
      have hgt := hexes_get (n / 16 ^ (7 - i) % 16) hk
      generalize n / 16 ^ (7 - i) % 16 = k at *
      obtain ⟨u, hu⟩ : ∃ u, (u8s (hexB n i))[i]? = some u := ⟨_, List.getElem?_eq_getElem (by rw [u8s, List.length_map, hln]; exact hc9)⟩
      have c1 := hB.out.cell i hu
      clear hu
      have f1 := hB.out.frz i
      unfold hexes at hgt
      have hsz : ({ data := #[48, 49, 50, 51, 52, 53, 54, 55, 56, 57, 97, 98, 99, 100, 101, 102] } : ByteArray).size = 16 := rfl
      clear hln
      go_wp2
      go_roundg (8 - (i + 1))
      · exact ⟨i + 1, by omega, rfl, by first | rfl | go_num, Lib.hid (by rw [← HST.out, ← u8s_set2]; exact hB.out.set _ _), Lib.hid (hU.out.setCell (.inr HB.out) _)⟩
      · omega
    · have hcz : ¬ (i : Int) < 8 := by omega
      have h9 : i = 8 := by omega
      subst h9
      have hB2 := hB.out
      unfold hexB at hB2
      rw [List.take_of_length_le (by rw [hexP_len]; omega), Nat.sub_self, List.replicate_zero, List.append_nil] at hB2
      have hcv2 := hB2.conv (P := Tryd.prog) (c := 8) (hexP_len 8 n) Tryd.underlying28 Tryd.underlying5 Tryd.underlying9
      clear hB2
      go_wp2
      go_ret
      exact ⟨rfl, hU.out⟩
theorem addl_row (L M : List Nat) (hL : L.length + M.length ≤ 1000) (w : World) : (Op.stringOp .add (strOf L) (strOf M)).run Tryd.prog w = .ok (.string (strOf (L ++ M))) w := by
  rw [run_string_add_sum _ _ _ (by rw [size_strOf, size_strOf]; omega), ← strOf_cat]
set_option maxRecDepth 100000 in
set_option maxHeartbeats 3200000 in
theorem rhex_any (n : Nat) (w : World) (hn : n < 4294967296) : Calls Tryd.prog 55 #[.int .u32 (n : Nat)] w fun e w' => e = .returned (.string (strOf (hexP n 8))) ∧ Upd [] w w' := by
  go_enter Tryd.func55, Tryd.ntmps55
  go_wp2
  go_loopg [0, 3, 4] 8 (fun g s0 s3 s4 wr => ∃ i m, i ≤ 8 ∧ g = 8 - i ∧ s4 = .int .i64 (i : Nat) ∧ s0 = .int .u32 (m : Nat) ∧ Hid (m = n / 16 ^ i) ∧ m < 4294967296 ∧ s3 = .string (strOf (hexP n i)) ∧ wr = w)
  case atStart => exact ⟨0, n, by omega, rfl, rfl, rfl, Lib.hid (by simp), hn, rfl, rfl⟩
  case round =>
    obtain ⟨i, m, hi, rfl, rfl, rfl, HM, hm, rfl, rfl⟩ := hrel
    by_cases hc9 : i < 8
    · have hcz : (i : Int) < 8 := by omega
      have HS : Hid (hexd (m % 16) :: hexP n i = hexP n (i + 1)) := Lib.hid (by rw [hexP_cons, HM.out])
      have hadd := fun w => addl_row [hexd (m % 16)] (hexP n i) (by rw [hexP_len]; simp; omega) w
      rw [List.singleton_append, HS.out] at hadd
      have hcut := hexes_cut (m % 16) (by omega)
      have HM2 : Hid (m / 16 = n / 16 ^ (i + 1)) := Lib.hid (by rw [HM.out, Nat.div_div_eq_div_mul, Nat.pow_succ])
      have hk : m % 16 < 16 := by omega
      unfold hexes at hcut
      have hsz : ({ data := #[48, 49, 50, 51, 52, 53, 54, 55, 56, 57, 97, 98, 99, 100, 101, 102] } : ByteArray).size = 16 := rfl
      generalize ({ data := #[48, 49, 50, 51, 52, 53, 54, 55, 56, 57, 97, 98, 99, 100, 101, 102] } : ByteArray) = HX at *
      go_wp2
      go_roundg (8 - (i + 1))
      · exact ⟨i + 1, m / 16, by omega, rfl, by first | rfl | go_num, by first | rfl | go_num, HM2, by omega, rfl, rfl⟩
      · omega
    · have hcz : ¬ (i : Int) < 8 := by omega
      have h9 : i = 8 := by omega
      subst h9
      go_wp2
      go_ret
      exact ⟨rfl, Upd.refl _ _⟩
end Go.Proofs.YtibmhadnfggmlaaDoor

/- Package node: a number of digits: its walk. -/
import Derived.Test.YtibmhadnfggmlaaDoorNHex
import Derived.Test.YtibmhadnfggmlaaDoorSplW
namespace Go.Proofs.YtibmhadnfggmlaaDoor
set_option linter.unusedVariables false
set_option linter.unusedSimpArgs false
set_option linter.unusedSectionVars false
open Go.RowKit
set_option linter.unusedVariables false
set_option linter.unusedSimpArgs false

/-- The value of a digit; nought for what is none. -/
def hexIx (c : Nat) : Nat := (max 0 (Lib.indexByte hexes.data.toList (UInt8.ofNat c))).toNat
theorem indexByte_lt (c : UInt8) : ∀ l : List UInt8, 0 < l.length → Lib.indexByte l c < l.length
  | [], h => by cases h
  | b :: l, _ => by
    unfold Lib.indexByte
    have hge := Lib.indexByte_ge l c
    split
    · simp
    · split
      · simp; omega
      · cases l with
        | nil => simp_all [Lib.indexByte]
        | cons b2 l2 =>
          have := indexByte_lt c (b2 :: l2) (by simp)
          simp only [List.length_cons] at this ⊢
          omega
theorem hexIx_lt (c : Nat) : hexIx c < 16 := by
  unfold hexIx
  have h := indexByte_lt (UInt8.ofNat c) hexes.data.toList (by decide)
  have hl : hexes.data.toList.length = 16 := rfl
  rw [hl] at h
  omega
theorem hexIx_hexd (k : Nat) (h : k < 16) : hexIx (hexd k) = k := by
  have : ∀ k : Fin 16, hexIx (hexd k.val) = k.val := by decide
  exact this ⟨k, h⟩
/-- A number of digits to a base (at most ten are looked at). -/
def numB (base : Nat) (l : List Nat) : Nat := (l.take 10).foldl (fun n c => n * base + hexIx c) 0
def foldB (base : Nat) (l : List Nat) : Nat := l.foldl (fun n c => n * base + hexIx c) 0
theorem foldB_snoc (base : Nat) (l : List Nat) (c : Nat) : foldB base (l ++ [c]) = foldB base l * base + hexIx c := by unfold foldB; rw [List.foldl_append]; rfl
theorem foldB_lt (base : Nat) (hb : base ≤ 16) : ∀ (n : Nat) (l : List Nat), l.length = n → foldB base l < 16 ^ n
  | 0, l, h => by rw [List.eq_nil_of_length_eq_zero h]; simp [foldB]
  | n + 1, l, h => by
    rcases List.eq_nil_or_concat l with rfl | ⟨L, c, rfl⟩
    · simp at h
    · rw [List.concat_eq_append] at h ⊢
      have ih := foldB_lt base hb n L (by simp at h; exact h)
      rw [foldB_snoc, Nat.pow_succ]
      have h1 := hexIx_lt c
      have h2 : foldB base L * base ≤ foldB base L * 16 := Nat.mul_le_mul_left _ hb
      omega
theorem foldB_lt2 (base : Nat) (hb : base ≤ 16) (l : List Nat) (hl : l.length ≤ 10) : foldB base l < 1099511627776 := by
  have h1 := foldB_lt base hb l.length l rfl
  have h2 : 16 ^ l.length ≤ 16 ^ 10 := Nat.pow_le_pow_right (by omega) hl
  omega
theorem indexB_any (s : ByteArray) (c : UInt8) (w : World) : Calls Tryd.prog 104 #[.string s, .int .u8 (c.toNat : Nat)] w fun e w' => e = .returned (.int .i64 (Lib.indexByte s.data.toList c)) ∧ w = w' := by
  have HB := Lib.hid (fun w => sliteByteC_any s c w)
  go_enter Tryd.func104, Tryd.ntmps104
  go_wp2_with fail
  refine (HB.out _).mono ?_
  rintro e w' ⟨rfl, rfl⟩
  go_wp2
  go_ret
  exact ⟨rfl, rfl⟩
set_option maxRecDepth 100000 in
set_option maxHeartbeats 3200000 in
theorem number_any (S : ByteArray) (base : Nat) (w : World) (hs : S.size ≤ 9223372036854775807) (hb : base ≤ 16) : Calls Tryd.prog 107 #[.string S, .int .u64 (base : Nat)] w fun e w' => e = .returned (.int .u64 (numB base (bytesOf S) : Nat)) ∧ Upd [] w w' := by
  obtain ⟨m, hm⟩ : ∃ m, m = min S.size 10 := ⟨_, rfl⟩
  have e1 : min (S.size : Int) 10 = (m : Int) := by omega
  have HL : Hid (m ≤ S.size ∧ m ≤ 10) := Lib.hid (by omega)
  have HN : Hid (numB base (bytesOf S) = foldB base ((bytesOf S).take m)) := Lib.hid (by
    unfold numB
    rw [hm]
    by_cases h : S.size ≤ 10
    · rw [Nat.min_eq_left h, List.take_of_length_le (by rw [length_bytesOf]; exact h), List.take_of_length_le (by rw [length_bytesOf]; omega)]; rfl
    · rw [Nat.min_eq_right (by omega)]; rfl)
  have HI := Lib.hid (fun c w => indexB_any hexes c w)
  unfold hexes at HI
  clear hm
  go_enter Tryd.func107, Tryd.ntmps107
  go_wp2
  go_loopg [4, 9] m (fun gg s4 s9 wr => ∃ i n, i ≤ m ∧ gg = m - i ∧ s9 = .int .i64 (i : Nat) ∧ s4 = .int .u64 (n : Nat) ∧ Hid (n = foldB base ((bytesOf S).take i)) ∧ n < 1099511627776 ∧ Hid (Upd [] w wr))
  case atStart => exact ⟨0, 0, Nat.zero_le _, rfl, rfl, rfl, Lib.hid rfl, by omega, Lib.hid (Upd.refl _ _)⟩
  case round =>
    obtain ⟨i, n, hin, rfl, rfl, rfl, HM, hn, HU⟩ := hrel
    by_cases hc : i < m
    · have hcz : (i : Int) < (m : Int) := by omega
      have hl := HL.out
      have hci : i < S.size := by omega
      have hil : i < (bytesOf S).length := by rw [length_bytesOf]; exact hci
      have HG : foldB base ((bytesOf S).take (i + 1)) = n * base + hexIx S[i].toNat := by
        rw [List.take_succ_eq_append_getElem hil, foldB_snoc, ← HM.out, bytesOf_get S i hci]
      have hlt := foldB_lt2 base hb ((bytesOf S).take (i + 1)) (by rw [List.length_take]; omega)
      have hbl : S[i].toNat < 256 := S[i].toNat_lt
      have hIx := HI.out S[i] wr
      have hix : ((hexIx S[i].toNat : Nat) : Int) = max 0 (Lib.indexByte hexes.data.toList S[i]) := by
        unfold hexIx
        rw [UInt8.ofNat_toNat]
        omega
      have hd := hexIx_lt S[i].toNat
      unfold hexes at hix
      generalize hexIx S[i].toNat = d at *
      generalize Lib.indexByte ({ data := #[48, 49, 50, 51, 52, 53, 54, 55, 56, 57, 97, 98, 99, 100, 101, 102] } : ByteArray).data.toList S[i] = q at *
      have HIX := Lib.hid hIx
      have hq : max 0 q = (d : Int) := hix.symm
      have hw1 : IntKind.u64.wrap (IntKind.u64.wrap ((n : Int) * (base : Int)) + (d : Int)) = ((n * base + d : Nat) : Int) := by
        have hnb : n * base < 1099511627776 := by omega
        have e : (n : Int) * (base : Int) = ((n * base : Nat) : Int) := by simp
        rw [e]
        generalize n * base = nb at *
        rw [IntWalk.u64_in ((nb : Nat) : Int) (by omega), IntWalk.u64_in _ (by omega)]
        simp
      have HG2 := Lib.hid HG
      rw [HG] at hlt
      generalize n * base + d = n2 at *
      clear hix hIx HM hil hl HG
      go_wp2_with fail
      refine HIX.out.mono ?_
      rintro e w1 ⟨rfl, rfl⟩
      go_wp2
      go_roundg (m - (i + 1))
      · exact ⟨i + 1, n2, by omega, rfl, by first | rfl | go_num, by first | rfl | rw [hw1] | go_num, Lib.hid HG2.out.symm, hlt, HU⟩
      · omega
    · have hcz : ¬ (i : Int) < (m : Int) := by omega
      have hix : i = m := by omega
      subst hix
      go_wp2
      go_ret
      exact ⟨by rw [HN.out, ← HM.out]; rfl, HU.out⟩
end Go.Proofs.YtibmhadnfggmlaaDoor

/- Law 10: light: its walk. -/
import Derived.Test.YtdehkaknbmbieaaRExp
namespace Go.Proofs.Ytdehkaknbmbieaa
set_option linter.unusedVariables false
set_option linter.unusedSimpArgs false
set_option linter.unusedSectionVars false
open Go.RowKit
set_option linter.unusedVariables false
set_option linter.unusedSimpArgs false

def mid (x : Int) : Nat := (max 0 (min x 300)).toNat
theorem mid_le (x : Int) : mid x ≤ 300 := by unfold mid; omega
def midS : List Tok → Nat
  | [] => 0
  | t :: r => mid t.long + midS r
theorem midS_snoc (l : List Tok) (t : Tok) : midS (l ++ [t]) = midS l + mid t.long := by
  induction l with
  | nil => simp [midS]
  | cons u l ih => rw [List.cons_append, midS, midS, ih]; omega
theorem midS_le (l : List Tok) : midS l ≤ 300 * l.length := by
  induction l with
  | nil => simp [midS]
  | cons u l ih => have := mid_le u.long; rw [midS, List.length_cons]; omega
/-- At most 100 tokens that make at most 3000 bytes, and may be? -/
def lightB (l : List Tok) : Bool := decide (l.length ≤ 100) && decide (midS l ≤ 3000) && (expTo l []).isSome
def LightP (l : List Tok) (w : World) (e : Ending) (w' : World) : Prop := e = .returned (.bool (lightB l)) ∧ Upd [] w w'
set_option maxRecDepth 100000 in
set_option maxHeartbeats 6400000 in
theorem light_any (l : List Tok) (a : Option Addr) (n cap : Nat) (w : World) (hI : TokIn w a n l) (hn : n ≤ 9223372036854775807) (hnc : n ≤ cap) :
    Calls Try.prog 20 #[.slice a n cap] w fun e w' => LightP l w e w' := by
  have HI := Lib.hid hI
  have HLN := Lib.hid hI.len
  clear hI
  obtain ⟨q, hq⟩ : ∃ q : Nat, min (n : Int) 101 = (q : Int) := ⟨min n 101, by omega⟩
  have hqn : q ≤ n := by omega
  have hq101 : q ≤ 101 := by omega
  have hqz : (0 : Int) ≤ (q : Int) := by omega
  have hqc : (q : Int) ≤ (cap : Int) := by omega
  have HQ := Lib.hid hq
  go_enter Try.func20, Try.ntmps20
  go_wp2
  go_loopg [3, 14] 200 (fun gg s3 s14 wr => ∃ i : Nat, i ≤ q ∧ gg = 200 - i ∧ s14 = .int .i64 (i : Nat) ∧ s3 = .int .i64 (midS (l.take i) : Nat) ∧ Hid (Upd [] w wr))
  case atStart => exact ⟨0, by omega, by omega, rfl, rfl, Lib.hid (Upd.refl _ _)⟩
  case round =>
    obtain ⟨i, hin, rfl, rfl, rfl, HU⟩ := hrel
    have hms : midS (l.take i) ≤ 300 * i := by have := midS_le (l.take i); rw [List.length_take, HLN.out, Nat.min_eq_left (by omega)] at this; exact this
    by_cases hc : i < q
    · have hcz : (i : Int) < (q : Int) := by omega
      have hil : i < l.length := by rw [HLN.out]; omega
      have hw1 : IntKind.i64.wrap ((i : Int) + 1) = ((i + 1 : Nat) : Int) := by rw [IntWalk.i64_in _ (by omega)]; rfl
      obtain ⟨b, off, rfl, ⟨hc1, hc2, hc3⟩, r1, r2, r3⟩ := (HI.out.pure HU.out).cell i hil
      have HSM : Hid (midS (l.take (i + 1)) = midS (l.take i) + mid l[i].long) := Lib.hid (by rw [List.take_succ_eq_append_getElem hil, midS_snoc])
      generalize l[i] = t at *
      obtain ⟨tb, tl, tk⟩ := t
      dsimp only at hc1 hc2 hc3 r1 r2 r3 HSM
      have hml := mid_le tl
      have hmx : max 0 (min tl 300) = (mid tl : Int) := by unfold mid; omega
      have HU4 := Lib.hid (HU.out.alloc (.cells #[.int .u8 (tb : Nat), .int .i64 tl, .int .i64 tk] 40))
      generalize mid tl = mt at *
      generalize midS (l.take i) = ms at *
      have hws : IntKind.i64.wrap ((ms : Int) + (mt : Int)) = ((ms + mt : Nat) : Int) := by rw [IntWalk.i64_in _ (by omega)]; rfl
      clear hil
      go_wp2
      go_roundg (200 - (i + 1))
      · exact ⟨i + 1, by omega, by first | rfl | omega, by first | rfl | go_num, by rw [HSM.out]; first | rfl | go_num, HU4⟩
      · omega
    · have hcz : ¬ (i : Int) < (q : Int) := by omega
      obtain rfl : i = q := by omega
      by_cases h100 : 100 < n
      · have h100z : (100 : Int) < (n : Int) := by omega
        have HB : Hid (lightB l = false) := Lib.hid (by unfold lightB; rw [decide_eq_false (by rw [HLN.out]; omega)]; rfl)
        go_wp2
        go_ret
        exact ⟨by rw [HB.out]; rfl, HU.out⟩
      · have h100z : ¬ (100 : Int) < (n : Int) := by omega
        have hin2 : i = n := by omega
        have htk : l.take i = l := List.take_of_length_le (by rw [HLN.out]; omega)
        rw [htk] at hms ⊢
        by_cases hm : 3000 < midS l
        · have hmz : (3000 : Int) < (midS l : Int) := by omega
          have HB : Hid (lightB l = false) := Lib.hid (by unfold lightB; rw [decide_eq_false (by omega : ¬ midS l ≤ 3000), Bool.and_false]; rfl)
          go_wp2
          go_ret
          exact ⟨by rw [HB.out]; rfl, HU.out⟩
        · have hmz : ¬ (3000 : Int) < (midS l : Int) := by omega
          have HB : Hid (lightB l = (expTo l []).isSome) := Lib.hid (by unfold lightB; rw [decide_eq_true (by rw [HLN.out]; omega), decide_eq_true (by omega : midS l ≤ 3000)]; rfl)
          have HEX := Lib.hid (rexpand_any l a n cap wr (HI.out.pure HU.out) (by omega))
          generalize midS l = ms at *
          unfold ExpP at HEX
          generalize expTo l [] = o at *
          clear htk hms
          go_wp2_with fail
          refine HEX.out.mono ?_
          rintro e w2 ⟨rfl, hU2⟩
          have HU2 := Lib.hid (HU.out.then hU2)
          clear hU2 HEX
          cases o with
          | none =>
            unfold expV
            go_wp2
            go_ret
            exact ⟨by rw [HB.out]; rfl, HU2.out⟩
          | some s =>
            unfold expV
            go_wp2
            go_ret
            exact ⟨by rw [HB.out]; rfl, HU2.out⟩
theorem lightB_yes {l : List Tok} (h : lightB l = true) : l.length ≤ 100 ∧ midS l ≤ 3000 ∧ ∃ s, expTo l [] = some s := by
  unfold lightB at h
  simp only [Bool.and_eq_true, decide_eq_true_eq] at h
  exact ⟨h.1.1, h.1.2, Option.isSome_iff_exists.1 h.2⟩
end Go.Proofs.Ytdehkaknbmbieaa

/- Package swingleref07: Expand: its walk. -/
import Derived.Test.YtdehkaknbmbieaaQAP
import Derived.Test.YtdehkaknbmbieaaQAD
namespace Go.Proofs.Ytdehkaknbmbieaa
set_option linter.unusedVariables false
set_option linter.unusedSimpArgs false
set_option linter.unusedSectionVars false
open Go.RowKit
set_option linter.unusedVariables false
set_option linter.unusedSimpArgs false

def expV (o : Option (List Nat)) : Value := match o with
  | none => .tuple #[.string { data := #[] }, .bool false]
  | some s => .tuple #[.string (strOf s), .bool true]
def ExpP (l : List Tok) (w : World) (e : Ending) (w' : World) : Prop := e = .returned (expV (expTo l [])) ∧ Upd [] w w'
theorem strOf_sub1 (s : List Nat) (i : Nat) (h : i < s.length) : (strOf s).extract i (i + 1) = strOf [s.getD i 0] := by
  have h1 : (strOf s).data.extract i (i + 1) = #[UInt8.ofNat (s.getD i 0)] := by
    apply Array.ext'
    simp [strOf, List.getD_eq_getElem?_getD, h]
    rw [List.drop_eq_getElem_cons (by simpa using h)]
    simp
  apply ByteArray.ext
  rw [ByteArray.data_extract, h1]
  simp [strOf]
set_option maxRecDepth 100000 in
set_option maxHeartbeats 6400000 in
theorem rexpand_any (l : List Tok) (a : Option Addr) (n cap : Nat) (w : World) (hI : TokIn w a n l) (hn : n ≤ 1000000) :
    Calls Try.prog 30 #[.slice a n cap] w fun e w' => ExpP l w e w' := by
  have HI := Lib.hid hI
  have HLN := Lib.hid hI.len
  clear hI
  go_enter Try.func30, Try.ntmps30
  go_wp2
  go_loopg [4, 11] 1000000 (fun gg s4 s11 wr => ∃ (i : Nat) (s : List Nat), i ≤ n ∧ gg = 1000000 - i ∧ s11 = .int .i64 (i : Nat) ∧ s4 = .string (strOf s) ∧ s.length ≤ 65000 ∧ Hid (∀ x ∈ s, x < 256) ∧ Hid (expTo l [] = expTo (l.drop i) s) ∧ Hid (Upd [] w wr))
  case atStart => exact ⟨0, [], by omega, by omega, rfl, rfl, by simp, Lib.hid (by simp), Lib.hid rfl, Lib.hid (Upd.refl _ _)⟩
  case round =>
    obtain ⟨i, s, hin, rfl, rfl, rfl, hsl, HS, HE, HU⟩ := hrel
    have hsz : (strOf s).size = s.length := size_strOf s
    by_cases hc : i < n
    · have hcz : (i : Int) < (n : Int) := by omega
      have hil : i < l.length := by rw [HLN.out]; exact hc
      have hw1 : IntKind.i64.wrap ((i : Int) + 1) = ((i + 1 : Nat) : Int) := by rw [IntWalk.i64_in _ (by omega)]; rfl
      obtain ⟨b, off, rfl, ⟨hc1, hc2, hc3⟩, r1, r2, r3⟩ := (HI.out.pure HU.out).cell i hil
      have HDR : Hid (l.drop i = l[i] :: l.drop (i + 1)) := Lib.hid (List.drop_eq_getElem_cons hil)
      generalize l[i] = t at *
      obtain ⟨tb, tl, tk⟩ := t
      dsimp only at hc1 hc2 hc3 r1 r2 r3
      have hT4 := Blk.new wr [.int .u8 (tb : Nat), .int .i64 tl, .int .i64 tk] 40
      have hU4 := HU.out.alloc (.cells #[.int .u8 (tb : Nat), .int .i64 tl, .int .i64 tk] 40)
      clear hil
      go_upto_region 5 with fail
      change Code.wp _ _ _ _ (wr.alloc (.cells #[.int .u8 (tb : Nat), .int .i64 tl, .int .i64 tk] 40))
      generalize wr.alloc (.cells #[.int .u8 (tb : Nat), .int .i64 tl, .int .i64 tk] 40) = w4 at *
      generalize wr.heap.size = g at *
      have t0 := hT4.cell 0 rfl
      have t1 := hT4.cell 1 rfl
      have t2 := hT4.cell 2 rfl
      have HU4 := Lib.hid hU4
      have HT4 := Lib.hid hT4
      clear hT4 hU4 hc1 hc2 hc3
      by_cases h0 : tl = 0
      · subst h0
        by_cases h1 : tk = 0
        · subst h1
          by_cases h2 : 65000 ≤ s.length
          · have h2z : (65000 : Int) ≤ (s.length : Int) := by omega
            have HNONE : Hid (expTo l [] = none) := Lib.hid (by rw [HE.out, HDR.out, expTo_cons, if_pos rfl, if_pos (.inr h2)])
            go_wp2
            go_returns
            exact ⟨by rw [HNONE.out]; rfl, HU4.out⟩
          · have h2z : ¬ (65000 : Int) ≤ (s.length : Int) := by omega
            have HE2 : Hid (expTo l [] = expTo (l.drop (i + 1)) (s ++ [tb])) := Lib.hid (by rw [HE.out, HDR.out, expTo_cons]; simp [h2])
            have hcv : (convert 102 9 (.slice (some ⟨w4.heap.size, 0, none⟩) 1 1)).run Try.prog (w4.alloc (.cells #[.int .u8 (tb : Nat)] 5)) = .ok (.string (strOf [tb])) (w4.alloc (.cells #[.int .u8 (tb : Nat)] 5)) := run_conv_row _ 102 9 5 Try.underlying102 Try.underlying5 Try.underlying9 (l := [tb]) (n := 1) (Row.new w4 (u8s [tb]) 5 1 1 (by unfold maxLen; omega) rfl)
            have hadd : ∀ W', (Op.stringOp .add (strOf s) (strOf [tb])).run Try.prog W' = .ok (.string (strOf (s ++ [tb]))) W' := fun W' => by
              rw [← strOf_append]
              exact run_string_add_sum _ _ _ (by rw [size_strOf, size_strOf]; simp; omega)
            have HS2 : Hid (∀ x ∈ s ++ [tb], x < 256) := Lib.hid (fun x hx => by
              rcases List.mem_append.1 hx with h | h
              · exact HS.out x h
              · simp at h; omega)
            have HU5 := Lib.hid (HU4.out.alloc (.cells #[.int .u8 (tb : Nat)] 5))
            have hl2 : (s ++ [tb]).length ≤ 65000 := by rw [List.length_append]; simp; omega
            go_wp2
            go_roundg (1000000 - (i + 1))
            · exact ⟨i + 1, s ++ [tb], by omega, rfl, by first | rfl | go_num, rfl, hl2, HS2, HE2, HU5⟩
            · omega
        · have hkb : (tk != 0) = true := by rw [bne_iff_ne]; exact h1
          have HNONE : Hid (expTo l [] = none) := Lib.hid (by rw [HE.out, HDR.out, expTo_cons, if_pos rfl, if_pos (.inl h1)])
          go_wp2
          go_returns
          exact ⟨by rw [HNONE.out]; rfl, HU4.out⟩
      · have h0b : (tl == 0) = false := by simpa using h0
        by_cases hx0 : tb ≠ 0
        · have HBC : Hid (badCopy ⟨tb, tl, tk⟩ s.length) := Lib.hid (by unfold badCopy; dsimp only; omega)
          have hxb : ((tb : Int) != 0) = true := by rw [bne_iff_ne]; omega
          have HNONE : Hid (expTo l [] = none) := Lib.hid (by rw [HE.out, HDR.out, expTo_cons, if_neg h0, if_pos HBC.out])
          go_wp2
          go_returns
          exact ⟨by rw [HNONE.out]; rfl, HU4.out⟩
        have hxb : ((tb : Int) != 0) = false := by rw [bne_eq_false_iff_eq]; omega
        by_cases hx1 : tl < 3
        · have HBC : Hid (badCopy ⟨tb, tl, tk⟩ s.length) := Lib.hid (by unfold badCopy; dsimp only; omega)
          have HNONE : Hid (expTo l [] = none) := Lib.hid (by rw [HE.out, HDR.out, expTo_cons, if_neg h0, if_pos HBC.out])
          go_wp2
          go_returns
          exact ⟨by rw [HNONE.out]; rfl, HU4.out⟩
        by_cases hx2 : 258 < tl
        · have HBC : Hid (badCopy ⟨tb, tl, tk⟩ s.length) := Lib.hid (by unfold badCopy; dsimp only; omega)
          have HNONE : Hid (expTo l [] = none) := Lib.hid (by rw [HE.out, HDR.out, expTo_cons, if_neg h0, if_pos HBC.out])
          go_wp2
          go_returns
          exact ⟨by rw [HNONE.out]; rfl, HU4.out⟩
        by_cases hx3 : tk < 1
        · have HBC : Hid (badCopy ⟨tb, tl, tk⟩ s.length) := Lib.hid (by unfold badCopy; dsimp only; omega)
          have HNONE : Hid (expTo l [] = none) := Lib.hid (by rw [HE.out, HDR.out, expTo_cons, if_neg h0, if_pos HBC.out])
          go_wp2
          go_returns
          exact ⟨by rw [HNONE.out]; rfl, HU4.out⟩
        by_cases hx4 : 32768 < tk
        · have HBC : Hid (badCopy ⟨tb, tl, tk⟩ s.length) := Lib.hid (by unfold badCopy; dsimp only; omega)
          have HNONE : Hid (expTo l [] = none) := Lib.hid (by rw [HE.out, HDR.out, expTo_cons, if_neg h0, if_pos HBC.out])
          go_wp2
          go_returns
          exact ⟨by rw [HNONE.out]; rfl, HU4.out⟩
        by_cases hx5 : (s.length : Int) < tk
        · have HBC : Hid (badCopy ⟨tb, tl, tk⟩ s.length) := Lib.hid (by unfold badCopy; dsimp only; omega)
          have hxs : ((strOf s).size : Int) < tk := by omega
          have HNONE : Hid (expTo l [] = none) := Lib.hid (by rw [HE.out, HDR.out, expTo_cons, if_neg h0, if_pos HBC.out])
          go_wp2
          go_returns
          exact ⟨by rw [HNONE.out]; rfl, HU4.out⟩
        by_cases hx6 : 65000 < tl + (s.length : Int)
        · have HBC : Hid (badCopy ⟨tb, tl, tk⟩ s.length) := Lib.hid (by unfold badCopy; dsimp only; omega)
          have hwx : IntKind.i64.wrap (tl + (s.length : Int)) = tl + (s.length : Int) := IntWalk.i64_in _ (by omega)
          have HNONE : Hid (expTo l [] = none) := Lib.hid (by rw [HE.out, HDR.out, expTo_cons, if_neg h0, if_pos HBC.out])
          go_wp2
          go_returns
          exact ⟨by rw [HNONE.out]; rfl, HU4.out⟩
        have hwx : IntKind.i64.wrap (tl + (s.length : Int)) = tl + (s.length : Int) := IntWalk.i64_in _ (by omega)
        have HNB : Hid (¬ badCopy ⟨tb, tl, tk⟩ s.length) := Lib.hid (by unfold badCopy; dsimp only; omega)
        obtain ⟨L, rfl⟩ : ∃ L : Nat, tl = (L : Int) := ⟨tl.toNat, by omega⟩
        obtain ⟨K, rfl⟩ : ∃ K : Nat, tk = (K : Int) := ⟨tk.toNat, by omega⟩
        have HE2 : Hid (expTo l [] = expTo (l.drop (i + 1)) (copyN s K L)) := Lib.hid (by rw [HE.out, HDR.out, expTo_cons, if_neg h0, if_neg HNB.out, show (L : Int).toNat = L by omega, show (K : Int).toNat = K by omega])
        have hL : L ≤ 258 := by omega
        have hK1 : 1 ≤ K := by omega
        have hK2 : K ≤ s.length := by omega
        have hLs : L + s.length ≤ 65000 := by omega
        have HCL : Hid (∀ k, (copyN s K k).length = s.length + k) := Lib.hid (copyN_len s K)
        have HCS := Lib.hid (copyN_succ s K)
        go_wp2
        go_loopg [4, 8] 300 (fun gg s4 s8 wq => ∃ k : Nat, k ≤ L ∧ gg = 300 - k ∧ s8 = .int .i64 (k : Nat) ∧ s4 = .string (strOf (copyN s K k)) ∧ wq = w4)
        case atStart => exact ⟨0, by omega, by omega, rfl, rfl, rfl⟩
        case round =>
          obtain ⟨k, hk, rfl, rfl, rfl, hwq⟩ := hrel
          subst hwq
          by_cases hkc : k < L
          · have hkz : (k : Int) < (L : Int) := by omega
            have hcl := HCL.out k
            have hcs := HCS.out k
            rw [hcl] at hcs
            obtain ⟨lo, hlo⟩ : ∃ lo, s.length + k - K = lo := ⟨_, rfl⟩
            rw [hlo] at hcs
            have HCS2 : Hid (strOf (copyN s K (k + 1)) = strOf (copyN s K k) ++ strOf [(copyN s K k).getD lo 0]) := Lib.hid (by rw [hcs, strOf_append])
            have hsub := strOf_sub1 (copyN s K k) lo (by omega)
            have hszc : (strOf (copyN s K k)).size = s.length + k := by rw [size_strOf]; exact hcl
            generalize strOf [(copyN s K k).getD lo 0] = X1 at *
            have hx1 : X1.size ≤ 1 := by rw [← hsub, ByteArray.size_extract]; omega
            generalize strOf (copyN s K k) = SC at *
            obtain ⟨m, hm⟩ : ∃ m, s.length + k = m := ⟨_, rfl⟩
            rw [hm] at hszc hlo
            have hadd : ∀ W', (Op.stringOp .add SC X1).run Try.prog W' = .ok (.string (SC ++ X1)) W' := fun W' => run_string_add_sum _ _ _ (by omega)
            have hwa : IntKind.i64.wrap ((m : Int) - (K : Int)) = (lo : Int) := by rw [IntWalk.i64_in _ (by omega)]; omega
            have hwb : IntKind.i64.wrap ((lo : Int) + 1) = ((lo + 1 : Nat) : Int) := by rw [IntWalk.i64_in _ (by omega)]; rfl
            have hwk : IntKind.i64.wrap ((k : Int) + 1) = ((k + 1 : Nat) : Int) := by rw [IntWalk.i64_in _ (by omega)]; rfl
            have hb1 : (0 : Int) ≤ (lo : Int) := by omega
            have hb2 : ((lo + 1 : Nat) : Int) ≤ (m : Int) := by omega
            have hb3 : (lo : Int) ≤ ((lo + 1 : Nat) : Int) := by omega
            have HM := Lib.hid hm
            clear hcl hcs hlo hm
            go_wp2
            go_roundg (300 - (k + 1))
            · exact ⟨k + 1, by omega, by first | rfl | omega, by first | rfl | go_num, by rw [HCS2.out], rfl⟩
            · omega
          · have hkz : ¬ (k : Int) < (L : Int) := by omega
            obtain rfl : k = L := by omega
            have HS3 : Hid (∀ x ∈ copyN s K k, x < 256) := Lib.hid (copyN_lt s K HS.out k)
            have hl3 : (copyN s K k).length ≤ 65000 := by rw [HCL.out]; omega
            go_wp2
            go_roundg (1000000 - (i + 1))
            · exact ⟨i + 1, copyN s K k, by omega, rfl, by first | rfl | go_num, rfl, hl3, HS3, HE2, HU4⟩
            · omega
    · have hcz : ¬ (i : Int) < (n : Int) := by omega
      obtain rfl : i = n := by omega
      have HS2 : Hid (expTo l [] = some s) := Lib.hid (by rw [HE.out, List.drop_of_length_le (by rw [HLN.out]; exact Nat.le_refl _)]; rfl)
      go_wp2
      go_returns
      exact ⟨by rw [HS2.out]; rfl, HU.out⟩
end Go.Proofs.Ytdehkaknbmbieaa
namespace Go.Proofs.Ytdehkaknbmbieaa
set_option linter.unusedVariables false
set_option linter.unusedSimpArgs false
set_option linter.unusedSectionVars false
open Go.RowKit
set_option linter.unusedVariables false
set_option linter.unusedSimpArgs false

def mid (x : Int) : Nat := (max 0 (min x 300)).toNat
theorem mid_le (x : Int) : mid x ≤ 300 := by unfold mid; omega
def midS : List Tok → Nat
  | [] => 0
  | t :: r => mid t.long + midS r
theorem midS_snoc (l : List Tok) (t : Tok) : midS (l ++ [t]) = midS l + mid t.long := by
  induction l with
  | nil => simp [midS]
  | cons u l ih => rw [List.cons_append, midS, midS, ih]; omega
theorem midS_le (l : List Tok) : midS l ≤ 300 * l.length := by
  induction l with
  | nil => simp [midS]
  | cons u l ih => have := mid_le u.long; rw [midS, List.length_cons]; omega
/-- At most 100 tokens that make at most 3000 bytes, and may be? -/
def lightB (l : List Tok) : Bool := decide (l.length ≤ 100) && decide (midS l ≤ 3000) && (expTo l []).isSome
end Go.Proofs.Ytdehkaknbmbieaa

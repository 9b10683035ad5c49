/- Package deflate: Of, Stored, Most: their walks; what they lay is read. -/
import Derived.Test.YtdehkaknbmbieaaGreatLzM
import Derived.Test.YtdehkaknbmbieaaGreatQBM
import Derived.Test.YtdehkaknbmbieaaGreatQBQ
import Derived.Lib.MinMax
import Derived.Test.YtdehkaknbmbieaaGreatQAS
import Derived.Test.YtdehkaknbmbieaaGreatQBO
import Derived.Test.YtdehkaknbmbieaaGreatQBP
namespace Go.Proofs.YtdehkaknbmbieaaGreat
set_option linter.unusedVariables false
set_option linter.unusedSimpArgs false
set_option linter.unusedSectionVars false
open Go.RowKit
attribute [local go_sem] Oper.semAt_some
set_option linter.unusedVariables false
set_option linter.unusedSimpArgs false

theorem Row.cap {w : World} {e : TypeId} {size n n' c : Nat} {a : Option Addr} {xs : List Value} (h : Row w e size (.slice a n' c) n xs) : c ≤ 9223372036854775807 := by
  rcases h.2 with ⟨hv, h0⟩ | ⟨g, cap, cur, hv, hb, hg, hc, hm, _⟩
  · cases hv; omega
  · cases hv; unfold maxLen at hm; omega
/-- What is read again of X. -/
def BackP (S X : ByteArray) : Prop := ∀ most : Int, S.size ≤ capI most → ofP X most = .ok (bytesOf S, 8 * X.size) ∨ ∃ m : Nat, ofP X most = .ok (bytesOf S, m) ∧ (m + 7) / 8 = X.size
theorem BackP.val {S X : ByteArray} (h : BackP S X) (most : Int) (hm : S.size ≤ capI most) : ofVal (ofP X most) = .tuple #[.string S, .int .i64 (X.size : Nat), .int .i64 0] := by
  rcases h most hm with e | ⟨m, e, hx⟩
  · rw [e]
    show Value.tuple #[.string (strOf (bytesOf S)), .int .i64 (((8 * X.size + 7) / 8 : Nat) : Int), .int .i64 0] = _
    rw [strOf_bytesOf, show (8 * X.size + 7) / 8 = X.size by omega]
  · rw [e]
    show Value.tuple #[.string (strOf (bytesOf S)), .int .i64 (((m + 7) / 8 : Nat) : Int), .int .i64 0] = _
    rw [strOf_bytesOf, hx]
theorem rt_back {S : ByteArray} {l : List Tok} {KK : List Tok → Nat → Prop} (hS : S.size ≤ 65000) (hok : ∀ t ∈ l, okTok t) (he : expTo l [] = some (bytesOf S)) {M : List Bool} (h : RT (bytesOf S) l KK (rowsN l.length) M) : BackP S (strOf (pack M)) := fun most hm =>
  .inr ⟨M.length, laid_back hok (bytesOf_lt S) (by rw [length_bytesOf]; exact hS) he h most (by rw [length_bytesOf]; exact hm), (size_pack M).symm⟩
theorem rowsN_mono {a b : Nat} (h : a ≤ b) : rowsN a ≤ rowsN b := by unfold rowsN; split <;> split <;> omega
/-- What deflate.Of gives. -/
def DOfP (S : ByteArray) (w : World) (e : Ending) (w' : World) : Prop := ∃ X : ByteArray, e = .returned (.string X) ∧ BackP S X ∧ X.size ≤ S.size + 6 * rowsN S.size ∧ (S.size ≤ 8000 → X.size ≤ S.size + 5) ∧ Upd [] w w'
theorem exp_size {S : ByteArray} {l : List Tok} (hok : ∀ t ∈ l, okTok t) (he : expTo l [] = some (bytesOf S)) : S.size = expLen l := by
  have h := exp_length l [] _ hok he
  rw [length_bytesOf, List.length_nil, Nat.zero_add] at h
  exact h
theorem dof_end {S : ByteArray} {l : List Tok} {M : List Bool} (hS : S.size ≤ 65000) (hok : ∀ t ∈ l, okTok t) (he : expTo l [] = some (bytesOf S)) (hl : l.length ≤ S.size) (h : RT (bytesOf S) l BestK (rowsN l.length) M) :
    (strOf (pack M)).size ≤ S.size + 6 * rowsN S.size ∧ (S.size ≤ 8000 → (strOf (pack M)).size ≤ S.size + 5) := by
  have hs := exp_size hok he
  have h1 := laid_len hok (by rw [length_bytesOf]; exact hS) h
  rw [rowsB_all] at h1
  have h2 := rowsN_mono hl
  have h3 := rowsN_pos S.size
  have h4 := rowsN_pos l.length
  rw [size_pack]
  refine ⟨by omega, fun hx => ?_⟩
  have h5 : rowsN l.length = 1 := by
    have : rowsN S.size = 1 := by unfold rowsN; split <;> omega
    omega
  have := h1.2 h5
  omega
set_option maxRecDepth 100000 in
set_option maxHeartbeats 3200000 in
theorem dof_any (S : ByteArray) (lv : Int) (w : World) (hs : S.size ≤ 65000) (hlv : -9223372036854775808 ≤ lv ∧ lv ≤ 9223372036854775807) :
    Calls Tryz.prog 16 #[.string S, .int .i64 lv] w fun e w' => DOfP S w e w' := by
  have hsz : ¬ (65000 : Int) < (S.size : Int) := by omega
  go_enter Tryz.func16, Tryz.ntmps16
  go_wp2_with fail
  refine (lzmatch_any S lv _ hs hlv).mono ?_
  rintro e w1 ⟨v, l, rfl, hR, hok, he, hl, hO, hU1⟩
  obtain ⟨a, c, rfl, hT, -, ha, hc⟩ := TokIn.of_row hR (fun t ht => by
    have := hok t ht
    unfold okTok at this
    omega)
  have HU1 := Lib.hid hU1
  have HE := Lib.hid he
  have HOK := Lib.hid hok
  have HL := Lib.hid hl
  have HLD := Lib.hid (laid_any S l a l.length c 38 BestK w1 hT ha hc hR.cap (exp_size hok he) hs hok best_kind best_enters)
  clear hU1 hR hO hT ha he hok hl
  go_wp2_with fail
  refine HLD.out.mono ?_
  rintro e w2 ⟨M, hM, rfl, hU2⟩
  have HU2 := Lib.hid (HU1.out.then hU2)
  have HM := Lib.hid hM
  clear hM hU2 HLD
  go_wp2
  go_ret
  have hd := dof_end hs HOK.out HE.out HL.out HM.out
  exact ⟨_, rfl, rt_back hs HOK.out HE.out HM.out, hd.1, hd.2, HU2.out⟩
theorem stored_kind : KindOk 36 (fun _ k => k = 0) := fun r a n c w hI hn hok => by
  go_enter Tryz.func36, Tryz.ntmps36
  go_wp2
  go_ret
  exact ⟨0, rfl, by omega, rfl, Upd.refl _ _⟩
theorem stored_enters : ∀ args w, (callFunc 36 args).run Tryz.prog w = .ok (.enter 36 args) w := enters_of Tryz.func36 (by kernel_rfl) rfl
/-- What deflate.Stored gives. -/
def DStP (S : ByteArray) (w : World) (e : Ending) (w' : World) : Prop := ∃ X : ByteArray, e = .returned (.string X) ∧ BackP S X ∧ (S.size ≤ 8000 → X.size = S.size + 5) ∧ X.size ≤ 1000000 ∧ Upd [] w w'
set_option maxRecDepth 100000 in
set_option maxHeartbeats 3200000 in
theorem dstored_any (S : ByteArray) (w : World) (hs : S.size ≤ 65000) :
    Calls Tryz.prog 15 #[.string S] w fun e w' => DStP S w e w' := by
  have hsz : ¬ (65000 : Int) < (S.size : Int) := by omega
  go_enter Tryz.func15, Tryz.ntmps15
  go_wp2_with fail
  refine (lzplain_any S _ hs).mono ?_
  rintro e w1 ⟨v, rfl, hR, hO, hU1⟩
  have hok : ∀ t ∈ plainT (bytesOf S), okTok t := plainT_ok (bytesOf_lt S)
  have he : expTo (plainT (bytesOf S)) [] = some (bytesOf S) := by have := exp_plainT (bytesOf S) [] (by rw [length_bytesOf]; simpa using hs); simpa using this
  have hpl : (plainT (bytesOf S)).length = (bytesOf S).length := List.length_map _
  rw [← hpl] at hR
  obtain ⟨a, c, rfl, hT, -, ha, hc⟩ := TokIn.of_row hR (fun t ht => by
    have := hok t ht
    unfold okTok at this
    omega)
  have HU1 := Lib.hid hU1
  have HE := Lib.hid he
  have HOK := Lib.hid hok
  have HLD := Lib.hid (laid_any S (plainT (bytesOf S)) a (plainT (bytesOf S)).length c 36 (fun _ k => k = 0) w1 hT ha hc hR.cap (exp_size hok he) hs hok stored_kind stored_enters)
  obtain ⟨l, hl⟩ : ∃ l, plainT (bytesOf S) = l := ⟨_, rfl⟩
  have HL := Lib.hid hl
  rw [hl] at HLD HE HOK
  clear hU1 hR hO hT ha he hok hpl
  rw [hl]
  clear hl
  go_wp2_with fail
  refine HLD.out.mono ?_
  rintro e w2 ⟨M, hM, rfl, hU2⟩
  have HU2 := Lib.hid (HU1.out.then hU2)
  have HM := Lib.hid hM
  clear hM hU2 HLD
  go_wp2
  go_ret
  refine ⟨_, rfl, rt_back hs HOK.out HE.out HM.out, fun hx => ?_, ?_, HU2.out⟩
  · rw [size_pack, stored_len (bs := bytesOf S) (by rw [length_bytesOf]; exact hx) (by rw [HL.out]; exact HM.out), length_bytesOf]
    omega
  · have h1 := stored_max HM.out
    rw [rowsB_all, ← exp_size HOK.out HE.out] at h1
    have h2 : l.length ≤ 65000 := by rw [← HL.out]; unfold plainT; rw [List.length_map, length_bytesOf]; exact hs
    have h3 : rowsN l.length ≤ 9 := by unfold rowsN; split <;> omega
    rw [size_pack]
    omega
def mostK (n : Int) : Nat := (max 0 (min n 65000)).toNat
theorem dmost_any (n : Int) (w : World) :
    Calls Tryz.prog 17 #[.int .i64 n] w fun e w' => e = .returned (.int .i64 (mostK n + 6 * rowsN (mostK n) : Nat)) ∧ w' = w := by
  obtain ⟨k, hk⟩ : ∃ k : Nat, max 0 (min n 65000) = (k : Int) := ⟨(max 0 (min n 65000)).toNat, by omega⟩
  have hmk : mostK n = k := by unfold mostK; rw [hk]; rfl
  rw [hmk]
  have hk65 : k ≤ 65000 := by omega
  have h1 : IntKind.i64.wrap ((k : Int) + 8000) = (k : Int) + 8000 := by rw [IntWalk.i64_in _ (by omega)]
  have h2 : IntKind.i64.wrap ((k : Int) + 8000 - 1) = (k : Int) + 7999 := by rw [IntWalk.i64_in _ (by omega)]; omega
  have HRN : Hid (max 1 (((k : Int) + 7999) / 8000) = (rowsN k : Nat)) := Lib.hid (by unfold rowsN; split <;> omega)
  have hrb : rowsN k ≤ 9 := by unfold rowsN; split <;> omega
  have HK := Lib.hid hk
  go_enter Tryz.func17, Tryz.ntmps17
  go_wp2
  go_ret
  refine ⟨?_, rfl⟩
  show Ending.returned (.int .i64 ((k : Int) + 6 * max 1 (((k : Int) + 7999) / 8000))) = _
  rw [HRN.out]
  rfl
end Go.Proofs.YtdehkaknbmbieaaGreat
namespace Go.Proofs.YtdehkaknbmbieaaGreat
set_option linter.unusedVariables false
set_option linter.unusedSimpArgs false
set_option linter.unusedSectionVars false
open Go.RowKit
set_option linter.unusedVariables false

instance (n i : Nat) : Decidable (isL n i) := by unfold isL; infer_instance
theorem bits_hit : ∀ n : Fin 259, 3 ≤ n.val → longB ((257 + (findL n.val 29 0).getD 0 : Nat) : Int) = ((lBits.getD ((findL n.val 29 0).getD 0) 0 : Nat) : Int) := by decide +kernel
theorem bits_miss : ∀ c : Fin 300, longB (c.val : Nat) = -1 ∨ (257 ≤ c.val ∧ 3 ≤ lAt.getD (c.val - 257) 0 ∧ lAt.getD (c.val - 257) 0 ≤ 258 ∧ findL (lAt.getD (c.val - 257) 0) 29 0 = some (c.val - 257)) := by decide +kernel
theorem of_hit : ∀ n : Fin 259, 3 ≤ n.val → longN ((257 + (findL n.val 29 0).getD 0 : Nat) : Int) ((n.val - lAt.getD ((findL n.val 29 0).getD 0) 0 : Nat) : Int) = some n.val := by decide +kernel
theorem of_miss0 : ∀ c : Fin 300, ∀ m : Fin 32, longN (c.val : Nat) (m.val : Nat) = none ∨ ((longN (c.val : Nat) (m.val : Nat)).isSome = true ∧ (longN (c.val : Nat) (m.val : Nat)).getD 0 < 259 ∧ 3 ≤ (longN (c.val : Nat) (m.val : Nat)).getD 0 ∧ 257 ≤ c.val ∧
    findL ((longN (c.val : Nat) (m.val : Nat)).getD 0) 29 0 = some (c.val - 257) ∧ (longN (c.val : Nat) (m.val : Nat)).getD 0 - lAt.getD (c.val - 257) 0 = m.val) := by decide +kernel
theorem of_miss (c : Fin 300) (m : Fin 32) : longN (c.val : Nat) (m.val : Nat) = none ∨ ∃ v : Nat, v < 259 ∧ longN (c.val : Nat) (m.val : Nat) = some v ∧ 3 ≤ v ∧ 257 ≤ c.val ∧ findL v 29 0 = some (c.val - 257) ∧ v - lAt.getD (c.val - 257) 0 = m.val := by
  rcases of_miss0 c m with h | ⟨h0, h1, h2, h3, h4, h5⟩
  · exact .inl h
  · obtain ⟨v, hv⟩ := Option.isSome_iff_exists.1 h0
    rw [hv] at h1 h2 h4 h5
    exact .inr ⟨v, h1, hv, h2, h3, h4, h5⟩

set_option maxRecDepth 100000 in
set_option maxHeartbeats 3200000 in
theorem rlongBits_any (c : Nat) (w : World) (hc : c < 300) : Calls Tryz.prog 64 #[.int .i64 (c : Nat)] w fun e w' => e = .returned (.int .i64 (longB (c : Nat))) ∧ Upd [] w w' := by
  have HM := Lib.hid (bits_miss ⟨c, hc⟩)
  have HB := Lib.hid (show longB (c : Nat) = longB (c : Nat) from rfl)
  obtain ⟨r, hr⟩ : ∃ r, r = longB (c : Nat) := ⟨_, rfl⟩
  have HR := Lib.hid hr
  rw [← hr]
  clear hr HB
  go_enter Tryz.func64, Tryz.ntmps64
  go_wp2
  go_loopg [3] 256 (fun g s3 wr => ∃ n, 3 ≤ n ∧ n ≤ 259 ∧ g = 259 - n ∧ s3 = .int .i64 (n : Nat) ∧ Hid (∀ j, 3 ≤ j → j < n → ∀ i, findL j 29 0 = some i → 257 + i ≠ c) ∧ Upd [] w wr)
  case atStart => exact ⟨3, by omega, by omega, rfl, rfl, Lib.hid (fun j h1 h2 => by omega), .refl _ _⟩
  case round =>
    obtain ⟨n, h3, h259, rfl, rfl, HN, hU⟩ := hrel
    by_cases hn : n ≤ 258
    · have hnz : (n : Int) ≤ 258 := by omega
      have HL := Lib.hid (rlong_any n wr h3 hn)
      go_wp2_with fail
      refine HL.out.mono ?_
      rintro e w2 ⟨i, hi, rfl, hU2⟩
      have hbh := bits_hit ⟨n, by omega⟩ h3
      dsimp only at hbh
      rw [hi] at hbh
      simp only [Option.getD_some] at hbh
      have HBH := Lib.hid hbh
      have HI := Lib.hid hi
      clear hbh hi
      unfold longV
      generalize lBits.getD i 0 = bb at *
      generalize n - lAt.getD i 0 = mm at *
      by_cases hcc : 257 + i = c
      · have t1 : ((257 : Int) + (i : Int) == (c : Int)) = true := by simp; omega
        go_wp2
        go_returns
        refine ⟨?_, hU.then (hU2.alloc _)⟩
        rw [HR.out, ← hcc, HBH.out]; rfl
      · have t1 : ((257 : Int) + (i : Int) == (c : Int)) = false := by simp; omega
        go_wp2
        go_roundg (259 - (n + 1))
        · refine ⟨n + 1, by omega, by omega, rfl, by first | rfl | go_num, Lib.hid ?_, hU.then (hU2.alloc _)⟩
          intro j h1 h2 i' hj
          by_cases hjn : j < n
          · exact HN.out j h1 hjn i' hj
          · have : j = n := by omega
            subst this
            rw [HI.out] at hj
            cases hj
            exact hcc
        · omega
    · have hnz : ¬ (n : Int) ≤ 258 := by omega
      go_wp2
      go_returns
      refine ⟨?_, hU⟩
      rw [HR.out]
      rcases HM.out with h | ⟨h1, h2, h3', h4⟩
      · rw [h]; rfl
      · exact absurd (by omega) (HN.out _ h2 (by omega) _ h4)

set_option maxRecDepth 100000 in
set_option maxHeartbeats 3200000 in
theorem rlongOf_any (c m : Nat) (w : World) (hc : c < 300) (hm : m < 32) : Calls Tryz.prog 65 #[.int .i64 (c : Nat), .int .i64 (m : Nat)] w fun e w' => e = .returned (optVal (longN (c : Nat) (m : Nat))) ∧ Upd [] w w' := by
  have HM := Lib.hid (of_miss ⟨c, hc⟩ ⟨m, hm⟩)
  obtain ⟨r, hr⟩ : ∃ r, r = longN (c : Nat) (m : Nat) := ⟨_, rfl⟩
  have HR := Lib.hid hr
  rw [← hr]
  clear hr
  go_enter Tryz.func65, Tryz.ntmps65
  go_wp2
  go_loopg [6] 256 (fun g s6 wr => ∃ n, 3 ≤ n ∧ n ≤ 259 ∧ g = 259 - n ∧ s6 = .int .i64 (n : Nat) ∧ Hid (∀ j, 3 ≤ j → j < n → ∀ i, findL j 29 0 = some i → ¬ (257 + i = c ∧ j - lAt.getD i 0 = m)) ∧ Upd [] w wr)
  case atStart => exact ⟨3, by omega, by omega, rfl, rfl, Lib.hid (fun j h1 h2 => by omega), .refl _ _⟩
  case round =>
    obtain ⟨n, h3, h259, rfl, rfl, HN, hU⟩ := hrel
    by_cases hn : n ≤ 258
    · have hnz : (n : Int) ≤ 258 := by omega
      have HL := Lib.hid (rlong_any n wr h3 hn)
      go_wp2_with fail
      refine HL.out.mono ?_
      rintro e w2 ⟨i, hi, rfl, hU2⟩
      have hbh := of_hit ⟨n, by omega⟩ h3
      dsimp only at hbh
      rw [hi] at hbh
      simp only [Option.getD_some] at hbh
      have HBH := Lib.hid hbh
      have HI := Lib.hid hi
      clear hbh hi
      unfold longV
      generalize lBits.getD i 0 = bb at *
      obtain ⟨mm, hmm⟩ : ∃ mm, mm = n - lAt.getD i 0 := ⟨_, rfl⟩
      rw [← hmm] at HBH ⊢
      have HMM := Lib.hid hmm
      clear hmm
      have next : ¬ (257 + i = c ∧ mm = m) → Hid (∀ j, 3 ≤ j → j < n + 1 → ∀ i, findL j 29 0 = some i → ¬ (257 + i = c ∧ j - lAt.getD i 0 = m)) := fun hcc => Lib.hid (by
        intro j h1 h2 i' hj
        by_cases hjn : j < n
        · exact HN.out j h1 hjn i' hj
        · have : j = n := by omega
          subst this
          rw [HI.out] at hj
          cases hj
          rw [← HMM.out]
          exact hcc)
      have NEXT := Lib.hid next
      clear next
      by_cases hcc : 257 + i = c
      · have t1 : ((257 : Int) + (i : Int) == (c : Int)) = true := by simp; omega
        by_cases hm2 : mm = m
        · have t2 : ((mm : Int) == (m : Int)) = true := by simp; omega
          have t2' : (mm == m) = true := by simp [hm2]
          go_wp2
          go_returns
          refine ⟨?_, hU.then (hU2.alloc _)⟩
          rw [HR.out, ← hcc, ← hm2, HBH.out]
          rfl
        · have t2 : ((mm : Int) == (m : Int)) = false := by simp; omega
          have t2' : (mm == m) = false := by simp [hm2]
          go_wp2
          go_roundg (259 - (n + 1))
          · exact ⟨n + 1, by omega, by omega, rfl, by first | rfl | go_num, NEXT.out (fun h => hm2 h.2), hU.then (hU2.alloc _)⟩
          · omega
      · have t1 : ((257 : Int) + (i : Int) == (c : Int)) = false := by simp; omega
        go_wp2
        go_roundg (259 - (n + 1))
        · exact ⟨n + 1, by omega, by omega, rfl, by first | rfl | go_num, NEXT.out (fun h => hcc h.1), hU.then (hU2.alloc _)⟩
        · omega
    · have hnz : ¬ (n : Int) ≤ 258 := by omega
      go_wp2
      go_returns
      refine ⟨?_, hU⟩
      rw [HR.out]
      rcases HM.out with h | ⟨v, hv, h1, h2, h3', h4, h5⟩
      · rw [h]; rfl
      · exact absurd ⟨by omega, h5⟩ (HN.out _ h2 (by omega) _ h4)
end Go.Proofs.YtdehkaknbmbieaaGreat
namespace Go.Proofs.YtdehkaknbmbieaaGreat
set_option linter.unusedVariables false
set_option linter.unusedSimpArgs false
set_option linter.unusedSectionVars false
open Go.RowKit
set_option linter.unusedVariables false

def bAt : List Nat := [1, 2, 3, 4, 5, 7, 9, 13, 17, 25, 33, 49, 65, 97, 129, 193, 257, 385, 513, 769, 1025, 1537, 2049, 3073, 4097, 6145, 8193, 12289, 16385, 24577, 32769]
theorem back_bits : ∀ c : Fin 30, backB (c.val : Nat) = max 0 (((c.val / 2 : Nat) : Int) - 1) := by decide +kernel
theorem back_out (c : Nat) (h : 30 ≤ c) : backB (c : Nat) = -1 := by unfold backB sbitsI; rw [if_pos (.inr (by omega))]
theorem back_fact : ∀ c : Fin 30, sbitsI 2 4 30 (c.val : Nat) ≠ -1 ∧ (2 : Int) ^ (sbitsI 2 4 30 (c.val : Nat)).toNat = ((bAt.getD (c.val + 1) 0 - bAt.getD c.val 0 : Nat) : Int) ∧ sbeg 1 2 4 30 c.val = bAt.getD c.val 0 ∧ bAt.getD c.val 0 ≤ bAt.getD (c.val + 1) 0 ∧ bAt.getD (c.val + 1) 0 ≤ 32769 := by decide +kernel

set_option maxRecDepth 100000 in
set_option maxHeartbeats 1600000 in
theorem rbackBits_any (c : Nat) (w : World) (hc : c < 300) : Calls Tryz.prog 67 #[.int .i64 (c : Nat)] w fun e w' => e = .returned (.int .i64 (backB (c : Nat))) ∧ Upd [] w w' := by
  by_cases h : c ≤ 29
  · have hf := back_bits ⟨c, by omega⟩
    have HF := Lib.hid hf
    clear hf
    have t1 : decide ((29 : Int) < (c : Int)) = false := decide_eq_false (by omega)
    have t2 : decide (29 < c) = false := decide_eq_false (by omega)
    have q1 : (c : Int).tdiv 2 = ((c / 2 : Nat) : Int) := by rw [Int.tdiv_eq_ediv_of_nonneg (by omega)]; omega
    have q1' : (c : Int) / 2 = ((c / 2 : Nat) : Int) := by omega
    obtain ⟨d, hd⟩ : ∃ d, d = c / 2 := ⟨_, rfl⟩
    rw [← hd] at q1 q1'
    have HD := Lib.hid hd
    have hd2 : d ≤ 14 := by omega
    clear hd
    have q2 : IntKind.i64.wrap ((d : Int) - 1) = (d : Int) - 1 := IntWalk.i64_in _ (by omega)
    go_enter Tryz.func67, Tryz.ntmps67
    go_wp2
    go_returns
    refine ⟨?_, .refl _ _⟩
    rw [HF.out, ← HD.out]
    rfl
  · have hf := Lib.hid (back_out c (by omega))
    have t1 : decide ((29 : Int) < (c : Int)) = true := decide_eq_true (by omega)
    have t2 : decide (29 < c) = true := decide_eq_true (by omega)
    go_enter Tryz.func67, Tryz.ntmps67
    go_wp2
    go_returns
    exact ⟨by rw [hf.out]; rfl, .refl _ _⟩

set_option maxRecDepth 100000 in
set_option maxHeartbeats 1600000 in
theorem rbackOf_any (c m : Nat) (w : World) (hc : c < 300) (hm : m < 1000000) : Calls Tryz.prog 68 #[.int .i64 (c : Nat), .int .i64 (m : Nat)] w fun e w' => e = .returned (optVal (numS 1 2 4 30 (c : Nat) (m : Nat))) ∧ Upd [] w w' := by
  by_cases h : c ≤ 29
  · obtain ⟨f1, f2, f3, f4, f5⟩ := back_fact ⟨c, by omega⟩
    dsimp only at f1 f2 f3 f4 f5
    have hget : ∀ j, j < 31 → bAt[j]? = some (bAt.getD j 0) := fun j h => by rw [List.getD, List.getElem?_eq_getElem (show j < bAt.length from h)]; rfl
    have g1 := hget c (by omega)
    have g2 := hget (c + 1) (by omega)
    have hn : numS 1 2 4 30 (c : Nat) (m : Nat) = if m < bAt.getD (c + 1) 0 - bAt.getD c 0 then some (bAt.getD c 0 + m) else none := by
      unfold numS
      rw [f2, Int.toNat_natCast, Int.toNat_natCast, f3]
      by_cases hlt : m < bAt.getD (c + 1) 0 - bAt.getD c 0
      · rw [if_neg (by omega), if_pos hlt]
      · rw [if_pos (by omega), if_neg hlt]
    have HN := Lib.hid hn
    have G1 := Lib.hid g1
    have G2 := Lib.hid g2
    clear f1 f2 f3 g1 g2 hn hget
    generalize bAt.getD (c + 1) 0 = q at *
    generalize bAt.getD c 0 = p at *
    have t1 : decide ((29 : Int) < (c : Int)) = false := decide_eq_false (by omega)
    have t2 : decide (29 < c) = false := decide_eq_false (by omega)
    have hc31 : (c : Int) < 31 := by omega
    have hc32 : (c : Int) + 1 < 31 := by omega
    have hc0 : (0 : Int) ≤ (c : Int) + 1 := by omega
    have e1 : IntKind.i64.wrap ((q : Int) - (p : Int)) = (q : Int) - (p : Int) := IntWalk.i64_in _ (by omega)
    have e2 : IntKind.i64.wrap ((c : Int) + 1) = (c : Int) + 1 := IntWalk.i64_in _ (by omega)
    have e3 : ((c : Int) + 1).toNat = c + 1 := by omega
    have t4 : decide ((c : Int) < 0) = false := decide_eq_false (by omega)
    have t5 : decide ((m : Int) < 0) = false := decide_eq_false (by omega)
    have t6 : (0 : Int) ≤ (c : Int) := by omega
    go_enter Tryz.func68, Tryz.ntmps68
    go_upto_region 2 with fail
    have hB := Blk.new w (i64s bAt) 3
    have hU : Upd [] w (w.alloc (.cells (i64s bAt).toArray 3)) := (Upd.refl [] w).alloc _
    change Code.wp _ _ _ _ (w.alloc (.cells (i64s bAt).toArray 3))
    generalize w.alloc (.cells (i64s bAt).toArray 3) = w1 at *
    have d1 := hB.cell c (i64s_get _ _ _ G1.out)
    have d2 := hB.cell (c + 1) (i64s_get _ _ _ G2.out)
    clear hB
    have HU := Lib.hid hU
    clear hU
    generalize w.heap.size = wb at *
    by_cases hlt : m < q - p
    · have t3 : decide ((q : Int) - (p : Int) ≤ (m : Int)) = false := decide_eq_false (by omega)
      go_wp2
      go_quiet (fail)
      go_wp2
      go_returns
      exact ⟨by rw [HN.out, if_pos hlt]; rfl, HU.out.drewN _⟩
    · have t3 : decide ((q : Int) - (p : Int) ≤ (m : Int)) = true := decide_eq_true (by omega)
      go_wp2
      go_quiet (fail)
      go_wp2
      go_returns
      exact ⟨by rw [HN.out, if_neg hlt]; rfl, HU.out.drewN _⟩
  · have hn : numS 1 2 4 30 (c : Nat) (m : Nat) = none := by
      unfold numS
      rw [if_pos (.inl (by have := back_out c (by omega); unfold backB at this; exact this))]
    have HN := Lib.hid hn
    clear hn
    have t1 : decide ((29 : Int) < (c : Int)) = true := decide_eq_true (by omega)
    have t2 : decide (29 < c) = true := decide_eq_true (by omega)
    have t4 : decide ((c : Int) < 0) = false := decide_eq_false (by omega)
    go_enter Tryz.func68, Tryz.ntmps68
    go_upto_region 2 with fail
    have hU : Upd [] w (w.alloc (.cells (i64s bAt).toArray 3)) := (Upd.refl [] w).alloc _
    change Code.wp _ _ _ _ (w.alloc (.cells (i64s bAt).toArray 3))
    generalize w.alloc (.cells (i64s bAt).toArray 3) = w1 at *
    generalize w.heap.size = wb at *
    have HU := Lib.hid hU
    clear hU
    go_wp2
    go_quiet (fail)
    go_wp2
    go_returns
    exact ⟨by rw [HN.out]; rfl, HU.out.drewN _⟩
end Go.Proofs.YtdehkaknbmbieaaGreat
namespace Go.Proofs.YtdehkaknbmbieaaGreat
set_option linter.unusedVariables false
set_option linter.unusedSimpArgs false
set_option linter.unusedSectionVars false
open Go.RowKit
set_option linter.unusedVariables false

/-- The first N bytes of both are the same. -/
structure Agree (N : Nat) (s s' : ByteArray) : Prop where
  le : N ≤ s.size
  le' : N ≤ s'.size
  eq : (bytesOf s).take N = (bytesOf s').take N
theorem textBits_append (a b : List Nat) : textBits (a ++ b) = textBits a ++ textBits b := by simp [textBits]
theorem textBits_take8 (l : List Nat) (N : Nat) (h : N ≤ l.length) : (textBits l).take (8 * N) = textBits (l.take N) := by
  have e : textBits l = textBits (l.take N) ++ textBits (l.drop N) := by rw [← textBits_append, List.take_append_drop]
  rw [e, List.take_left']
  rw [length_textBits, List.length_take]; omega
theorem Agree.bits {N : Nat} {s s' : ByteArray} (h : Agree N s s') : (sbits s).take (8 * N) = (sbits s').take (8 * N) := by
  unfold sbits
  rw [textBits_take8 _ _ (by rw [length_bytesOf]; exact h.le), textBits_take8 _ _ (by rw [length_bytesOf]; exact h.le'), h.eq]
/-- What r tells, r' tells too, if it ends within N bytes; if s' ends there, too, and r doesn't, r' tells that. -/
def Tr {α : Type} (N : Nat) (s' : ByteArray) (r r' : Except Nat (α × Nat)) : Prop :=
  ∀ v a', r = .ok (v, a') → (a' ≤ 8 * N → r' = .ok (v, a')) ∧ (N = s'.size → 8 * N < a' → r' = .error 3)
theorem Tr.bind {α β : Type} {N : Nat} {s' : ByteArray} {x x' : Except Nat (α × Nat)} {f f' : α × Nat → Except Nat (β × Nat)} (hx : Tr N s' x x')
    (hf : ∀ v a1, x = .ok (v, a1) → a1 ≤ 8 * N → Tr N s' (f (v, a1)) (f' (v, a1))) (hm : ∀ v a1 u a2, x = .ok (v, a1) → f (v, a1) = .ok (u, a2) → a1 ≤ a2) : Tr N s' (x >>= f) (x' >>= f') := by
  intro u a2 h
  obtain ⟨⟨v, a1⟩, h1, h2⟩ := bind_ok h
  have hle := hm v a1 u a2 h1 h2
  obtain ⟨e1, e2⟩ := hx v a1 h1
  by_cases hc : a1 ≤ 8 * N
  · rw [e1 hc]
    exact hf v a1 h1 hc u a2 h2
  · refine ⟨fun h => by omega, fun hN _ => ?_⟩
    rw [e2 hN (by omega)]; rfl
theorem Tr.map {α β : Type} {N : Nat} {s' : ByteArray} {x x' : Except Nat (α × Nat)} {f : α × Nat → β × Nat} (hx : Tr N s' x x') (hf : ∀ r, (f r).2 = r.2) : Tr N s' (x.map f) (x'.map f) := by
  intro u a2 h
  obtain ⟨⟨v, a1⟩, h1, h2⟩ := map_ok h
  obtain ⟨e1, e2⟩ := hx v a1 h1
  have := hf (v, a1)
  rw [h2] at this
  simp only at this
  subst this
  refine ⟨fun h => ?_, fun hN hlt => ?_⟩
  · rw [e1 h]; show Except.ok (f (v, a2)) = _; rw [h2]
  · rw [e2 hN hlt]; rfl
section
variable {N : Nat} {s s' : ByteArray} (hA : Agree N s s')
include hA
end
end Go.Proofs.YtdehkaknbmbieaaGreat
namespace Go.Proofs.YtdehkaknbmbieaaGreat
set_option linter.unusedVariables false
set_option linter.unusedSimpArgs false
set_option linter.unusedSectionVars false
open Go.RowKit
set_option linter.unusedVariables false

theorem Tr.pure {α : Type} {N : Nat} {s' : ByteArray} {v : α} {a : Nat} (ha : a ≤ 8 * N) : Tr N s' (.ok (v, a)) (.ok (v, a)) := by
  intro u a2 h
  cases h
  exact ⟨fun _ => rfl, fun _ h => by omega⟩
section
variable {N : Nat} {s s' : ByteArray} (hA : Agree N s s')
include hA
omit hA in
theorem rowP_bind (l : List Int) (t : ByteArray) (many f : Nat) (L : List Nat) (a : Nat) (h : L.length < many) : rowP l t many (f + 1) L a = nextP l t a >>= fun r => oneP t r.1 L r.2 >>= fun q => if q.1.1 ≤ many - L.length then rowP l t many f (L ++ List.replicate q.1.1 q.1.2) q.2 else .error 2 := by
  simp only [rowP]
  rw [if_pos h]
  cases nextP l t a with
  | error c => rfl
  | ok r =>
    show (match oneP t r.1 L r.2 with | .error c => _ | .ok q => _) = (oneP t r.1 L r.2 >>= _)
    cases oneP t r.1 L r.2 with
    | error c => rfl
    | ok q => rfl
omit hA in
theorem firstP_bind (t : ByteArray) (m i : Nat) (L : List Nat) (a : Nat) : firstP t (m + 1) i L a = takeP t a 3 >>= fun r => firstP t m (i + 1) (L.set (orderL.getD i 0) r.1) r.2 := by
  simp only [firstP]
  cases takeP t a 3 <;> rfl
end
end Go.Proofs.YtdehkaknbmbieaaGreat
namespace Go.Proofs.YtdehkaknbmbieaaGreat
set_option linter.unusedVariables false
set_option linter.unusedSimpArgs false
set_option linter.unusedSectionVars false
open Go.RowKit
set_option linter.unusedVariables false

/-- What r makes, r' makes too, if there is room for it; else r' tells that there is none. -/
def Rm {α : Type} (len : α → Nat) (m : Nat) (r r' : Except Nat α) : Prop := ∀ v, r = .ok v → (len v ≤ m → r' = .ok v) ∧ (m < len v → r' = .error 4)
theorem Rm.pure {α : Type} {len : α → Nat} {m : Nat} {v : α} (h : len v ≤ m) : Rm len m (.ok v) (.ok v) := fun u e => by cases e; exact ⟨fun _ => rfl, fun h => by omega⟩
theorem Rm.same {α β : Type} {len : β → Nat} {m : Nat} {x : Except Nat α} {f f' : α → Except Nat β} (h : ∀ v, x = .ok v → Rm len m (f v) (f' v)) : Rm len m (x >>= f) (x >>= f') := by
  intro u e
  obtain ⟨v, h1, h2⟩ := bind_ok e
  rw [h1]
  exact h v h1 u h2
theorem Rm.bind {α β : Type} {len : α → Nat} {len' : β → Nat} {m : Nat} {x x' : Except Nat α} {f f' : α → Except Nat β} (hx : Rm len m x x') (hf : ∀ v, x = .ok v → len v ≤ m → Rm len' m (f v) (f' v))
    (hm : ∀ v u, x = .ok v → f v = .ok u → len v ≤ len' u) : Rm len' m (x >>= f) (x' >>= f') := by
  intro u e
  obtain ⟨v, h1, h2⟩ := bind_ok e
  have hle := hm v u h1 h2
  obtain ⟨e1, e2⟩ := hx v h1
  by_cases hc : len v ≤ m
  · rw [e1 hc]; exact hf v h1 hc u h2
  · refine ⟨fun h => by omega, fun _ => ?_⟩
    rw [e2 (by omega)]; rfl
end Go.Proofs.YtdehkaknbmbieaaGreat

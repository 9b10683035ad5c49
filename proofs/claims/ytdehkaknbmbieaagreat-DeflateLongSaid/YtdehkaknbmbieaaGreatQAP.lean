/- Package lz: Plain: its walk. -/
import Derived.Test.YtdehkaknbmbieaaGreatQAO
import Derived.Lib.MinMax
import Derived.Test.YtdehkaknbmbieaaGreatQAL
namespace Go.Proofs.YtdehkaknbmbieaaGreat
set_option linter.unusedVariables false
set_option linter.unusedSimpArgs false
set_option linter.unusedSectionVars false
open Go.RowKit
attribute [local go_sem] Oper.semAt_some
set_option linter.unusedVariables false
set_option linter.unusedSimpArgs false

/-- A text's bytes as tokens. -/
def plainT (bs : List Nat) : List Tok := bs.map fun b => ⟨b, 0, 0⟩
theorem plainT_snoc (bs : List Nat) (b : Nat) : plainT (bs ++ [b]) = plainT bs ++ [⟨b, 0, 0⟩] := by simp [plainT]
theorem tcs_append (l r : List Tok) : tcs (l ++ r) = tcs l ++ tcs r := by unfold tcs; rw [List.flatMap_append]
theorem tcs_single (t : Tok) : tcs [t] = t.cs := by simp [tcs]
def LzPlainP (bs : List Nat) (w : World) (e : Ending) (w' : World) : Prop := ∃ v, e = .returned v ∧ Row w' 49 3 v bs.length (tcs (plainT bs)) ∧ (∀ k, v.ownBlock = some k → w.heap.size ≤ k) ∧ Upd [] w w'
set_option maxRecDepth 100000 in
set_option maxHeartbeats 6400000 in
theorem lzplain_any (S : ByteArray) (w : World) (hs : S.size ≤ 65000) :
    Calls Tryz.prog 35 #[.string S] w fun e w' => LzPlainP (bytesOf S) w e w' := by
  obtain ⟨i0, hi, jz0, jz1, jz2⟩ := info_parts infoTok
  have HBL := Lib.hid (length_bytesOf S)
  have hsz : ¬ (65000 : Int) < (S.size : Int) := by omega
  go_enter Tryz.func35, Tryz.ntmps35
  go_wp2
  go_loopg [2, 9] 70000 (fun gg s2 s9 wr => ∃ i : Nat, i ≤ S.size ∧ gg = 70000 - i ∧ s9 = .int .i64 (i : Nat) ∧ Hid (Row wr 49 3 s2 i (tcs (plainT ((bytesOf S).take i)))) ∧ Hid (∀ k, s2.ownBlock = some k → w.heap.size ≤ k) ∧ Hid (Upd [] w wr))
  case atStart => exact ⟨0, by omega, by omega, rfl, Lib.hid (Row.nil _ _ _), Lib.hid (fun k h => by cases h), Lib.hid (Upd.refl _ _)⟩
  case round =>
    obtain ⟨i, hin, rfl, rfl, HR, HO, HU⟩ := hrel
    obtain ⟨va, vc, rfl⟩ := HR.out.form
    by_cases hc : i < S.size
    · have hcz : (i : Int) < (S.size : Int) := by omega
      have hil : i < (bytesOf S).length := by rw [HBL.out]; exact hc
      have hw1 : IntKind.i64.wrap ((i : Int) + 1) = ((i + 1 : Nat) : Int) := by rw [IntWalk.i64_in _ (by omega)]; rfl
      have HTK : Hid (tcs (plainT ((bytesOf S).take (i + 1))) = tcs (plainT ((bytesOf S).take i)) ++ [.int .u8 ((S[i]'hc).toNat : Nat), .int .i64 0, .int .i64 0]) := Lib.hid (by
        rw [List.take_succ_eq_append_getElem hil, plainT_snoc, tcs_append, tcs_single, bytesOf_get S i hc hil]
        rfl)
      have hRz := HR.out.alloc (.cells #[(.int .u8 ((S[i]'hc).toNat : Nat) : Value), .int .i64 0, .int .i64 0] 49)
      have HNW : Hid (∀ j u, ([(.int .u8 ((S[i]'hc).toNat : Nat) : Value), .int .i64 0, .int .i64 0] : List Value)[j]? = some u → (wr.alloc (.cells #[(.int .u8 ((S[i]'hc).toNat : Nat) : Value), .int .i64 0, .int .i64 0] 49)).cell? ((⟨wr.heap.size, 0, none⟩ : Addr).add j) = some u) := Lib.hid (World.news_of_block (cs := #[(.int .u8 ((S[i]'hc).toNat : Nat) : Value), .int .i64 0, .int .i64 0]) (t := 49) (fr := (0, 0)) (heap_alloc_new _ _))
      have HST : Hid (∀ v ∈ ([(.int .u8 ((S[i]'hc).toNat : Nat) : Value), .int .i64 0, .int .i64 0] : List Value), v.oneCell' = true) := Lib.hid (by simp [Value.oneCell'])
      go_wp2_with (at_builtin; refine wpList_app _ rfl _ _ 22 rfl 49 i0 _ 3 24 Tryz.underlying22 hi jz0 jz1 jz2 rfl (by omega) (.slice va i vc) i _ rfl hRz ⟨wr.heap.size, 0, none⟩ 1 1 [(.int .u8 ((S[i]'hc).toNat : Nat) : Value), .int .i64 0, .int .i64 0] rfl rfl HNW.out HST.out (by unfold maxLen; omega) (by omega) ?_)
      intro v5 w5 hR5 hU5 hT5
      rw [← HTK.out] at hR5
      have HR5 := Lib.hid hR5
      have HO5 : Hid (∀ k, v5.ownBlock = some k → w.heap.size ≤ k) := Lib.hid (fun k hk => by
        rcases hT5 with h | ⟨g', h1, h2⟩
        · exact HO.out k (by rw [← h]; exact hk)
        · rw [hk] at h1
          cases h1
          have := (HU.out.alloc (.cells #[(.int .u8 ((S[i]'hc).toNat : Nat) : Value), .int .i64 0, .int .i64 0] 49)).size
          omega)
      have HU5 : Hid (Upd [] w w5) := Lib.hid ((HU.out.alloc (.cells #[(.int .u8 ((S[i]'hc).toNat : Nat) : Value), .int .i64 0, .int .i64 0] 49)).trans hU5 (fun k hk => .inr (HO.out k (by simpa using hk))))
      clear hR5 hU5 hT5 hRz HNW HST
      go_wp2
      go_roundg (70000 - (i + 1))
      · exact ⟨i + 1, by omega, by first | rfl | omega, by first | rfl | go_num, HR5, HO5, HU5⟩
      · omega
    · have hcz : ¬ (i : Int) < (S.size : Int) := by omega
      obtain rfl : i = S.size := by omega
      have HR2 : Hid (Row wr 49 3 (.slice va S.size vc) (bytesOf S).length (tcs (plainT (bytesOf S)))) := Lib.hid (by
        have := HR.out
        rw [List.take_of_length_le (by rw [HBL.out]; exact Nat.le_refl _)] at this
        rw [HBL.out]; exact this)
      go_wp2
      go_ret
      exact ⟨_, rfl, HR2.out, HO.out, HU.out⟩
end Go.Proofs.YtdehkaknbmbieaaGreat
namespace Go.Proofs.YtdehkaknbmbieaaGreat
set_option linter.unusedVariables false
set_option linter.unusedSimpArgs false
set_option linter.unusedSectionVars false
open Go.RowKit
set_option linter.unusedVariables false
set_option linter.unusedSimpArgs false

def runB (s : Int) : Int := if s < 0 ∨ 18 < s then -1 else if s ≤ 15 then 0 else if s = 16 then 2 else if s = 17 then 3 else 7
theorem runBits_any (s : Int) (w : World) : Calls Tryz.prog 139 #[.int .i64 s] w fun e w' => e = .returned (.int .i64 (runB s)) ∧ w = w' := by
  go_enter Tryz.func139, Tryz.ntmps139
  go_wp2
  all_goals go_returns
  all_goals (refine ⟨congrArg (fun z => Ending.returned (.int .i64 z)) ?_, rfl⟩)
  all_goals (unfold runB; (repeat' split) <;> first | rfl | (exfalso; omega) | (exfalso; simp_all; done) | (exfalso; simp_all; omega))
def runL (s : Int) : Int := if s = 18 then 11 else 3
theorem runLeast_any (s : Int) (w : World) : Calls Tryz.prog 127 #[.int .i64 s] w fun e w' => e = .returned (.int .i64 (runL s)) ∧ w = w' := by
  go_enter Tryz.func127, Tryz.ntmps127
  go_wp2
  all_goals go_returns
  all_goals (refine ⟨congrArg (fun z => Ending.returned (.int .i64 z)) ?_, rfl⟩)
  all_goals (unfold runL; (repeat' split) <;> first | rfl | (exfalso; omega) | (exfalso; simp_all; done) | (exfalso; simp_all; omega))
theorem infoStep : (Tryz.prog.info? 101).map (·.size) = some 3 := by kernel_rfl
theorem results_rowT2 {P : Program} {fn : Func} {p u : Tmp} {ty : TypeId} (h : fn.results = #[.cell p ty, .tmp u]) (tmps : Array Value) (w : World) (g : Nat) (t : TypeId) (cs : Array Value) (fr : Nat × Nat) (d : TypeDesc) (v : Value)
    (hp : tmps.getD p undef = .pointer (some ⟨g, 0, none⟩)) (hv : tmps.getD u undef = v) (hg : w.heap[g]? = some (.cells cs t fr))
    (hu : P.underlying ty = some d) (hd : (match d with | .struct _ | .array _ _ => true | _ => false) = true) (hi : (P.info? ty).map (·.size) = some cs.size) :
    (results fn tmps).run P w = .ok (.tuple #[.agg cs, v]) w := by
  rw [results_cell_tmp h, hp, hv]
  simp [asAddr, run_loadVar_row w g t ty cs fr d hg hu hd hi, Result.andThen]
/-- How many a run has at most, and at least. -/
def runM (s : Nat) : Nat := if s = 16 then 6 else if s = 17 then 10 else 138
def runL' (s : Nat) : Nat := if s = 18 then 11 else 3
def runBn (s : Nat) : Nat := if s = 16 then 2 else if s = 17 then 3 else 7
def StepP (s n : Nat) (w : World) (e : Ending) (w' : World) : Prop := e = .returned (.tuple #[.agg #[.int .i64 (s : Nat), .int .i64 (runBn s : Nat), .int .i64 ((min n (runM s) - runL' s : Nat) : Int)], .int .i64 ((min n (runM s) : Nat) : Int)]) ∧ Upd [] w w'
set_option maxRecDepth 100000 in
set_option maxHeartbeats 3200000 in
theorem runStep_any (s n : Nat) (w : World) (hs : s = 16 ∨ s = 17 ∨ s = 18) (hn : runL' s ≤ n) (hn2 : n ≤ 1000000) :
    Calls Tryz.prog 128 #[.int .i64 (s : Nat), .int .i64 (n : Nat)] w fun e w' => StepP s n w e w' := by
  obtain ⟨M, hM⟩ : ∃ M, runM s = M := ⟨_, rfl⟩
  obtain ⟨L, hL⟩ : ∃ L, runL' s = L := ⟨_, rfl⟩
  obtain ⟨b, hb⟩ : ∃ b, runBn s = b := ⟨_, rfl⟩
  have hB : runB (s : Nat) = (b : Int) := by rw [← hb]; rcases hs with rfl | rfl | rfl <;> decide
  have hLI : runL (s : Nat) = (L : Int) := by rw [← hL]; rcases hs with rfl | rfl | rfl <;> decide
  obtain ⟨P, hP⟩ : ∃ P : Nat, 2 ^ b = P := ⟨_, rfl⟩
  have hPM : L + P - 1 = M ∧ 3 ≤ L ∧ L ≤ 11 ∧ 4 ≤ P ∧ P ≤ 128 ∧ b ≤ 7 := by
    rw [← hM, ← hL, ← hP, ← hb]
    rcases hs with rfl | rfl | rfl <;> decide
  have HBI := Lib.hid (fun w' => show Calls Tryz.prog 139 #[.int .i64 (s : Nat)] w' fun e w2 => e = .returned (.int .i64 (b : Int)) ∧ w' = w2 by rw [← hB]; exact runBits_any _ w')
  have HLE := Lib.hid (fun w' => show Calls Tryz.prog 127 #[.int .i64 (s : Nat)] w' fun e w2 => e = .returned (.int .i64 (L : Int)) ∧ w' = w2 by rw [← hLI]; exact runLeast_any _ w')
  have hpw : wrap64 ((2 : Int) ^ b) = (P : Int) := by
    have : ((2 : Int) ^ b) = (P : Int) := by rw [← hP]; simp
    rw [this]
    unfold wrap64
    omega
  have HPW := Lib.hid hpw
  unfold StepP
  rw [hM, hL, hb]
  rw [hL] at hn
  clear hpw hB hLI hM hL hb hP
  obtain ⟨q, hq⟩ : ∃ q : Nat, min n M = q := ⟨_, rfl⟩
  have hqi : min (n : Int) (M : Int) = (q : Int) := by omega
  have hLq : L ≤ q := by omega
  rw [hq]
  have hw1 : IntKind.i64.wrap ((L : Int) + (P : Int)) = (L : Int) + (P : Int) := IntWalk.i64_in _ (by omega)
  have hw2 : IntKind.i64.wrap ((L : Int) + (P : Int) - 1) = (M : Int) := by rw [IntWalk.i64_in _ (by omega)]; omega
  have hw3 : IntKind.i64.wrap ((q : Int) - (L : Int)) = ((q - L : Nat) : Int) := by rw [IntWalk.i64_in _ (by omega)]; omega
  have hb64 : (b : Int) < 64 := by omega
  have HQ := Lib.hid hq
  clear hq hPM
  have hpw := HPW.out
  go_enter Tryz.func128, Tryz.ntmps128
  go_wp2_with fail
  refine (HBI.out _).mono ?_
  rintro e w1 ⟨rfl, rfl⟩
  go_wp2
  go_quiet ((go_at_call 127; exact Calls.quiet_of_same ((HLE.out _).mono fun e w' ⟨he, hw⟩ => ⟨he, hw.symm⟩)))
  go_wp2_with fail
  refine (HLE.out _).mono ?_
  rintro e w2 ⟨rfl, rfl⟩
  have hB := (Blk.new w [.int .i64 0, .int .i64 0, .int .i64 0] 101).drewN nq
  have hU := ((Upd.refl [] w).alloc (.cells #[.int .i64 0, .int .i64 0, .int .i64 0] 101)).drewN nq
  have f0 := hB.frz 0
  have f1 := hB.frz 1
  have f2 := hB.frz 2
  have c0 := hB.cell 0 rfl
  have c1 := hB.cell 1 rfl
  have c2 := hB.cell 2 rfl
  have HB := Lib.hid hB
  have HU := Lib.hid hU
  clear hB hU hpw
  go_wp2
  have hB9 := ((HB.out.set 0 (.int .i64 (s : Nat))).set 1 (.int .i64 (b : Nat))).set 2 (.int .i64 ((q - L : Nat) : Int))
  refine bodyPost_ret (results_rowT2 rfl _ _ w.heap.size _ _ _ _ (.int .i64 (q : Nat)) (by simp [Act.put]) (by simp [Act.put]) hB9 Tryz.underlying101 rfl (by rw [infoStep]; rfl)) (by simp [Act.put]) ⟨?_, ?_⟩
  · rfl
  · exact ((HU.out.setCell (.inr (Nat.le_refl _)) _).setCell (.inr (Nat.le_refl _)) _).setCell (.inr (Nat.le_refl _)) _
end Go.Proofs.YtdehkaknbmbieaaGreat
namespace Go.Proofs.YtdehkaknbmbieaaGreat
set_option linter.unusedVariables false
set_option linter.unusedSimpArgs false
set_option linter.unusedSectionVars false
open Go.RowKit
set_option linter.unusedVariables false
set_option linter.unusedSimpArgs false

/-- How many of a row's first numbers are k. -/
def runC (k : Int) : List Int → Nat
  | [] => 0
  | x :: r => if x = k then runC k r + 1 else 0
theorem runC_le (k : Int) : ∀ l, runC k l ≤ l.length
  | [] => Nat.le_refl _
  | x :: r => by
    rw [runC]
    split
    · have := runC_le k r; simp; omega
    · simp
theorem runC_at (k : Int) : ∀ (l : List Int) (i : Nat), (∀ j, j < i → l[j]? = some k) → i ≤ l.length → runC k l = i + runC k (l.drop i)
  | l, 0, _, _ => by simp
  | [], i + 1, _, h => by simp at h
  | x :: r, i + 1, h, hl => by
    have h0 := h 0 (by omega)
    simp at h0
    have := runC_at k r i (fun j hj => by have := h (j + 1) (by omega); simpa using this) (by simpa using hl)
    rw [runC, if_pos h0, this, List.drop_succ_cons]
    omega
set_option maxRecDepth 100000 in
set_option maxHeartbeats 3200000 in
theorem runc_any (l : List Int) (k : Int) (a : Option Addr) (n cap g : Nat) (w : World) (hI : IntsIn w a n l) (hg : w.cell? ⟨g, 0, none⟩ = some (.slice a n cap)) (hn : n ≤ 1000000) :
    Calls Tryz.prog 126 #[.int .i64 k, .pointer (some ⟨g, 0, none⟩)] w fun e w' => e = .returned (.int .i64 (runC k l : Nat)) ∧ w = w' := by
  have HI := Lib.hid hI
  have HLN := Lib.hid hI.len
  clear hI
  go_enter Tryz.func126, Tryz.ntmps126
  go_wp2
  go_loopg [3] 1000000 (fun gg s3 wr => ∃ i : Nat, i ≤ n ∧ gg = 1000000 - i ∧ s3 = .int .i64 (i : Nat) ∧ Hid (∀ j, j < i → l[j]? = some k) ∧ wr = w)
  case atStart => exact ⟨0, by omega, by omega, rfl, Lib.hid (fun j hj => by omega), rfl⟩
  case round =>
    obtain ⟨i, hin, rfl, rfl, HE, hwr⟩ := hrel
    subst hwr
    by_cases hc : i < n
    · have hcz : (i : Int) < (n : Int) := by omega
      have hil : i < l.length := by rw [HLN.out]; exact hc
      obtain ⟨b, off, rfl, hc1, _, _⟩ := HI.out.cell i hil
      have HG : Hid (l[i]? = some l[i]) := Lib.hid (List.getElem?_eq_getElem hil)
      have HDr : Hid (l.drop i = l[i] :: l.drop (i + 1)) := Lib.hid (List.drop_eq_getElem_cons hil)
      generalize l[i] = x at *
      have hw1 : IntKind.i64.wrap ((i : Int) + 1) = ((i + 1 : Nat) : Int) := by rw [IntWalk.i64_in _ (by omega)]; rfl
      clear hil
      by_cases hx : x = k
      · subst hx
        go_wp2
        go_roundg (1000000 - (i + 1))
        · exact ⟨i + 1, by omega, by first | rfl | omega, by first | rfl | go_num, Lib.hid (fun j hj => by
            rcases Nat.lt_or_ge j i with h | h
            · exact HE.out j h
            · obtain rfl : j = i := by omega
              exact HG.out), rfl⟩
        · omega
      · have hxb : (x == k) = false := by simpa using hx
        have HR : Hid (runC k l = i) := Lib.hid (by rw [runC_at k l i HE.out (by rw [HLN.out]; exact hin), HDr.out, runC, if_neg hx]; omega)
        go_wp2
        go_ret
        exact ⟨by rw [HR.out]; rfl, rfl⟩
    · have hcz : ¬ (i : Int) < (n : Int) := by omega
      obtain rfl : i = n := by omega
      have HR : Hid (runC k l = i) := Lib.hid (by rw [runC_at k l i HE.out (by rw [HLN.out]; exact hin), List.drop_of_length_le (by rw [HLN.out]; exact Nat.le_refl _), runC]; omega)
      go_wp2
      go_ret
      exact ⟨by rw [HR.out]; rfl, rfl⟩
/-- A step. -/
structure StpD where
  sym : Nat
  bits : Nat
  more : Nat
def StpD.cs (s : StpD) : List Value := [.int .i64 (s.sym : Nat), .int .i64 (s.bits : Nat), .int .i64 (s.more : Nat)]
def stepOf (s n : Nat) : StpD × Nat := (⟨s, runBn s, min n (runM s) - runL' s⟩, min n (runM s))
/-- The step at a row's beginning, and of how many lengths it is. -/
def nextS (l : List Int) (ahead : Int) : StpD × Nat :=
  if 11 ≤ runC 0 l then stepOf 18 (runC 0 l) else if 3 ≤ runC 0 l then stepOf 17 (runC 0 l) else if 3 ≤ runC ahead l then stepOf 16 (runC ahead l) else (⟨(l.headD 0).toNat, 0, 0⟩, 1)
def NextP9 (l : List Int) (ahead : Int) (w : World) (e : Ending) (w' : World) : Prop := e = .returned (.tuple #[.agg (nextS l ahead).1.cs.toArray, .int .i64 ((nextS l ahead).2 : Nat)]) ∧ Upd [] w w'
set_option maxRecDepth 100000 in
set_option maxHeartbeats 6400000 in
theorem runNext_any (l : List Int) (ahead : Int) (a : Option Addr) (n cap : Nat) (w : World) (hI : IntsIn w a n l) (hn : n ≤ 1000000) (hn1 : 1 ≤ n) (h0 : 0 ≤ l.headD 0) :
    Calls Tryz.prog 90 #[.slice a n cap, .int .i64 ahead] w fun e w' => NextP9 l ahead w e w' := by
  have HU := Lib.hid (((Upd.refl [] w).alloc (.cells #[.slice a n cap] 55)).alloc (.cells #[.int .i64 0, .int .i64 0, .int .i64 0] 101))
  have hP := (Blk.new w [.slice a n cap] 55).alloc (.cells #[.int .i64 0, .int .i64 0, .int .i64 0] 101)
  have hQ := Blk.new (w.alloc (.cells #[.slice a n cap] 55)) [.int .i64 0, .int .i64 0, .int .i64 0] 101
  rw [World.size_alloc] at hQ
  have HI2 := Lib.hid (hI.pure HU.out)
  have HP := Lib.hid hP
  have HQ := Lib.hid hQ
  have HLN := Lib.hid hI.len
  clear hI hP hQ
  go_enter Tryz.func90, Tryz.ntmps90
  go_upto_region 2 with fail
  change Code.wp _ _ _ _ ((w.alloc (.cells #[.slice a n cap] 55)).alloc (.cells #[.int .i64 0, .int .i64 0, .int .i64 0] 101))
  generalize (w.alloc (.cells #[.slice a n cap] 55)).alloc (.cells #[.int .i64 0, .int .i64 0, .int .i64 0] 101) = w2 at *
  generalize hg0 : w.heap.size = g at *
  have HG0 := Lib.hid hg0
  clear hg0
  have HC := Lib.hid (fun k => runc_any l k a n cap g w2 HI2.out (HP.out.cell 0 rfl) hn)
  have hz := runC_le 0 l
  have hag := runC_le ahead l
  rw [HLN.out] at hz hag
  have HNX : Hid (nextS l ahead = if 11 ≤ runC 0 l then stepOf 18 (runC 0 l) else if 3 ≤ runC 0 l then stepOf 17 (runC 0 l) else if 3 ≤ runC ahead l then stepOf 16 (runC ahead l) else (⟨(l.headD 0).toNat, 0, 0⟩, 1)) := Lib.hid rfl
  have HC0 := Lib.hid (HC.out 0)
  have HCA := Lib.hid (HC.out ahead)
  generalize runC 0 l = z at *
  generalize runC ahead l = ag at *
  clear HC
  go_wp2_with fail
  refine HC0.out.mono ?_
  rintro e w3 ⟨rfl, rfl⟩
  go_wp2_with fail
  refine HCA.out.mono ?_
  rintro e w3 ⟨rfl, rfl⟩
  by_cases h1 : 11 ≤ z
  · have h1z : (11 : Int) ≤ (z : Int) := by omega
    go_wp2_with fail
    refine (runLeast_any 18 w2).mono ?_
    rintro e w3 ⟨rfl, rfl⟩
    rw [show runL 18 = 11 from by decide]
    have HSP := Lib.hid (fun w' => runStep_any 18 z w' (by decide) (by show _ ≤ z; simp only [show runL' 18 = 11 from by decide]; omega) (by omega))
    have HV : Hid (nextS l ahead = stepOf 18 z) := Lib.hid (by rw [HNX.out, if_pos h1])
    unfold StepP at HSP
    have HS2 : Hid (stepOf 18 z = (⟨18, runBn 18, min z (runM 18) - runL' 18⟩, min z (runM 18))) := Lib.hid rfl
    generalize min z (runM 18) = q at *
    generalize q - runL' 18 = mo at *
    generalize runBn 18 = bb at *
    go_wp2_with fail
    refine (HSP.out w2).mono ?_
    rintro e w4 ⟨rfl, hU4⟩
    have hQ4 := HQ.out.upd hU4 (by simp)
    have HU4 := Lib.hid (HU.out.then hU4)
    have f0 := hQ4.frz 0
    have f1 := hQ4.frz 1
    have f2 := hQ4.frz 2
    have c0 := hQ4.cell 0 rfl
    have c1 := hQ4.cell 1 rfl
    have c2 := hQ4.cell 2 rfl
    have HQ4 := Lib.hid hQ4
    clear hU4 hQ4 HSP
    go_wp2
    have hB9 := ((HQ4.out.set 0 (.int .i64 18)).set 1 (.int .i64 (bb : Nat))).set 2 (.int .i64 (mo : Nat))
    refine bodyPost_ret (results_rowT2 rfl _ _ (g + 1) _ _ _ _ (.int .i64 (q : Nat)) (by simp [Act.put]) (by simp [Act.put]) hB9 Tryz.underlying101 rfl (by rw [infoStep]; rfl)) (by simp [Act.put]) ⟨?_, ?_⟩
    · rw [HV.out, HS2.out]; rfl
    · exact ((HU4.out.setCell (.inr (by rw [HG0.out]; simp)) _).setCell (.inr (by rw [HG0.out]; simp)) _).setCell (.inr (by rw [HG0.out]; simp)) _
  · have h1z : ¬ (11 : Int) ≤ (z : Int) := by omega
    go_wp2_with fail
    refine (runLeast_any 18 w2).mono ?_
    rintro e w3 ⟨rfl, rfl⟩
    rw [show runL 18 = 11 from by decide]
    by_cases h2 : 3 ≤ z
    · have h2z : (3 : Int) ≤ (z : Int) := by omega
      go_wp2_with fail
      refine (runLeast_any 17 w2).mono ?_
      rintro e w3 ⟨rfl, rfl⟩
      rw [show runL 17 = 3 from by decide]
      have HSP := Lib.hid (fun w' => runStep_any 17 z w' (by decide) (by show _ ≤ z; simp only [show runL' 17 = 3 from by decide]; omega) (by omega))
      have HV : Hid (nextS l ahead = stepOf 17 z) := Lib.hid (by rw [HNX.out, if_neg h1, if_pos h2])
      unfold StepP at HSP
      have HS2 : Hid (stepOf 17 z = (⟨17, runBn 17, min z (runM 17) - runL' 17⟩, min z (runM 17))) := Lib.hid rfl
      generalize min z (runM 17) = q at *
      generalize q - runL' 17 = mo at *
      generalize runBn 17 = bb at *
      go_wp2_with fail
      refine (HSP.out w2).mono ?_
      rintro e w4 ⟨rfl, hU4⟩
      have hQ4 := HQ.out.upd hU4 (by simp)
      have HU4 := Lib.hid (HU.out.then hU4)
      have f0 := hQ4.frz 0
      have f1 := hQ4.frz 1
      have f2 := hQ4.frz 2
      have c0 := hQ4.cell 0 rfl
      have c1 := hQ4.cell 1 rfl
      have c2 := hQ4.cell 2 rfl
      have HQ4 := Lib.hid hQ4
      clear hU4 hQ4 HSP
      go_wp2
      have hB9 := ((HQ4.out.set 0 (.int .i64 17)).set 1 (.int .i64 (bb : Nat))).set 2 (.int .i64 (mo : Nat))
      refine bodyPost_ret (results_rowT2 rfl _ _ (g + 1) _ _ _ _ (.int .i64 (q : Nat)) (by simp [Act.put]) (by simp [Act.put]) hB9 Tryz.underlying101 rfl (by rw [infoStep]; rfl)) (by simp [Act.put]) ⟨?_, ?_⟩
      · rw [HV.out, HS2.out]; rfl
      · exact ((HU4.out.setCell (.inr (by rw [HG0.out]; simp)) _).setCell (.inr (by rw [HG0.out]; simp)) _).setCell (.inr (by rw [HG0.out]; simp)) _
    · have h2z : ¬ (3 : Int) ≤ (z : Int) := by omega
      go_wp2_with fail
      refine (runLeast_any 17 w2).mono ?_
      rintro e w3 ⟨rfl, rfl⟩
      rw [show runL 17 = 3 from by decide]
      by_cases h3 : 3 ≤ ag
      · have h3z : (3 : Int) ≤ (ag : Int) := by omega
        go_wp2_with fail
        refine (runLeast_any 16 w2).mono ?_
        rintro e w3 ⟨rfl, rfl⟩
        rw [show runL 16 = 3 from by decide]
        have HSP := Lib.hid (fun w' => runStep_any 16 ag w' (by decide) (by show _ ≤ ag; simp only [show runL' 16 = 3 from by decide]; omega) (by omega))
        have HV : Hid (nextS l ahead = stepOf 16 ag) := Lib.hid (by rw [HNX.out, if_neg h1, if_neg h2, if_pos h3])
        unfold StepP at HSP
        have HS2 : Hid (stepOf 16 ag = (⟨16, runBn 16, min ag (runM 16) - runL' 16⟩, min ag (runM 16))) := Lib.hid rfl
        generalize min ag (runM 16) = q at *
        generalize q - runL' 16 = mo at *
        generalize runBn 16 = bb at *
        go_wp2_with fail
        refine (HSP.out w2).mono ?_
        rintro e w4 ⟨rfl, hU4⟩
        have hQ4 := HQ.out.upd hU4 (by simp)
        have HU4 := Lib.hid (HU.out.then hU4)
        have f0 := hQ4.frz 0
        have f1 := hQ4.frz 1
        have f2 := hQ4.frz 2
        have c0 := hQ4.cell 0 rfl
        have c1 := hQ4.cell 1 rfl
        have c2 := hQ4.cell 2 rfl
        have HQ4 := Lib.hid hQ4
        clear hU4 hQ4 HSP
        go_wp2
        have hB9 := ((HQ4.out.set 0 (.int .i64 16)).set 1 (.int .i64 (bb : Nat))).set 2 (.int .i64 (mo : Nat))
        refine bodyPost_ret (results_rowT2 rfl _ _ (g + 1) _ _ _ _ (.int .i64 (q : Nat)) (by simp [Act.put]) (by simp [Act.put]) hB9 Tryz.underlying101 rfl (by rw [infoStep]; rfl)) (by simp [Act.put]) ⟨?_, ?_⟩
        · rw [HV.out, HS2.out]; rfl
        · exact ((HU4.out.setCell (.inr (by rw [HG0.out]; simp)) _).setCell (.inr (by rw [HG0.out]; simp)) _).setCell (.inr (by rw [HG0.out]; simp)) _
      · have h3z : ¬ (3 : Int) ≤ (ag : Int) := by omega
        go_wp2_with fail
        refine (runLeast_any 16 w2).mono ?_
        rintro e w3 ⟨rfl, rfl⟩
        rw [show runL 16 = 3 from by decide]
        have HV : Hid (nextS l ahead = (⟨(l.headD 0).toNat, 0, 0⟩, 1)) := Lib.hid (by rw [HNX.out, if_neg h1, if_neg h2, if_neg h3])
        have hil : 0 < l.length := by rw [HLN.out]; omega
        obtain ⟨b, off, rfl, hc1, _, _⟩ := HI2.out.cell 0 hil
        have hhd : l.headD 0 = l[0] := by cases l with | nil => simp at hil | cons x r => rfl
        rw [hhd] at h0 HV
        generalize l[0] = x at *
        obtain ⟨v, rfl⟩ : ∃ v : Nat, x = (v : Int) := ⟨x.toNat, by omega⟩
        rw [Int.toNat_natCast] at HV
        rw [Nat.add_zero] at hc1
        have hp0 := HP.out.cell 0 rfl
        have hQ4 := HQ.out
        have f0 := hQ4.frz 0
        have f1 := hQ4.frz 1
        have f2 := hQ4.frz 2
        have c0 := hQ4.cell 0 rfl
        have c1 := hQ4.cell 1 rfl
        have c2 := hQ4.cell 2 rfl
        have hnz : (0 : Int) < (n : Int) := by omega
        clear hQ4 hhd hil
        go_wp2
        have hB9 := ((HQ.out.set 0 (.int .i64 (v : Nat))).set 1 (.int .i64 0)).set 2 (.int .i64 0)
        refine bodyPost_ret (results_rowT2 rfl _ _ (g + 1) _ _ _ _ (.int .i64 1) (by simp [Act.put]) (by simp [Act.put]) hB9 Tryz.underlying101 rfl (by rw [infoStep]; rfl)) (by simp [Act.put]) ⟨?_, ?_⟩
        · rw [HV.out]; rfl
        · exact ((HU.out.setCell (.inr (by rw [HG0.out]; simp)) _).setCell (.inr (by rw [HG0.out]; simp)) _).setCell (.inr (by rw [HG0.out]; simp)) _
end Go.Proofs.YtdehkaknbmbieaaGreat

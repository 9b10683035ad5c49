/- Package runs: Count: its walk. -/
import Derived.Test.YtdehkaknbmbieaaGreatQAQ
import Derived.Test.YtdehkaknbmbieaaGreatQAT
import Derived.Test.YtdehkaknbmbieaaGreatQAF
import Derived.Test.YtdehkaknbmbieaaGreatQAA
namespace Go.Proofs.YtdehkaknbmbieaaGreat
set_option linter.unusedVariables false
set_option linter.unusedSimpArgs false
set_option linter.unusedSectionVars false
open Go.RowKit
set_option linter.unusedVariables false
set_option linter.unusedSimpArgs false

/-- Steps that can be read where a slice leads. -/
structure StpIn (w : World) (a : Option Addr) (len : Nat) (l : List StpD) : Prop where
  len : l.length = len
  cell : ∀ i (h : i < l.length), ∃ b off, a = some ⟨b, off, none⟩ ∧ (w.cell? ⟨b, off + i * 3, none⟩ = some (.int .i64 (l[i].sym : Nat)) ∧ w.cell? ⟨b, off + i * 3 + 1, none⟩ = some (.int .i64 (l[i].bits : Nat)) ∧ w.cell? ⟨b, off + i * 3 + 2, none⟩ = some (.int .i64 (l[i].more : Nat)))
theorem StpIn.pure {w w' : World} {a : Option Addr} {len : Nat} {l : List StpD} (h : StpIn w a len l) (hU : Upd [] w w') : StpIn w' a len l :=
  ⟨h.len, fun i hi => by
    obtain ⟨b, off, e, c1, c2, c3⟩ := h.cell i hi
    have hb : b < w.heap.size := World.block_lt_of_cell? w _ c1
    exact ⟨b, off, e, (hU.at hb (by simp) _).trans c1, (hU.at hb (by simp) _).trans c2, (hU.at hb (by simp) _).trans c3⟩⟩
theorem stepsC_get : ∀ (l : List StpD) (i : Nat) (h : i < l.length) (j : Nat), j < 3 → (stepsC l)[i * 3 + j]? = l[i].cs[j]?
  | [], i, h, j, _ => absurd h (by simp)
  | s :: l, 0, h, j, hj => by
    rw [Nat.zero_mul, Nat.zero_add]
    unfold stepsC
    rw [List.flatMap_cons, List.getElem?_append_left (by simp [StpD.cs]; omega)]
    rfl
  | s :: l, i + 1, h, j, hj => by
    have ih := stepsC_get l i (by simpa using h) j hj
    unfold stepsC at *
    rw [List.flatMap_cons, List.getElem?_append_right (by simp [StpD.cs]; omega)]
    rw [show (i + 1) * 3 + j - s.cs.length = i * 3 + j by simp [StpD.cs]; omega, ih]
    rfl
theorem StpIn.row {w : World} {a : Option Addr} {n c : Nat} {l : List StpD} {T : TypeId} (h : Row w T 3 (.slice a n c) n (stepsC l)) (hl : l.length = n) : StpIn w a n l :=
  ⟨hl, fun i hi => by
    obtain ⟨g, cc, e, _, _⟩ := h.form' (by omega)
    cases e
    refine ⟨g, 0, rfl, ?_, ?_, ?_⟩
    · rw [Nat.zero_add]; exact h.cell (i * 3) (by have := stepsC_get l i hi 0 (by omega); rw [Nat.add_zero] at this; rw [this]; rfl)
    · rw [Nat.zero_add]; exact h.cell (i * 3 + 1) (by rw [stepsC_get l i hi 1 (by omega)]; rfl)
    · rw [Nat.zero_add]; exact h.cell (i * 3 + 2) (by rw [stepsC_get l i hi 2 (by omega)]; rfl)⟩
def cntS (c : List Nat) (s : StpD) : List Nat := if s.sym ≤ 18 then addAt c s.sym else c
/-- How often each symbol comes. -/
def countS (l : List StpD) : List Nat := l.foldl cntS (List.replicate 19 0)
theorem countS_snoc (l : List StpD) (s : StpD) : countS (l ++ [s]) = cntS (countS l) s := by unfold countS; rw [List.foldl_append]; rfl
theorem cntS_len (c : List Nat) (s : StpD) : (cntS c s).length = c.length := by unfold cntS; split; exact addAt_len _ _; rfl
theorem countS_ok (l : List StpD) : ∀ i, i ≤ l.length → (countS (l.take i)).length = 19 ∧ ∀ x ∈ countS (l.take i), x ≤ i
  | 0, _ => ⟨List.length_replicate, fun x hx => by have := List.eq_of_mem_replicate (show x ∈ List.replicate 19 0 from hx); omega⟩
  | i + 1, h => by
    obtain ⟨h1, h2⟩ := countS_ok l i (by omega)
    rw [List.take_succ_eq_append_getElem (show i < l.length by omega), countS_snoc]
    refine ⟨by rw [cntS_len, h1], ?_⟩
    unfold cntS
    split
    · exact addAt_le _ _ _ h2
    · intro x hx; have := h2 x hx; omega
theorem info19 : (Tryz.prog.info? 96).map (·.size) = some 19 := by kernel_rfl
def CntP (l : List StpD) (w : World) (e : Ending) (w' : World) : Prop := e = .returned (.agg (i64s (countS l)).toArray) ∧ Upd [] w w'
set_option maxRecDepth 100000 in
set_option maxHeartbeats 6400000 in
theorem runCount_any (l : List StpD) (a : Option Addr) (n cap : Nat) (w : World) (hI : StpIn w a n l) (hn : n ≤ 100000) :
    Calls Tryz.prog 53 #[.slice a n cap] w fun e w' => CntP l w e w' := by
  have HI := Lib.hid hI
  have HLN := Lib.hid hI.len
  have HCO := Lib.hid (countS_ok l)
  clear hI
  have HB0 : Hid (Blk (w.alloc (.cells (i64s (countS (l.take 0))).toArray 96)) w.heap.size (i64s (countS (l.take 0))) 96) := Lib.hid (Blk.new w _ _)
  have HU0 : Hid (Upd [] w (w.alloc (.cells (i64s (countS (l.take 0))).toArray 96))) := Lib.hid ((Upd.refl [] w).alloc _)
  go_enter Tryz.func53, Tryz.ntmps53
  go_upto_region 1 with fail
  change Code.wp _ _ _ _ (w.alloc (.cells (i64s (countS (l.take 0))).toArray 96))
  generalize w.alloc (.cells (i64s (countS (l.take 0))).toArray 96) = w1 at *
  generalize hg : w.heap.size = g at *
  have HG := Lib.hid hg
  clear hg
  go_wp2
  go_loopg [7] 200000 (fun gg s7 wr => ∃ i : Nat, i ≤ n ∧ gg = 200000 - i ∧ s7 = .int .i64 (i : Nat) ∧ Hid (Blk wr g (i64s (countS (l.take i))) 96) ∧ Hid (Upd [] w wr))
  case atStart => exact ⟨0, by omega, by omega, rfl, HB0, HU0⟩
  case round =>
    obtain ⟨i, hin, rfl, rfl, HB, HU⟩ := hrel
    by_cases hc : i < n
    · have hcz : (i : Int) < (n : Int) := by omega
      have hil : i < l.length := by rw [HLN.out]; exact hc
      have hw1 : IntKind.i64.wrap ((i : Int) + 1) = ((i + 1 : Nat) : Int) := by rw [IntWalk.i64_in _ (by omega)]; rfl
      obtain ⟨b, off, rfl, hc1, hc2, hc3⟩ := (HI.out.pure HU.out).cell i hil
      have HST : Hid (countS (l.take (i + 1)) = cntS (countS (l.take i)) l[i]) := Lib.hid (by rw [List.take_succ_eq_append_getElem hil, countS_snoc])
      obtain ⟨hlc, hbc⟩ := HCO.out i (by omega)
      generalize l[i] = s at *
      generalize countS (l.take i) = c at *
      obtain ⟨sy, sb, sm⟩ := s
      dsimp only at hc1 hc2 hc3
      have hT4 := Blk.new wr [.int .i64 (sy : Nat), .int .i64 (sb : Nat), .int .i64 (sm : Nat)] 101
      have hB4 := HB.out.alloc (.cells #[.int .i64 (sy : Nat), .int .i64 (sb : Nat), .int .i64 (sm : Nat)] 101)
      have hU4 := HU.out.alloc (.cells #[.int .i64 (sy : Nat), .int .i64 (sb : Nat), .int .i64 (sm : Nat)] 101)
      clear hil HB HU
      go_upto_region 4 with fail
      change Code.wp _ _ _ _ (wr.alloc (.cells #[.int .i64 (sy : Nat), .int .i64 (sb : Nat), .int .i64 (sm : Nat)] 101))
      generalize wr.alloc (.cells #[.int .i64 (sy : Nat), .int .i64 (sb : Nat), .int .i64 (sm : Nat)] 101) = w4 at *
      generalize wr.heap.size = q at *
      have t0 := hT4.cell 0 rfl
      have HB4 := Lib.hid hB4
      have HU4 := Lib.hid hU4
      clear hT4 hB4 hU4 hc1 hc2 hc3
      by_cases h18 : sy ≤ 18
      · have h18z : (sy : Int) ≤ 18 := by omega
        have hgt : c[sy]? = some (c.getD sy 0) := by rw [List.getD_eq_getElem?_getD, List.getElem?_eq_getElem (by omega)]; rfl
        have hle : c.getD sy 0 ≤ i := hbc _ (List.mem_of_getElem? hgt)
        have ca := HB4.out.cell sy (i64s_get c sy _ hgt)
        have fa := HB4.out.frz sy
        have HAd : Hid (cntS c ⟨sy, sb, sm⟩ = c.set sy (c.getD sy 0 + 1)) := Lib.hid (by unfold cntS; rw [if_pos h18]; rfl)
        generalize c.getD sy 0 = y at *
        have hwy : IntKind.i64.wrap ((y : Int) + 1) = ((y + 1 : Nat) : Int) := by rw [IntWalk.i64_in _ (by omega)]; rfl
        have h19 : (sy : Int) < 19 := by omega
        have HB5 : Hid (Blk (w4.setCell ⟨g, sy, none⟩ (.int .i64 ((y + 1 : Nat) : Int))) g (i64s (countS (l.take (i + 1)))) 96) := Lib.hid (by
          rw [HST.out, HAd.out, i64s_set]
          exact HB4.out.set sy _)
        have HU5 := Lib.hid (HU4.out.setCell (p := ⟨g, sy, none⟩) (.inr (by have := HG.out; show w.heap.size ≤ g; omega)) (.int .i64 ((y + 1 : Nat) : Int)))
        clear hgt hlc hbc HB4 HU4
        go_wp2
        go_roundg (200000 - (i + 1))
        · exact ⟨i + 1, by omega, by first | rfl | omega, by first | rfl | go_num, HB5, HU5⟩
        · omega
      · have h18z : ¬ (sy : Int) ≤ 18 := by omega
        have HB5 : Hid (Blk w4 g (i64s (countS (l.take (i + 1)))) 96) := Lib.hid (by
          rw [HST.out, cntS, if_neg h18]
          exact HB4.out)
        clear hlc hbc HB4
        go_wp2
        go_roundg (200000 - (i + 1))
        · exact ⟨i + 1, by omega, by first | rfl | omega, by first | rfl | go_num, HB5, HU4⟩
        · omega
    · have hcz : ¬ (i : Int) < (n : Int) := by omega
      obtain rfl : i = n := by omega
      have hl19 := (HCO.out i (by rw [HLN.out]; exact Nat.le_refl _)).1
      have htk : l.take i = l := List.take_of_length_le (by rw [HLN.out]; exact Nat.le_refl _)
      rw [htk] at HB hl19
      clear htk
      have hB := HB.out
      have HL19 : Hid ((i64s (countS l)).length = 19) := Lib.hid (by rw [length_i64s, hl19])
      clear HB hl19
      go_wp2_with (first
        | (refine wpList_loadBlk rfl 96 _ rfl g rfl 96 _ hB _ Tryz.underlying96 rfl (by rw [HL19.out]; kernel_rfl) ?_)
        | (refine wpList_storeBlk rfl 96 _ _ rfl g rfl _ rfl 96 _ hB (by rw [HL19.out]; kernel_rfl) rfl (i64s_one _) ?_; intro w2 hB3 hU2))
      exact bodyPost_ret (results_cell_row rfl _ _ _ _ _ _ _ rfl hB3 Tryz.underlying96 rfl (by rw [info19]; simp [HL19.out])) rfl ⟨rfl, HU.out.trans hU2 (fun k hk => by simp at hk; right; have := HG.out; omega)⟩
end Go.Proofs.YtdehkaknbmbieaaGreat
namespace Go.Proofs.YtdehkaknbmbieaaGreat
set_option linter.unusedVariables false
set_option linter.unusedSimpArgs false
set_option linter.unusedSectionVars false

theorem wpAnyH_imp {P : Program} {md : Region.Mode} {ops : Array Oper} {Q : Exit → Act → World → Prop} {S S' : World → Prop} (h : ∀ w, S' w → S w) :
    ∀ (fuel : Nat) (listed : Array Bool) (a : Act) (w : World), wpAnyH P md ops Q S' fuel listed a w → wpAnyH P md ops Q S fuel listed a w
  | 0, _, _, _, k => k
  | fuel + 1, _, _, _, k => ⟨k.1, fun i hi => wpOp_mono (fun a' w' h' => ⟨h _ h'.1, wpAnyH_imp h fuel _ a' w' h'.2⟩) (k.2 i hi)⟩
theorem Upd.keep {W w : World} {p : Addr} {v : Value} (h : Upd [] W w) (hc : W.cell? p = some v) : w.cell? p = some v := (h.cell (World.block_lt_of_cell? W p hc) (by simp)).trans hc
theorem Upd.keepN {fp : List Nat} {W w : World} {p : Addr} {v : Value} (h : Upd fp W w) (hc : W.cell? p = some v) (hn : p.block ∉ fp) : w.cell? p = some v := (h.cell (World.block_lt_of_cell? W p hc) hn).trans hc
/-- Cells that are known. -/
def CF (w : World) : List (Addr × Value) → Prop
  | [] => True
  | x :: r => w.cell? x.1 = some x.2 ∧ CF w r
theorem CF.upd {w w' : World} {g : List Nat} (hU : Upd g w w') : ∀ {fs : List (Addr × Value)}, CF w fs → (∀ x ∈ fs, x.1.block ∉ g) → CF w' fs
  | [], _, _ => trivial
  | x :: r, h, hn => ⟨hU.keepN h.1 (hn x List.mem_cons_self), CF.upd hU h.2 (fun y hy => hn y (List.mem_cons_of_mem _ hy))⟩
theorem CF.set {w : World} {p : Addr} (u : Value) : ∀ {fs : List (Addr × Value)}, CF w fs → (∀ x ∈ fs, x.1 ≠ p) → CF (w.setCell p u) fs
  | [], _, _ => trivial
  | x :: r, h, hn => ⟨(World.cell?_setCell_other w p x.1 u (fun e => hn x List.mem_cons_self e.symm)).trans h.1, CF.set u h.2 (fun y hy => hn y (List.mem_cons_of_mem _ hy))⟩
structure HC (fp : List Nat) (W : World) (fs : List (Addr × Value)) (w : World) : Prop where
  upd : Upd fp W w
  cells : CF w fs
theorem HC.of {fp : List Nat} {W : World} {fs : List (Addr × Value)} (h : CF W fs) : HC fp W fs W := ⟨Upd.refl fp W, h⟩
theorem HC.drew {fp : List Nat} {W w : World} {fs : List (Addr × Value)} (h : HC fp W fs w) : HC fp W fs w.drew := ⟨h.upd.drew, CF.upd ((Upd.refl [] w).drew) h.cells (by simp)⟩
theorem HC.alloc {fp : List Nat} {W w : World} {fs : List (Addr × Value)} (h : HC fp W fs w) (o : Obj) : HC fp W fs (w.alloc o) := ⟨h.upd.alloc o, CF.upd ((Upd.refl [] w).alloc o) h.cells (by simp)⟩
theorem HC.then {fp : List Nat} {W w w' : World} {fs : List (Addr × Value)} (h : HC fp W fs w) (hU : Upd [] w w') : HC fp W fs w' := ⟨h.upd.trans hU (by simp), CF.upd hU h.cells (by simp)⟩
theorem HC.thenF {fp g : List Nat} {W w w' : World} {fs : List (Addr × Value)} (h : HC fp W fs w) (hU : Upd g w w') (hg : ∀ k, k ∈ g → k ∈ fp ∨ W.heap.size ≤ k) (hn : ∀ x ∈ fs, x.1.block ∉ g) : HC fp W fs w' := ⟨h.upd.trans hU hg, CF.upd hU h.cells hn⟩
theorem HC.set {fp : List Nat} {W w : World} {fs : List (Addr × Value)} (h : HC fp W fs w) (p : Addr) (u : Value) (hp : p.block ∈ fp ∨ W.heap.size ≤ p.block) (hn : ∀ x ∈ fs, x.1 ≠ p) : HC fp W fs (w.setCell p u) := ⟨h.upd.setCell hp u, CF.set u h.cells hn⟩
theorem CF.sub {w : World} : ∀ {fs fs' : List (Addr × Value)}, CF w fs' → (∀ x ∈ fs, x ∈ fs') → CF w fs
  | [], _, _, _ => trivial
  | x :: r, fs', h, hs => by
    refine ⟨?_, CF.sub h (fun y hy => hs y (List.mem_cons_of_mem _ hy))⟩
    have : ∀ {fs : List (Addr × Value)}, CF w fs → ∀ y ∈ fs, w.cell? y.1 = some y.2 := by
      intro fs
      induction fs with
      | nil => intro _ y hy; cases hy
      | cons z r ih =>
        intro h y hy
        rcases List.mem_cons.1 hy with rfl | hy
        · exact h.1
        · exact ih h.2 y hy
    exact this h x (hs x List.mem_cons_self)
theorem HC.more {fp : List Nat} {W z w : World} {fs fs' : List (Addr × Value)} (h : HC fp W fs z) (hs : ∀ x ∈ fs, x ∈ fs') (k : HC fp z fs' w) : HC fp W fs w := ⟨h.upd.trans k.upd (fun _ h => .inl h), k.cells.sub hs⟩
end Go.Proofs.YtdehkaknbmbieaaGreat

/- Package script: Parse: its walk. -/
import Derived.BigRegion
import Derived.BigRegionIn
import Derived.Sort.CutIn
import Derived.Test.YtigjingielnaoaaDoorQBE
namespace Go.Proofs.YtigjingielnaoaaDoor
set_option linter.unusedVariables false
set_option linter.unusedSimpArgs false
set_option linter.unusedSectionVars false
open Go.RowKit Go.Shelf
attribute [local go_sem] Oper.semAt_some
set_option linter.unusedVariables false
set_option linter.unusedSimpArgs false

theorem results_pa {fn : Func} {p q r : Tmp} (h : fn.results = #[.cell p 36, .cell q 3, .cell r 37]) (tmps : Array Value) (w : World) (g2 g3 g4 : Nat) (c0 c1 c2 : Value) (hp : tmps.getD p undef = .pointer (some ⟨g2, 0, none⟩)) (hq : tmps.getD q undef = .pointer (some ⟨g3, 0, none⟩)) (hr : tmps.getD r undef = .pointer (some ⟨g4, 0, none⟩)) (h2 : Blk w g2 [c0] 36) (h3 : Blk w g3 [c1] 3) (h4 : Blk w g4 [c2] 37) :
    (results fn tmps).run Tryd.prog w = .ok (.tuple #[c0, c1, c2]) w := by
  have e2 := h2.cell 0 rfl
  have e3 := h3.cell 0 rfl
  have e4 := h4.cell 0 rfl
  have hp2 : tmps[p]?.getD undef = .pointer (some ⟨g2, 0, none⟩) := by rw [← hp]; simp
  have hq2 : tmps[q]?.getD undef = .pointer (some ⟨g3, 0, none⟩) := by rw [← hq]; simp
  have hr2 : tmps[r]?.getD undef = .pointer (some ⟨g4, 0, none⟩) := by rw [← hr]; simp
  simp [results, h, go_sem, hp2, hq2, hr2, e2, e3, e4]
theorem splitC_plen (c : Nat) (l : List Nat) : ∀ p ∈ splitC c l, p.length ≤ l.length := fun p hp => (splitC_mem c l p hp).2
theorem rawS_size (s x : ByteArray) (h : x ∈ rawS s) : x.size ≤ s.size + 1 := by
  unfold rawS at h
  obtain ⟨p, hp, rfl⟩ := List.mem_map.1 h
  rw [size_strOf]
  unfold rawP at hp
  rcases List.mem_append.1 hp with hp | hp
  · obtain ⟨q, hq, rfl⟩ := List.mem_map.1 hp
    have := splitC_plen 10 (bytesOf s) q (List.dropLast_subset _ hq)
    rw [length_bytesOf] at this
    simp; omega
  · split at hp
    · cases hp
    · have hp := List.mem_singleton.1 hp
      subst hp
      have hl : 0 < (splitC 10 (bytesOf s)).length := List.length_pos_iff.2 (splitC_ne 10 _)
      have hm : (splitC 10 (bytesOf s)).getLastD [] ∈ splitC 10 (bytesOf s) := by rw [lastD_at _ hl]; exact List.getElem_mem _
      have := splitC_plen 10 (bytesOf s) _ hm
      rw [length_bytesOf] at this
      omega
/-- The line of a raw one. -/
def lnOf (x : ByteArray) : List Nat := trimL (bytesOf x)
theorem ln_all (s : ByteArray) : (rawS s).map lnOf = linesP (bytesOf s) := by
  have h1 : (rawS s).map lnOf = ((rawP (bytesOf s)).map trimL) := by
    unfold rawS
    rw [List.map_map]
    refine List.map_congr_left fun p hp => ?_
    show trimL (bytesOf (strOf p)) = trimL p
    rw [bytesOf_strOf p (fun x hx => ?_)]
    unfold rawP at hp
    rcases List.mem_append.1 hp with hp | hp
    · obtain ⟨q, hq, rfl⟩ := List.mem_map.1 hp
      rcases List.mem_append.1 hx with hx | hx
      · exact bytesOf_lt s x ((splitC_mem 10 _ q (List.dropLast_subset _ hq)).1 x hx)
      · simp at hx; omega
    · split at hp
      · cases hp
      · have hp := List.mem_singleton.1 hp
        subst hp
        have hl : 0 < (splitC 10 (bytesOf s)).length := List.length_pos_iff.2 (splitC_ne 10 _)
        have hm : (splitC 10 (bytesOf s)).getLastD [] ∈ splitC 10 (bytesOf s) := by rw [lastD_at _ hl]; exact List.getElem_mem _
        exact bytesOf_lt s x ((splitC_mem 10 _ _ hm).1 x hx)
  rw [h1, trim_raw]
/-- The events' lines so far. -/
def evL (pre : List ByteArray) : List (List Nat) := (pre.map lnOf).filter fun s => !skipL s
def goodL (pre : List ByteArray) : Prop := ∀ x ∈ pre, badL (lnOf x) = false
/-- Between two rounds. -/
def PrI (wz w0 : World) (b2 b3 b4 : Nat) (pre : List ByteArray) (W : World) : Prop :=
  (∃ v, Blk W b2 [v] 36 ∧ EvsAt wz.heap.size W v (evL pre)) ∧ Blk W b3 [.int .i64 (pre.length : Nat)] 3 ∧ Blk W b4 [.int .i64 0] 37 ∧ Upd [] w0 W
/-- Behind a return. -/
def PrX (w0 : World) (b2 b3 b4 : Nat) (pre : List ByteArray) (W : World) : Prop :=
  Blk W b2 [.slice none 0 0] 36 ∧ Blk W b3 [.int .i64 (pre.length : Nat)] 3 ∧ Blk W b4 [.int .i64 2] 37 ∧ Upd [] w0 W
theorem EvsAt.ownF {B B' : Nat} {w w' : World} {v : Value} {L : List (List Nat)} {row : Option Nat} (h : EvsAt B w v L) (hg : w.grownBy w' row) (hr : ∀ r, row = some r → B' ≤ r ∧ ∃ o : Obj, w.heap[r]? = some o ∧ o.isCells = false) : EvsAt B w' v L := by
  obtain ⟨M, e, h1, h2, h3⟩ := h
  exact ⟨M, e, h1.ownF hg hr, h2, fun x hx => ⟨(h3 x hx).1.ownF hg hr, (h3 x hx).2⟩⟩
theorem PrI.own {wz w0 : World} {b2 b3 b4 B : Nat} (hB : w0.heap.size ≤ B) : OwnFrom B (PrI wz w0 b2 b3 b4) := fun pre X C row hs hg hr => by
  obtain ⟨⟨v, h2, h5⟩, h3, h4, hu⟩ := hs
  exact ⟨⟨v, blk_ownF B b2 (fun (_ : Unit) => _) _ () X C row h2 hg hr, h5.ownF hg hr⟩, blk_ownF B b3 (fun (_ : Unit) => _) _ () X C row h3 hg hr, blk_ownF B b4 (fun (_ : Unit) => _) _ () X C row h4 hg hr, upd_ownF B [] w0 hB () X C row hu hg hr⟩
theorem PrX.own {w0 : World} {b2 b3 b4 B : Nat} (hB : w0.heap.size ≤ B) : OwnFrom B (PrX w0 b2 b3 b4) := fun pre X C row hs hg hr => by
  obtain ⟨h2, h3, h4, hu⟩ := hs
  exact ⟨blk_ownF B b2 (fun (_ : Unit) => _) _ () X C row h2 hg hr, blk_ownF B b3 (fun (_ : Unit) => _) _ () X C row h3 hg hr, blk_ownF B b4 (fun (_ : Unit) => _) _ () X C row h4 hg hr, upd_ownF B [] w0 hB () X C row hu hg hr⟩
theorem PrI.w2 {wz w0 : World} {b2 b3 b4 bs : Nat} {pre : List ByteArray} {A C : World} (h2 : b2 ≠ bs) (h3 : b3 ≠ bs) (h4 : b4 ≠ bs) (h5 : w0.heap.size ≤ bs) (h6 : bs < wz.heap.size) (hs : PrI wz w0 b2 b3 b4 pre A) (hAC : Own2 [bs] A C) : PrI wz w0 b2 b3 b4 pre C := by
  obtain ⟨⟨v, k2, ke⟩, k3, k4, ku⟩ := hs
  exact ⟨⟨v, k2.upd hAC.1 (by simpa using h2), ke.upd hAC.1 (fun k hk => by simp at hk; omega)⟩, k3.upd hAC.1 (by simpa using h3), k4.upd hAC.1 (by simpa using h4), ku.trans hAC.1 (fun k hk => by simp at hk; subst hk; exact .inr h5)⟩
theorem PrX.w2 {w0 : World} {b2 b3 b4 bs : Nat} {pre : List ByteArray} {A C : World} (h2 : b2 ≠ bs) (h3 : b3 ≠ bs) (h4 : b4 ≠ bs) (h5 : w0.heap.size ≤ bs) (hs : PrX w0 b2 b3 b4 pre A) (hAC : Own2 [bs] A C) : PrX w0 b2 b3 b4 pre C := by
  obtain ⟨k2, k3, k4, ku⟩ := hs
  exact ⟨k2.upd hAC.1 (by simpa using h2), k3.upd hAC.1 (by simpa using h3), k4.upd hAC.1 (by simpa using h4), ku.trans hAC.1 (fun k hk => by simp at hk; subst hk; exact .inr h5)⟩
theorem kk {fp : List Nat} {W W' : World} {bs B : Nat} (h : Upd fp W W') (hc : ∀ k ∈ fp, ∀ o, W.heap[k]? = some o → o.isCells = true) (hn : ∀ k ∈ fp, k ≠ bs) (hb : bs < W.heap.size) : KeepsFrom B W W' ∧ Keep [bs] W W' :=
  ⟨(h.others hc).from _, Keep.of_upd h (fun k hk => by
    simp at hk
    subst hk
    exact ⟨hb, fun hm => hn _ hm rfl⟩)⟩
theorem evL_snoc (pre : List ByteArray) (x : ByteArray) : evL (pre ++ [x]) = evL pre ++ (if skipL (lnOf x) = true then [] else [lnOf x]) := by
  unfold evL
  rw [List.map_append, List.filter_append]
  congr 1
  cases h : skipL (lnOf x) <;> simp [h]
theorem goodL_snoc {pre : List ByteArray} {x : ByteArray} (h : goodL pre) (hx : badL (lnOf x) = false) : goodL (pre ++ [x]) := fun y hy => by
  rcases List.mem_append.1 hy with hy | hy
  · exact h y hy
  · simp at hy; subst hy; exact hx
/-- Behind a round that leaves the line out. -/
theorem pr_skip {wz w0 W : World} {b2 b3 b4 bs : Nat} {pre : List ByteArray} {x : ByteArray} {v : Value} (g1 : w0.heap.size ≤ b2) (g2 : b2 < bs ∧ b3 < bs ∧ b4 < bs) (g3 : bs < wz.heap.size) (g4 : wz.heap.size ≤ W.heap.size) (g5 : b2 ≠ b3 ∧ b4 ≠ b3) (g6 : w0.heap.size ≤ b3)
    (h2 : Blk W b2 [v] 36) (he : EvsAt wz.heap.size W v (evL pre)) (h3 : Blk W b3 [.int .i64 (pre.length : Nat)] 3) (h4 : Blk W b4 [.int .i64 0] 37) (hu : Upd [] w0 W) (hg : goodL pre) (hx : skipL (lnOf x) = true) :
    KeepsFrom wz.heap.size W (W.setCell ⟨b3, 0, none⟩ (.int .i64 ((pre.length : Int) + 1))) ∧ Keep [bs] W (W.setCell ⟨b3, 0, none⟩ (.int .i64 ((pre.length : Int) + 1))) ∧
      PrI wz w0 b2 b3 b4 (pre ++ [x]) (W.setCell ⟨b3, 0, none⟩ (.int .i64 ((pre.length : Int) + 1))) ∧ Hid (goodL (pre ++ [x])) := by
  have hU : Upd [b3] W (W.setCell ⟨b3, 0, none⟩ (.int .i64 ((pre.length : Int) + 1))) := (Upd.refl _ _).setCell (.inl (by simp)) _
  have hk := kk (B := wz.heap.size) hU (fun k hk => by simp at hk; subst hk; exact h3.cellsOnly) (fun k hk => by simp at hk; omega) (show bs < W.heap.size by omega)
  refine ⟨hk.1, hk.2, ⟨⟨v, h2.setFar _ g5.1, ?_⟩, ?_, h4.setFar _ g5.2, hu.setCell (.inr g6) _⟩, Lib.hid (goodL_snoc hg (by unfold badL; rw [hx]; rfl))⟩
  · rw [evL_snoc, if_pos hx, List.append_nil]
    exact he.upd hU (fun k hk => by simp at hk; omega)
  · have := h3.set 0 (.int .i64 ((pre.length : Int) + 1))
    rw [List.length_append]; exact this
/-- Behind a round that ends in a line that is no event. -/
theorem pr_bad {wz w0 W W4 : World} {b2 b3 b4 bs : Nat} {pre : List ByteArray} {x : ByteArray} {v : Value} {B : Nat} (g1 : w0.heap.size ≤ b2) (g2 : b2 < bs ∧ b3 < bs ∧ b4 < bs) (g3 : bs < wz.heap.size) (g4 : wz.heap.size ≤ W.heap.size) (g5 : b2 ≠ b3 ∧ b4 ≠ b3 ∧ b2 ≠ b4) (g6 : w0.heap.size ≤ b3 ∧ w0.heap.size ≤ b4)
    (h2 : Blk W b2 [v] 36) (h3 : Blk W b3 [.int .i64 (pre.length : Nat)] 3) (h4 : Blk W b4 [.int .i64 0] 37) (hu : Upd [] w0 W) (hg : goodL pre) (hx : badL (lnOf x) = true)
    (hU : Upd [] (W.setCell ⟨b3, 0, none⟩ (.int .i64 ((pre.length : Int) + 1))) W4) :
    KeepsFrom B W (((W4.setCell ⟨b2, 0, none⟩ (.slice none 0 0)).setCell ⟨b3, 0, none⟩ (.int .i64 ((pre.length : Int) + 1))).setCell ⟨b4, 0, none⟩ (.int .i64 2)).drew ∧
      (Code.ret = Code.ret ∧ Hid (∃ p y, pre ++ [x] = p ++ [y] ∧ goodL p ∧ badL (lnOf y) = true)) ∧ PrX w0 b2 b3 b4 (pre ++ [x]) (((W4.setCell ⟨b2, 0, none⟩ (.slice none 0 0)).setCell ⟨b3, 0, none⟩ (.int .i64 ((pre.length : Int) + 1))).setCell ⟨b4, 0, none⟩ (.int .i64 2)).drew := by
  have hU1 : Upd [b3] W W4 := ((Upd.refl [b3] W).setCell (p := ⟨b3, 0, none⟩) (.inl (by simp)) _).trans hU (by simp)
  have hUF : Upd [b2, b3, b4] W (((W4.setCell ⟨b2, 0, none⟩ (.slice none 0 0)).setCell ⟨b3, 0, none⟩ (.int .i64 ((pre.length : Int) + 1))).setCell ⟨b4, 0, none⟩ (.int .i64 2)).drew :=
    ((((hU1.mono (fun k hk => .inl (by simp at hk ⊢; omega))).setCell (p := ⟨b2, 0, none⟩) (.inl (by simp)) _).setCell (p := ⟨b3, 0, none⟩) (.inl (by simp)) _).setCell (p := ⟨b4, 0, none⟩) (.inl (by simp)) _).drew
  have hk := kk (bs := bs) (B := B) hUF (fun k hk => by
    simp at hk
    rcases hk with rfl | rfl | rfl
    · exact h2.cellsOnly
    · exact h3.cellsOnly
    · exact h4.cellsOnly) (fun k hk => by simp at hk; omega) (by omega)
  have h24 : Blk W4 b2 [v] 36 := h2.upd hU1 (by simp; omega)
  have h34 : Blk W4 b3 [.int .i64 ((pre.length : Int) + 1)] 3 := (h3.set 0 (.int .i64 ((pre.length : Int) + 1))).upd hU (by simp)
  have h44 : Blk W4 b4 [.int .i64 0] 37 := h4.upd hU1 (by simp; omega)
  have hd : ∀ z : World, Upd [] z z.drew := fun z => (Upd.refl [] z).drew
  refine ⟨hk.1, ⟨rfl, Lib.hid ⟨pre, x, rfl, hg, hx⟩⟩, ?_, ?_, ?_, ?_⟩
  · exact (((h24.set 0 (.slice none 0 0)).setFar (a := ⟨b3, 0, none⟩) _ g5.1).setFar (a := ⟨b4, 0, none⟩) _ g5.2.2).upd (hd _) (by simp)
  · have := ((((h34.setFar (a := ⟨b2, 0, none⟩) (.slice none 0 0) (Ne.symm g5.1)).set 0 (.int .i64 ((pre.length : Int) + 1))).setFar (a := ⟨b4, 0, none⟩) (.int .i64 2) (Ne.symm g5.2.1)).upd (hd _) (by simp))
    rw [List.length_append]; exact this
  · exact (((h44.setFar (a := ⟨b2, 0, none⟩) _ (Ne.symm g5.2.2)).setFar (a := ⟨b3, 0, none⟩) _ g5.2.1).set 0 (.int .i64 2)).upd (hd _) (by simp)
  · refine hu.trans hUF (fun k hk => .inr ?_)
    simp at hk
    omega
/-- Behind a round with one event more. -/
theorem pr_app {wz w0 W W4 W5 : World} {b2 b3 b4 bs : Nat} {pre : List ByteArray} {x : ByteArray} {v v5 u : Value} {o : Obj} {M : List (List Nat × Value)} (g1 : w0.heap.size ≤ b2) (g2 : b2 < bs ∧ b3 < bs ∧ b4 < bs) (g3 : bs < wz.heap.size) (g4 : wz.heap.size ≤ W.heap.size) (g5 : b2 ≠ b3 ∧ b4 ≠ b3 ∧ b2 ≠ b4) (g6 : w0.heap.size ≤ b3 ∧ w0.heap.size ≤ b4)
    (h2 : Blk W b2 [v] 36) (hM : M.map Prod.fst = evL pre) (hr : Row W 44 9 v M.length (evCells M)) (ho : ∀ k, v.ownBlock = some k → wz.heap.size ≤ k) (hxx : ∀ y ∈ M, Row W 3 1 y.2 (readR y.1).l.length (zsV (readR y.1).l) ∧ ∀ k, y.2.ownBlock = some k → wz.heap.size ≤ k)
    (h3 : Blk W b3 [.int .i64 (pre.length : Nat)] 3) (h4 : Blk W b4 [.int .i64 0] 37) (hu : Upd [] w0 W) (hg : goodL pre) (hsk : skipL (lnOf x) = false) (hok : readOk (lnOf x) = true)
    (hU : Upd [] (W.setCell ⟨b3, 0, none⟩ (.int .i64 ((pre.length : Int) + 1))) W4) (hur : Row W4 3 1 u (readR (lnOf x)).l.length (zsV (readR (lnOf x)).l)) (huo : ∀ k, u.ownBlock = some k → wz.heap.size ≤ k)
    (hR : Row W5 44 9 v5 (M.length + 1) (evCells M ++ ((readR (lnOf x)).at u).cells)) (hU5 : Upd v.ownBlock.toList (W4.alloc o) W5) (hT : Later (W4.alloc o) v v5) :
    KeepsFrom wz.heap.size W (W5.setCell ⟨b2, 0, none⟩ v5) ∧ Keep [bs] W (W5.setCell ⟨b2, 0, none⟩ v5) ∧ PrI wz w0 b2 b3 b4 (pre ++ [x]) (W5.setCell ⟨b2, 0, none⟩ v5) ∧ Hid (goodL (pre ++ [x])) := by
  have hU1 : Upd [b3] W W4 := ((Upd.refl [b3] W).setCell (p := ⟨b3, 0, none⟩) (.inl (by simp)) _).trans hU (by simp)
  have hUa : Upd [b3] W (W4.alloc o) := hU1.alloc o
  have hUb : Upd (b2 :: b3 :: v.ownBlock.toList) W W5 := (hUa.mono (fun k hk => .inl (by simp at hk ⊢; exact .inr (.inl hk)))).trans hU5 (fun k hk => .inl (by simp at hk ⊢; exact .inr (.inr hk)))
  have hUF : Upd (b2 :: b3 :: v.ownBlock.toList) W (W5.setCell ⟨b2, 0, none⟩ v5) := hUb.setCell (.inl (by simp)) _
  have hnb : ∀ k, k < wz.heap.size → k ∉ v.ownBlock.toList := fun k hk hm => by have := ho k (by simpa using hm); omega
  have hk := kk (bs := bs) (B := wz.heap.size) hUF (fun k hk => by
    rcases List.mem_cons.1 hk with rfl | hk
    · exact h2.cellsOnly
    · rcases List.mem_cons.1 hk with rfl | hk
      · exact h3.cellsOnly
      · exact hr.cellsOnly k (by simpa using hk)) (fun k hk => by
    rcases List.mem_cons.1 hk with rfl | hk
    · omega
    · rcases List.mem_cons.1 hk with rfl | hk
      · omega
      · have := ho k (by simpa using hk); omega) (by omega)
  have hr4 : Row W4 44 9 v M.length (evCells M) := hr.upd hU1 (fun k hk hm => by have := ho k hk; simp at hm; omega)
  have hx4 : ∀ y ∈ M, Row W4 3 1 y.2 (readR y.1).l.length (zsV (readR y.1).l) ∧ ∀ k, y.2.ownBlock = some k → wz.heap.size ≤ k := fun y hy => ⟨(hxx y hy).1.upd hU1 (fun k hk hm => by have := (hxx y hy).2 k hk; simp at hm; omega), (hxx y hy).2⟩
  have hs4 : wz.heap.size ≤ W4.heap.size := Nat.le_trans g4 hU1.size
  have hev := EvsAt.app (s := lnOf x) hr4 ho hx4 hur huo hs4 hR hU5 hT
  have h25 : Blk W5 b2 [v] 36 := (h2.upd hUa (by simp; omega)).upd hU5 (hnb b2 (by omega))
  have h34 : Blk W4 b3 [.int .i64 ((pre.length : Int) + 1)] 3 := (h3.set 0 (.int .i64 ((pre.length : Int) + 1))).upd hU (by simp)
  have h35 : Blk W5 b3 [.int .i64 ((pre.length : Int) + 1)] 3 := (h34.alloc o).upd hU5 (hnb b3 (by omega))
  have h45 : Blk W5 b4 [.int .i64 0] 37 := (h4.upd hUa (by simp; omega)).upd hU5 (hnb b4 (by omega))
  refine ⟨hk.1, hk.2, ⟨⟨v5, h25.set 0 v5, ?_⟩, ?_, h45.setFar _ (Ne.symm g5.2.2), ?_⟩, Lib.hid (goodL_snoc hg (by unfold badL; rw [hok, hsk]; rfl))⟩
  · rw [evL_snoc, if_neg (by rw [hsk]; decide), ← hM]
    exact hev.upd ((Upd.refl [b2] W5).setCell (.inl (by simp)) v5) (fun k hk => by simp at hk; omega)
  · have := h35.setFar (a := ⟨b2, 0, none⟩) v5 (Ne.symm g5.1)
    rw [List.length_append]; exact this
  · refine hu.trans hUF (fun k hk => .inr ?_)
    rcases List.mem_cons.1 hk with rfl | hk
    · exact g1
    · rcases List.mem_cons.1 hk with rfl | hk
      · exact g6.1
      · have := ho k (by simpa using hk); omega
set_option maxRecDepth 100000 in
set_option maxHeartbeats 12800000 in
theorem sparse_any (S : ByteArray) (w : World) (hs : S.size ≤ 90000) :
    Calls Tryd.prog 14 #[.string S] w fun r w' => (∃ v, r = .returned (.tuple #[v, .int .i64 ((parseP (linesP (bytesOf S))).2.1 : Nat), .int .i64 ((parseP (linesP (bytesOf S))).2.2 : Nat)]) ∧ EvsAt w.heap.size w' v (parseP (linesP (bytesOf S))).1) ∧ Upd [] w w' := by
  obtain ⟨i0, hi, hz0, hz1, hz2⟩ := info_parts infoEvt
  have HCN := Lib.hid (fun z => countC_any S 10 z)
  have HSF := Lib.hid (fun z => hasSufS_any S z (by omega))
  have HLA := Lib.hid (ln_all S)
  have HLN := Lib.hid (lines_len (bytesOf S))
  have HSL := Lib.hid (splitC_len 10 (bytesOf S))
  have hcp := List.countP_le_length (p := fun x => decide (x = 10)) (l := bytesOf S)
  rw [length_bytesOf] at hcp
  have hem := isEmpty_of S
  have HRS := Lib.hid (fun x hx => rawS_size S x hx)
  obtain ⟨l, hl⟩ : ∃ l, bytesOf S = l := ⟨_, rfl⟩
  rw [hl] at HCN HSF HLN HSL hem hcp HLA ⊢
  clear hl
  obtain ⟨NC, hNC⟩ : ∃ NC, (splitC (10 : UInt8).toNat l).length - 1 = NC := ⟨_, rfl⟩
  have hNC2 : (splitC 10 l).length - 1 = NC := hNC
  rw [hNC] at HCN
  rw [hNC2] at HLN
  have hNCb : NC ≤ S.size := by have := HSL.out; omega
  clear hNC hNC2 hcp HSL
  obtain ⟨NL, hNL⟩ : ∃ NL, (linesP l).length = NL := ⟨_, rfl⟩
  have HNL := Lib.hid hNL
  rw [hNL] at HLN
  clear hNL
  have H20 := Lib.hid ((((Blk.new w [.slice none 0 0] 36).alloc (.cells #[.int .i64 0] 3))).alloc (.cells #[.int .i64 0] 37))
  have H30 : Hid (Blk (((w.alloc (.cells #[.slice none 0 0] 36)).alloc (.cells #[.int .i64 0] 3)).alloc (.cells #[.int .i64 0] 37)) (w.heap.size + 1) [.int .i64 0] 3) := Lib.hid (by
    have h := (Blk.new (w.alloc (.cells #[.slice none 0 0] 36)) [.int .i64 0] 3).alloc (.cells #[.int .i64 0] 37)
    simpa using h)
  have H40 : Hid (Blk (((w.alloc (.cells #[.slice none 0 0] 36)).alloc (.cells #[.int .i64 0] 3)).alloc (.cells #[.int .i64 0] 37)) (w.heap.size + 1 + 1) [.int .i64 0] 37) := Lib.hid (by
    have h := Blk.new ((w.alloc (.cells #[.slice none 0 0] 36)).alloc (.cells #[.int .i64 0] 3)) [.int .i64 0] 37
    simpa using h)
  have HU0 := Lib.hid ((((Upd.refl [] w).alloc (.cells #[.slice none 0 0] 36)).alloc (.cells #[.int .i64 0] 3)).alloc (.cells #[.int .i64 0] 37))
  refine (callsIn_wide (n := 9)).1 ?_
  refine callsIn_of_wp_marks Tryd.func14 rfl trivial ?_ rfl
  simp only [Tryd.ntmps14, List.size_toArray, List.length_cons, List.length_nil, Nat.reduceAdd, Nat.reduceSub, Array.replicate_succ, Array.replicate_zero, List.push_toArray, List.append_toArray, List.nil_append, List.cons_append]
  refine wpIn_wide.2 ?_
  let QQ : Exit → Act → World → Prop := bodyPost Tryd.prog Tryd.f14 (fun _ _ => True)
  go_upto_region 1 with fail
  change Code.wp _ _ _ _ (((w.alloc (.cells #[.slice none 0 0] 36)).alloc (.cells #[.int .i64 0] 3)).alloc (.cells #[.int .i64 0] 37))
  generalize ((w.alloc (.cells #[.slice none 0 0] 36)).alloc (.cells #[.int .i64 0] 3)).alloc (.cells #[.int .i64 0] 37) = w1 at *
  obtain ⟨b2, hb2⟩ : ∃ b2, w.heap.size = b2 := ⟨_, rfl⟩
  obtain ⟨b3, hb3⟩ : ∃ b3, b2 + 1 = b3 := ⟨_, rfl⟩
  obtain ⟨b4, hb4⟩ : ∃ b4, b3 + 1 = b4 := ⟨_, rfl⟩
  have HB := Lib.hid (show w.heap.size = b2 ∧ b3 = b2 + 1 ∧ b4 = b2 + 2 by omega)
  rw [hb2] at H20 H30 H40 ⊢
  rw [hb3] at H30 H40 ⊢
  rw [hb4] at H40 ⊢
  have hn23 : b2 ≠ b3 := by omega
  have hn24 : b2 ≠ b4 := by omega
  have hn34 : b3 ≠ b4 := by omega
  have hn32 : b3 ≠ b2 := by omega
  have hn42 : b4 ≠ b2 := by omega
  have hn43 : b4 ≠ b3 := by omega
  clear hb2 hb3 hb4
  go_wp2_with fail
  refine (HCN.out _).mono ?_
  rintro e w2 ⟨rfl, hw2⟩
  subst hw2
  go_upto_region 2 with fail
  go_cut [17] (fun s17 wx => s17 = .bool (decide (l ≠ [] ∧ endN l = false)) ∧ wx = w1)
  case first =>
    by_cases hl0 : l = []
    · have hem2 : S.toList.isEmpty = true := by rw [hem]; exact decide_eq_true hl0
      have HD : Hid (decide (l ≠ [] ∧ endN l = false) = false) := Lib.hid (by simp [hl0])
      clear hem hl0
      go_wp2
      go_meet
      exact ⟨by rw [HD.out], rfl⟩
    · have hem2 : S.toList.isEmpty = false := by rw [hem]; exact decide_eq_false hl0
      have HD : Hid (decide (l ≠ [] ∧ endN l = false) = !endN l) := Lib.hid (by cases endN l <;> simp [hl0])
      clear hem hl0
      generalize endN l = EL at *
      go_wp2_with fail
      refine (HSF.out _).mono ?_
      rintro e w3 ⟨rfl, hw3⟩
      subst hw3
      go_wp2
      go_meet
      exact ⟨by rw [HD.out], rfl⟩
  case rest =>
  obtain ⟨rfl, rfl⟩ := hcut
  generalize wc = w1 at *
  go_upto_if 17 with fail
  go_cut [5] (fun s5 wx => s5 = .int .i64 (NL : Nat) ∧ wx = w1)
  case first =>
    by_cases hd : l ≠ [] ∧ endN l = false
    · have HN : NL = NC + 1 := by have := HLN.out; rw [if_pos hd] at this; exact this
      have hdt : decide (l ≠ [] ∧ endN l = false) = true := decide_eq_true hd
      have hw1 : IntKind.i64.wrap ((NC : Int) + 1) = (NC : Int) + 1 := IntWalk.i64_in _ (by omega)
      rw [hdt]
      clear hd hdt
      subst HN
      go_wp2
      go_meet
      exact ⟨by first | rfl | go_num, rfl⟩
    · have HN : NL = NC := by have := HLN.out; rw [if_neg hd] at this; exact this
      have hdt : decide (l ≠ [] ∧ endN l = false) = false := decide_eq_false hd
      rw [hdt]
      clear hd hdt
      subst HN
      go_wp2
      go_meet
      exact ⟨rfl, rfl⟩
  case rest =>
  obtain ⟨rfl, rfl⟩ := hcut
  generalize wc = w1 at *
  have e2 := H20.out.cell 0 rfl
  have e3 := H30.out.cell 0 rfl
  have e4 := H40.out.cell 0 rfl
  have g2 := H20.out.frz 0
  have g3 := H30.out.frz 0
  have g4 := H40.out.frz 0
  by_cases hbig : 2000 < NL
  · have hbz : (2000 : Int) < (NL : Int) := by omega
    have HPL : Hid (parseP (linesP l) = ([], 0, 4)) := Lib.hid (parse_long (by rw [HNL.out]; exact hbig))
    go_wp2
    exact ⟨_, results_pa rfl _ _ b2 b3 b4 _ _ _ rfl rfl rfl (((H20.out.set 0 (.slice none 0 0)).setFar (a := ⟨b3, 0, none⟩) _ hn23).setFar (a := ⟨b4, 0, none⟩) _ hn24) (((H30.out.setFar (a := ⟨b2, 0, none⟩) _ hn32).set 0 (.int .i64 0)).setFar (a := ⟨b4, 0, none⟩) _ hn34) (((H40.out.setFar (a := ⟨b2, 0, none⟩) _ hn42).setFar (a := ⟨b3, 0, none⟩) _ hn43).set 0 (.int .i64 4)),
      ⟨⟨_, by rw [HPL.out]; rfl, by rw [HPL.out]; exact EvsAt.nil _ _⟩, ((HU0.out.setCell (p := ⟨b2, 0, none⟩) (.inr (by have := HB.out; simp; omega)) _).setCell (p := ⟨b3, 0, none⟩) (.inr (by have := HB.out; simp; omega)) _).setCell (p := ⟨b4, 0, none⟩) (.inr (by have := HB.out; simp; omega)) _⟩⟩
  · have hbz : ¬ (2000 : Int) < (NL : Int) := by omega
    have HRL : Hid ((rawS S).length = NL) := Lib.hid (by rw [← HNL.out, ← HLA.out, List.length_map])
    go_wp2_with fail
    refine (lines_any S w1).mono ?_
    rintro e w3 ⟨rfl, hw3⟩
    have HS3 : Hid (Blk w3 w1.heap.size [.string S] 9) := Lib.hid (by rw [hw3]; exact Blk.new w1 [.string S] 9)
    have hA3 : Upd [] w1 w3 := by rw [hw3]; exact (Upd.refl _ _).alloc _
    have hz3 : w3.heap.size = w1.heap.size + 1 := by rw [hw3]; simp
    have HI3 : Hid (PrI w3 w b2 b3 b4 [] w3) := Lib.hid ⟨⟨.slice none 0 0, H20.out.upd hA3 (by simp), EvsAt.nil _ _⟩, H30.out.upd hA3 (by simp), H40.out.upd hA3 (by simp), HU0.out.then hA3⟩
    have HLT := Lib.hid (show b2 < w1.heap.size ∧ b3 < w1.heap.size ∧ b4 < w1.heap.size from ⟨H20.out.lt, H30.out.lt, H40.out.lt⟩)
    clear hw3 hA3 H20 H30 H40 HU0 e2 e3 e4 g2 g3 g4
    obtain ⟨bs, hbs⟩ : ∃ bs, w1.heap.size = bs := ⟨_, rfl⟩
    rw [hbs] at HS3 hz3 HLT ⊢
    clear hbs
    have HZ3 := Lib.hid hz3
    clear hz3
    go_wp2_with fail
    refine wp_act ?_
    intro fr hfr
    refine Code.wp_mono (Q := fun e a' W => (e = .normal ∨ e = .ret) ∧ ∃ D pre, a' = { fr with defers := { target := .collected D, args := #[] } :: fr.defers } ∧ w3.heap.size ≤ D ∧ W.heap[D]? = some (.deferred (some [])) ∧
      Hid ((e = .normal ∧ pre = rawS S ∧ goodL pre ∧ PrI w3 w b2 b3 b4 pre W) ∨ (e = .ret ∧ pre <+: rawS S ∧ (∃ p x, pre = p ++ [x] ∧ goodL p ∧ badL (lnOf x) = true) ∧ PrX w b2 b3 b4 pre W))) ?cont ((wpIn_wide (n := 9)).1 ?main)
    case main =>
      refine loopNA (gf := 83) (lb := #[.pointer (some ⟨bs, 0, none⟩)]) (by rw [hfr]; rfl) (enters_of Tryd.func83 (by kernel_rfl) rfl)
        (lines_seq bs S w3 HS3.out (by omega)) (by intro k hk; simp at hk; have := HZ3.out; omega) (fun _ => rfl)
        (fun pre W => PrI w3 w b2 b3 b4 pre W ∧ Hid (goodL pre))
        (fun c pre W => (c = .ret ∧ Hid (∃ p x, pre = p ++ [x] ∧ goodL p ∧ badL (lnOf x) = true)) ∧ PrX w b2 b3 b4 pre W)
        ?act
        (OwnFrom.and (PrI.own (by have := HB.out; have := HLT.out; have := HZ3.out; omega)) (ownFrom_pure _ _)) (fun c => OwnFrom.and (ownFrom_pure _ _) (PrX.own (by have := HB.out; have := HLT.out; have := HZ3.out; omega)))
        ?iw ?ixw ⟨HI3.out, Lib.hid (fun x hx => by cases hx)⟩ ?assign ?body ?done ?stop
      case assign =>
        intro L1 x W K hK
        subst hfr
        gi_wp2
        exact hK
      case iw =>
        rintro s' A C ⟨h1, h2⟩ hAC
        have := HB.out
        have := HLT.out
        have := HZ3.out
        exact ⟨h1.w2 (by omega) (by omega) (by omega) (by omega) (by omega) hAC, h2⟩
      case ixw =>
        rintro c s' A C ⟨h1, h2⟩ hAC
        have := HB.out
        have := HLT.out
        exact ⟨h1, h2.w2 (by omega) (by omega) (by omega) (by omega) hAC⟩
      case body =>
        rintro L1 pre x W hsz hfp ⟨⟨⟨v, h2, he⟩, h3, h4, hu⟩, hg⟩ hnx
        subst hfr
        have hxm : x ∈ rawS S := hnx.subset (by simp)
        have hxs := HRS.out x hxm
        have hpl : pre.length + 1 ≤ NL := by
          have := hnx.length_le
          rw [HRL.out] at this
          simpa using this
        have hTX := trimN_eq x
        have hTL : lnOf x = trimL (bytesOf x) := rfl
        rw [← hTL] at hTX
        clear hTL
        have HTS := Lib.hid (fun z => trimSuf_any x z (by omega))
        have hts : (trimN x).size ≤ 90001 := by
          unfold trimN; split
          · rw [ByteArray.size_extract]; omega
          · omega
        obtain ⟨v1, v2, hvf⟩ := he.form
        obtain ⟨N, hN⟩ : ∃ N, (evL pre).length = N := ⟨_, rfl⟩
        have hNp : N ≤ pre.length := by
          rw [← hN]; unfold evL
          exact Nat.le_trans (List.length_filter_le _ _) (by rw [List.length_map]; exact Nat.le_refl _)
        have HN := Lib.hid hN
        rw [hN] at hvf
        clear hN
        have HH2 := Lib.hid h2
        have HHE := Lib.hid he
        have HH3 := Lib.hid h3
        have HH4 := Lib.hid h4
        have HHU := Lib.hid hu
        have HHG := hg
        have HW := Lib.hid hsz
        have HPN := Lib.hid hpl
        have c3 := h3.cell 0 rfl
        have f3 := h3.frz 0
        have hw1 : IntKind.i64.wrap ((pre.length : Int) + 1) = (pre.length : Int) + 1 := IntWalk.i64_in _ (by omega)
        clear h2 he h3 h4 hu hg hnx hxm hxs hpl hfp hsz
        obtain ⟨TX, hTXe⟩ : ∃ TX, trimN x = TX := ⟨_, rfl⟩
        rw [hTXe] at hTX hts HTS
        clear hTXe
        have hem2 := isEmpty_of TX
        rw [hTX] at hem2
        gi_wp2_with fail
        refine ⟨trivial, (CallsIn.inRound L1 (callsIn_wide.2 (HTS.out _))).mono ?_⟩
        rintro e W2 ⟨rfl, rfl⟩
        by_cases hem0 : lnOf x = []
        · have hem3 : TX.toList.isEmpty = true := by rw [hem2]; exact decide_eq_true hem0
          have HE := Lib.hid (pr_skip (wz := w3) (x := x) (bs := bs) (by have := HB.out; omega) HLT.out (by have := HZ3.out; omega) HW.out ⟨hn23, hn43⟩ (by have := HB.out; omega) HH2.out HHE.out HH3.out HH4.out HHU.out HHG.out (by unfold skipL; simp [hem0]))
          clear hem2 hem0
          gi_wp2
          exact HE.out
        · have hem3 : TX.toList.isEmpty = false := by rw [hem2]; exact decide_eq_false hem0
          have h0 : 0 < TX.size := by
            rcases Nat.eq_zero_or_pos TX.size with h | h
            · exfalso; apply hem0; rw [← hTX]; exact List.eq_nil_of_length_eq_zero (by rw [length_bytesOf]; exact h)
            · exact h
          have hhd : (lnOf x).head? = some (TX[0].toNat) := by
            rw [← hTX, List.head?_eq_getElem?, List.getElem?_eq_getElem (by rw [length_bytesOf]; exact h0), bytesOf_get TX 0 h0]
          by_cases h35 : TX[0].toNat = 35
          · have h35b : (((TX[0].toNat : Nat) : Int) == 35) = true := by rw [beq_iff_eq]; omega
            have HE := Lib.hid (pr_skip (wz := w3) (x := x) (bs := bs) (by have := HB.out; omega) HLT.out (by have := HZ3.out; omega) HW.out ⟨hn23, hn43⟩ (by have := HB.out; omega) HH2.out HHE.out HH3.out HH4.out HHU.out HHG.out (by unfold skipL; rw [hhd, h35]; simp))
            clear hem2 hem0 hhd h35
            gi_wp2
            exact HE.out
          · have h35b : (((TX[0].toNat : Nat) : Int) == 35) = false := by rw [beq_eq_false_iff_ne]; omega
            have HSK : Hid (skipL (lnOf x) = false) := Lib.hid (by unfold skipL; rw [hhd]; simp [hem0]; omega)
            have HRD := sread_any TX
            rw [hTX] at HRD
            have HRD := Lib.hid (fun z => HRD z (by omega))
            clear hem2 hem0 hhd h35
            obtain ⟨RE, hRE⟩ : ∃ RE, readR (lnOf x) = RE := ⟨_, rfl⟩
            obtain ⟨OKB, hOKB⟩ : ∃ b, readOk (lnOf x) = b := ⟨_, rfl⟩
            have HRE := Lib.hid hRE
            have HOKB := Lib.hid hOKB
            rw [hRE, hOKB] at HRD
            clear hRE hOKB
            obtain ⟨ro, rp, rq, rk, rm, rt, rD, rn, rv, rl⟩ := RE
            unfold EvN.at EvN.val EvN.cells at HRD
            dsimp only at HRD
            subst hvf
            gi_wp2_with fail
            refine ⟨trivial, (CallsIn.inRound L1 (callsIn_wide.2 (HRD.out _))).mono ?_⟩
            rintro e W3 ⟨⟨u, rfl, hur, huo⟩, hu3⟩
            obtain ⟨ua, uc, huf⟩ := hur.form
            subst huf
            have HUR := Lib.hid hur
            have HUO := Lib.hid huo
            have HU3 := Lib.hid hu3
            clear hur huo hu3
            have h23 := Lib.hid ((HH2.out.setFar (a := ⟨b3, 0, none⟩) (.int .i64 ((pre.length : Int) + 1)) hn23).upd HU3.out (by simp))
            have h33 := Lib.hid ((HH3.out.set 0 (.int .i64 ((pre.length : Int) + 1))).upd HU3.out (by simp))
            have h43 := Lib.hid ((HH4.out.setFar (a := ⟨b3, 0, none⟩) (.int .i64 ((pre.length : Int) + 1)) hn43).upd HU3.out (by simp))
            clear c3 f3
            have ha : Upd [] W3 (W3.alloc (.cells #[.int .i64 ro, .string rp, .string rq, .int .i64 rk, .int .i64 rm, .int .u32 (rt : Nat), .string rD, .int .i64 rn, .slice ua rl.length uc] 44 )) := (Upd.refl [] W3).alloc _
            have h24 := Lib.hid (h23.out.alloc (.cells #[.int .i64 ro, .string rp, .string rq, .int .i64 rk, .int .i64 rm, .int .u32 (rt : Nat), .string rD, .int .i64 rn, .slice ua rl.length uc] 44 ))
            have h34 := Lib.hid (h33.out.alloc (.cells #[.int .i64 ro, .string rp, .string rq, .int .i64 rk, .int .i64 rm, .int .u32 (rt : Nat), .string rD, .int .i64 rn, .slice ua rl.length uc] 44 ))
            have h44 := Lib.hid (h43.out.alloc (.cells #[.int .i64 ro, .string rp, .string rq, .int .i64 rk, .int .i64 rm, .int .u32 (rt : Nat), .string rD, .int .i64 rn, .slice ua rl.length uc] 44 ))
            have h74 := Lib.hid (Blk.new W3 [.int .i64 ro, .string rp, .string rq, .int .i64 rk, .int .i64 rm, .int .u32 (rt : Nat), .string rD, .int .i64 rn, .slice ua rl.length uc] 44 )
            have HU4 := Lib.hid (HU3.out.then ha)
            have HUR4 := Lib.hid (HUR.out.upd ha (by simp))
            have HW3 : Hid (W.heap.size ≤ W3.heap.size) := Lib.hid (by have := HU3.out.size; simpa using this)
            clear ha h23 h33 h43 HU3 HUR
            cases OKB
            · gi_wp2_with fail
              generalize W3.alloc (.cells #[.int .i64 ro, .string rp, .string rq, .int .i64 rk, .int .i64 rm, .int .u32 (rt : Nat), .string rD, .int .i64 rn, .slice ua rl.length uc] 44 ) = W4 at *
              have HE := Lib.hid (pr_bad (wz := w3) (x := x) (bs := bs) (B := w3.heap.size) (by have := HB.out; omega) HLT.out (by have := HZ3.out; omega) HW.out ⟨hn23, hn43, hn24⟩ (by have := HB.out; omega) HH2.out HH3.out HH4.out HHU.out HHG.out (by unfold badL; rw [HSK.out, HOKB.out]; rfl) HU4.out)
              have h24d := Lib.hid (h24.out.upd ((Upd.refl [] _).drew) (by simp))
              have h34d := Lib.hid (h34.out.upd ((Upd.refl [] _).drew) (by simp))
              have h44d := Lib.hid (h44.out.upd ((Upd.refl [] _).drew) (by simp))
              have k2 := h24d.out.cell 0 rfl
              have m2 := h24d.out.frz 0
              refine regionIn_held (S := fun w' => Blk w' b3 [.int .i64 ((pre.length : Int) + 1)] 3) (by kernel_rfl) (by kernel_rfl) h34d.out (fun hHeld K hKQ => ?_)
              change wpAnyH _ _ _ _ _ 4 #[false, false, false, false] _ _
              refine heldTake (i := 0) (d := some 43) (v := ?v0_1) rfl rfl (by kernel_rfl) (by kernel_rfl) (by kernel_rfl) (fun _ _ _ h => h) (by rfl) ?hy0_1 (by assumption) ?r0_1
              case hy0_1 => (intro w5 hSw; have q0 := hSw.cell 0 rfl; go_simp; try with_reducible rfl)
              try simp only [Act.put, List.setIfInBounds_toArray, List.set_cons_zero, List.set_cons_succ]
              change wpAnyH _ _ _ _ _ 3 #[true, false, false, false] _ _
              refine wpAnyH_ready (rs := [1]) (by kernel_rfl) (by simp) ?_
              refine AllReadyH.cons rfl (fun K hK => ?_) AllReadyH.nil
              go_simp
              have k31 := ((h34.out.setFar (a := ⟨b2, 0, none⟩) (.slice none 0 0) hn32).upd ((Upd.refl [] _).drew) (by simp)).cell 0 rfl
              have m31 := ((h34.out.setFar (a := ⟨b2, 0, none⟩) (.slice none 0 0) hn32).upd ((Upd.refl [] _).drew) (by simp)).frz 0
              go_wp2
              refine hK.out _ _ (hHeld.setFar (a := ⟨b2, 0, none⟩) _ hn32) (fun hHeld => ?_)
              clear hK K
              try simp only [Act.put, List.setIfInBounds_toArray, List.set_cons_zero, List.set_cons_succ]
              change wpAnyH _ _ _ _ _ 2 #[true, true, false, false] _ _
              refine wpAnyH_ready (rs := [2]) (by kernel_rfl) (by simp) ?_
              refine AllReadyH.cons rfl (fun K hK => ?_) AllReadyH.nil
              go_simp
              have k41 := (((h44.out.setFar (a := ⟨b2, 0, none⟩) (.slice none 0 0) hn42).setFar (a := ⟨b3, 0, none⟩) (.int .i64 ((pre.length : Int) + 1)) hn43).upd ((Upd.refl [] _).drew) (by simp)).cell 0 rfl
              have m41 := (((h44.out.setFar (a := ⟨b2, 0, none⟩) (.slice none 0 0) hn42).setFar (a := ⟨b3, 0, none⟩) (.int .i64 ((pre.length : Int) + 1)) hn43).upd ((Upd.refl [] _).drew) (by simp)).frz 0
              go_wp2
              refine hK.out _ _ (hHeld.set 0 (.int .i64 ((pre.length : Int) + 1))) (fun hHeld => ?_)
              clear hK K
              try simp only [Act.put, List.setIfInBounds_toArray, List.set_cons_zero, List.set_cons_succ]
              change wpAnyH _ _ _ _ _ 1 #[true, true, true, false] _ _
              refine wpAnyH_ready (rs := [3]) (by kernel_rfl) (by simp) ?_
              refine AllReadyH.cons rfl (fun K hK => ?_) AllReadyH.nil
              go_simp
              skip
              go_wp2
              refine hK.out _ _ (hHeld.setFar (a := ⟨b4, 0, none⟩) _ hn34) (fun hHeld => ?_)
              clear hK K
              try simp only [Act.put, List.setIfInBounds_toArray, List.set_cons_zero, List.set_cons_succ]
              change wpAnyH _ _ _ _ _ 0 #[true, true, true, true] _ _
              refine wpAnyH_done (by kernel_rfl) ?_ 0
              refine hKQ _ _ ?_
              gi_wp2
              exact ⟨HE.out.1, ⟨rfl, HE.out.2.1.2⟩, HE.out.2.2⟩
            · obtain ⟨M, hM, hr, ho, hxx⟩ := HHE.out
              have hMN : M.length = N := by rw [← HN.out, ← hM, List.length_map]
              have HM := Lib.hid hM
              have HO := Lib.hid ho
              have HX := Lib.hid hxx
              have HR0 := Lib.hid hr
              have HMN := Lib.hid hMN
              have hr4 : Row (W3.alloc (.cells #[.int .i64 ro, .string rp, .string rq, .int .i64 rk, .int .i64 rm, .int .u32 (rt : Nat), .string rD, .int .i64 rn, .slice ua rl.length uc] 44 )) 44 9 (.slice v1 N v2) N (evCells M) := by
                have h1 := (hr.upd ((Upd.refl [b3] W).setCell (p := ⟨b3, 0, none⟩) (.inl (by simp)) (.int .i64 ((pre.length : Int) + 1))) (fun k hk hm => by have := ho k hk; simp at hm; have := HLT.out; have := HZ3.out; omega)).upd HU4.out (by simp)
                rw [hMN] at h1
                exact h1
              have HR4 := Lib.hid hr4
              clear hM ho hxx hr hMN hr4
              have k2 := h24.out.cell 0 rfl
              have hN2 : N ≤ 2000 := by have := HPN.out; omega
              gi_upto_region 14 with fail
              generalize W3.alloc (.cells #[.int .i64 ro, .string rp, .string rq, .int .i64 rk, .int .i64 rm, .int .u32 (rt : Nat), .string rD, .int .i64 rn, .slice ua rl.length uc] 44 ) = W4 at *
              generalize W3.heap.size = g7 at *
              have p0 := h74.out.cell 0 rfl
              have p1 := h74.out.cell 1 rfl
              have p2 := h74.out.cell 2 rfl
              have p3 := h74.out.cell 3 rfl
              have p4 := h74.out.cell 4 rfl
              have p5 := h74.out.cell 5 rfl
              have p6 := h74.out.cell 6 rfl
              have p7 := h74.out.cell 7 rfl
              have p8 := h74.out.cell 8 rfl
              gi_wp2_with (gi_at_builtin; refine listIn_of _ _ _ (by kernel_rfl) (fun K hKQ => ?_); refine wpList_app _ rfl _ _ 36 rfl 44 i0 _ 9 112 Tryd.underlying36 hi hz0 hz1 hz2 rfl (by omega) (.slice v1 N v2) N _ rfl (HR4.out.alloc _) ⟨W4.heap.size, 0, none⟩ 1 1 [.int .i64 ro, .string rp, .string rq, .int .i64 rk, .int .i64 rm, .int .u32 (rt : Nat), .string rD, .int .i64 rn, .slice ua rl.length uc] rfl rfl (World.news_of_block (cs := #[.int .i64 ro, .string rp, .string rq, .int .i64 rk, .int .i64 rm, .int .u32 (rt : Nat), .string rD, .int .i64 rn, .slice ua rl.length uc]) (t := 44 ) (fr := (0, 0)) (heap_alloc_new W4 _)) (by simp [Value.oneCell']) (by unfold maxLen; omega) (by omega) ?_)
              intro v5 w5 hR5 hU5 hT5
              obtain ⟨g5, cap5, rfl, -, -⟩ := hR5.form' (by omega)
              have hnb : ∀ k, k < w3.heap.size → k ∉ (Value.slice v1 N v2).ownBlock.toList := fun k hk hm => by have := HO.out k (by simpa using hm); omega
              have H25 := Lib.hid ((h24.out.alloc (.cells #[.int .i64 ro, .string rp, .string rq, .int .i64 rk, .int .i64 rm, .int .u32 (rt : Nat), .string rD, .int .i64 rn, .slice ua rl.length uc] 44 )).upd hU5 (hnb b2 (by have := HLT.out; have := HZ3.out; omega)))
              have HE := Lib.hid (pr_app (wz := w3) (x := x) (bs := bs) (M := M) (by have := HB.out; omega) HLT.out (by have := HZ3.out; omega) HW.out ⟨hn23, hn43, hn24⟩ (by have := HB.out; omega) HH2.out HM.out HR0.out HO.out HX.out HH3.out HH4.out HHU.out HHG.out HSK.out HOKB.out HU4.out
                (u := .slice ua rl.length uc) (by rw [HRE.out]; exact HUR4.out) (fun k hk => by have h1 := HUO.out k hk; have h2 := HW.out; simp at h1; omega) (by rw [HMN.out, HRE.out]; exact hR5) hU5 hT5)
              have k5 := H25.out.cell 0 rfl
              have m5 := H25.out.frz 0
              clear hR5 hU5 hT5 hnb k2
              go_wp2
              gi_wp2
              exact HE.out
      case done =>
        rintro D xs W hD hxs ⟨hI, hg⟩ hK
        exact ⟨.inl rfl, D, _, rfl, hD, hK, Lib.hid (.inl ⟨rfl, hxs, hg.out, hI⟩)⟩
      case stop =>
        rintro D c pre W hD hpre ⟨⟨rfl, hx⟩, hX⟩ hK
        refine wpIn_ret ?_
        exact ⟨.inr rfl, D, pre, rfl, hD, hK, Lib.hid (.inr ⟨rfl, hpre, hx.out, hX⟩)⟩
    case cont =>
      as_aux_lemma =>
      rintro e a' wz ⟨he, D, pre, rfl, hD, hDk, HP⟩
      subst hfr
      have hwD : w.heap.size ≤ D := by have := HB.out; have := HLT.out; have := HZ3.out; omega
      have hbD : b2 ≠ D ∧ b3 ≠ D ∧ b4 ≠ D := by have := HLT.out; have := HZ3.out; omega
      have HDk := Lib.hid hDk
      have hDlt : D < wz.heap.size := (Array.getElem?_eq_some_iff.1 hDk).1
      clear hDk
      rcases HP.out with ⟨rfl, hpp, hg, ⟨v, h2, hev⟩, h3, h4, hu⟩ | ⟨rfl, hpp, hbx, h2, h3, h4, hu⟩
      · have HPL : Hid (parseP (linesP l) = (evL pre, 0, 0)) := Lib.hid (by
          rw [parse_ok (by rw [HNL.out]; omega) (fun s hs => by
            rw [← HLA.out, ← hpp] at hs
            obtain ⟨y, hy, rfl⟩ := List.mem_map.1 hs
            exact hg y hy)]
          unfold evL
          rw [hpp, HLA.out])
        have H2 := Lib.hid h2
        have H3 := Lib.hid h3
        have H4 := Lib.hid h4
        have HEV := Lib.hid hev
        have HU := Lib.hid hu
        obtain ⟨va, vc, hvf⟩ := hev.form
        have k2 := h2.cell 0 rfl
        have m2 := h2.frz 0
        have k3 := h3.cell 0 rfl
        have m3 := h3.frz 0
        have k4 := h4.cell 0 rfl
        have m4 := h4.frz 0
        clear HP h2 h3 h4 hev hu he hpp hg
        subst hvf
        go_wp2
        have hk9 : (((wz.setCell ⟨b2, 0, none⟩ (.slice va (evL pre).length vc)).setCell ⟨b3, 0, none⟩ (.int .i64 0)).setCell ⟨b4, 0, none⟩ (.int .i64 0)).heap[D]? = some (.deferred (some [])) :=
          (Below.heap_setCell _ _ _ _ (by simp; omega)).trans ((Below.heap_setCell _ _ _ _ (by simp; omega)).trans ((Below.heap_setCell _ _ _ _ (by simp; omega)).trans HDk.out))
        refine ⟨by simp, .inl ⟨_, _, rfl, run_takeDeferred hk9, ?_⟩⟩
        have hg2 : w.heap.size ≤ b2 ∧ w.heap.size ≤ b3 ∧ w.heap.size ≤ b4 := by have := HB.out; omega
        have q2 : Blk (((wz.setCell ⟨b2, 0, none⟩ (.slice va (evL pre).length vc)).setCell ⟨b3, 0, none⟩ (.int .i64 0)).setCell ⟨b4, 0, none⟩ (.int .i64 0)) b2 [.slice va (evL pre).length vc] 36 := ((H2.out.set 0 _).setFar (a := ⟨b3, 0, none⟩) _ hn23).setFar (a := ⟨b4, 0, none⟩) _ hn24
        have q3 : Blk (((wz.setCell ⟨b2, 0, none⟩ (.slice va (evL pre).length vc)).setCell ⟨b3, 0, none⟩ (.int .i64 0)).setCell ⟨b4, 0, none⟩ (.int .i64 0)) b3 [.int .i64 0] 3 := ((H3.out.setFar (a := ⟨b2, 0, none⟩) _ hn32).set 0 _).setFar (a := ⟨b4, 0, none⟩) _ hn34
        have q4 : Blk (((wz.setCell ⟨b2, 0, none⟩ (.slice va (evL pre).length vc)).setCell ⟨b3, 0, none⟩ (.int .i64 0)).setCell ⟨b4, 0, none⟩ (.int .i64 0)) b4 [.int .i64 0] 37 := ((H4.out.setFar (a := ⟨b2, 0, none⟩) _ hn42).setFar (a := ⟨b3, 0, none⟩) _ hn43).set 0 _
        have qU : Upd [] w (((wz.setCell ⟨b2, 0, none⟩ (.slice va (evL pre).length vc)).setCell ⟨b3, 0, none⟩ (.int .i64 0)).setCell ⟨b4, 0, none⟩ (.int .i64 0)) := ((HU.out.setCell (.inr (by simp; omega)) _).setCell (.inr (by simp; omega)) _).setCell (.inr (by simp; omega)) _
        have qV : Upd [b2, b3, b4] wz (((wz.setCell ⟨b2, 0, none⟩ (.slice va (evL pre).length vc)).setCell ⟨b3, 0, none⟩ (.int .i64 0)).setCell ⟨b4, 0, none⟩ (.int .i64 0)) := (((Upd.refl _ _).setCell (.inl (by simp)) _).setCell (.inl (by simp)) _).setCell (.inl (by simp)) _
        have r2 : Blk ((((wz.setCell ⟨b2, 0, none⟩ (.slice va (evL pre).length vc)).setCell ⟨b3, 0, none⟩ (.int .i64 0)).setCell ⟨b4, 0, none⟩ (.int .i64 0)).putObj D (.deferred none)) b2 [.slice va (evL pre).length vc] 36 := (World.putObj_heap_other (by omega)).trans q2
        have r3 : Blk ((((wz.setCell ⟨b2, 0, none⟩ (.slice va (evL pre).length vc)).setCell ⟨b3, 0, none⟩ (.int .i64 0)).setCell ⟨b4, 0, none⟩ (.int .i64 0)).putObj D (.deferred none)) b3 [.int .i64 0] 3 := (World.putObj_heap_other (by omega)).trans q3
        have r4 : Blk ((((wz.setCell ⟨b2, 0, none⟩ (.slice va (evL pre).length vc)).setCell ⟨b3, 0, none⟩ (.int .i64 0)).setCell ⟨b4, 0, none⟩ (.int .i64 0)).putObj D (.deferred none)) b4 [.int .i64 0] 37 := (World.putObj_heap_other (by omega)).trans q4
        have qE : EvsAt w3.heap.size ((((wz.setCell ⟨b2, 0, none⟩ (.slice va (evL pre).length vc)).setCell ⟨b3, 0, none⟩ (.int .i64 0)).setCell ⟨b4, 0, none⟩ (.int .i64 0)).putObj D (.deferred none)) (.slice va (evL pre).length vc) (evL pre) :=
          (HEV.out.upd qV (fun k hk => by have := HLT.out; have := HZ3.out; simp at hk; omega)).ownF (grownBy_putObj' _ D (.deferred none)) (fun r e => by cases e; exact ⟨Nat.le_refl _, _, hk9, rfl⟩)
        refine ⟨_, results_pa rfl _ _ b2 b3 b4 _ _ _ rfl rfl rfl r2 r3 r4, ⟨_, by rw [HPL.out]; rfl, ?_⟩, qU.putObj' hwD _⟩
        rw [HPL.out]
        obtain ⟨M, e1, e2, e3, e4⟩ := qE
        exact ⟨M, e1, e2, fun k hk => by have := e3 k hk; have := HB.out; have := HLT.out; have := HZ3.out; omega, fun y hy => ⟨(e4 y hy).1, fun k hk => by have := (e4 y hy).2 k hk; have := HB.out; have := HLT.out; have := HZ3.out; omega⟩⟩
      · have HPL : Hid (parseP (linesP l) = ([], pre.length, 2)) := Lib.hid (by
          obtain ⟨p, y, rfl, hgp, hby⟩ := hbx
          obtain ⟨rest, hr⟩ := hpp
          have hL : linesP l = p.map lnOf ++ lnOf y :: rest.map lnOf := by rw [← HLA.out, ← hr]; simp
          have h := parse_bad hL (by rw [HNL.out]; omega) (fun s hs => by obtain ⟨z, hz, rfl⟩ := List.mem_map.1 hs; exact hgp z hz) hby
          rw [h]; simp)
        have H2 := Lib.hid h2
        have H3 := Lib.hid h3
        have H4 := Lib.hid h4
        have HU := Lib.hid hu
        clear HP h2 h3 h4 hu he hpp hbx
        simp only [Exit.inBlock, Exit.then]
        show bodyPostM _ _ _ _ _ Exit.ret _ _
        refine ⟨by simp, .inl ⟨_, _, rfl, run_takeDeferred HDk.out, ?_⟩⟩
        have r2 : Blk (wz.putObj D (.deferred none)) b2 [.slice none 0 0] 36 := (World.putObj_heap_other (by omega)).trans H2.out
        have r3 : Blk (wz.putObj D (.deferred none)) b3 [.int .i64 (pre.length : Nat)] 3 := (World.putObj_heap_other (by omega)).trans H3.out
        have r4 : Blk (wz.putObj D (.deferred none)) b4 [.int .i64 2] 37 := (World.putObj_heap_other (by omega)).trans H4.out
        refine ⟨_, results_pa rfl _ _ b2 b3 b4 _ _ _ rfl rfl rfl r2 r3 r4, ⟨_, by rw [HPL.out]; rfl, ?_⟩, HU.out.putObj' hwD _⟩
        rw [HPL.out]
        exact EvsAt.nil _ _
end Go.Proofs.YtigjingielnaoaaDoor

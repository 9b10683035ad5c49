/- The law swinglelaw35.ScriptNodes: its walk. -/
import Derived.Deep.CutBlock
import Derived.Test.YtigjingielnaoaaDoorScLv
import Derived.Test.YtigjingielnaoaaDoorScT
import Derived.Test.YtigjingielnaoaaDoorQAC
import Derived.Test.YtigjingielnaoaaDoorQAN
import Derived.Test.YtigjingielnaoaaDoorQAB
import Derived.Test.YtigjingielnaoaaDoorQAA
namespace Go.Proofs.YtigjingielnaoaaDoor
set_option linter.unusedVariables false
set_option linter.unusedSimpArgs false
set_option linter.unusedSectionVars false
open Go.RowKit
set_option linter.unusedVariables false
set_option linter.unusedSimpArgs false

set_option maxRecDepth 100000 in
set_option maxHeartbeats 3200000 in
theorem lives35_any (w : World) : Calls Tryd.prog 13 #[] w fun e w' => e = .returned (.bool true) ∧ Upd [] w w' := by
  have HL := Lib.hid line0
  have hs : strOf (joinC 9 [[115, 121, 110, 99], [110, 101, 119, 101, 114]]) = ⟨#[115, 121, 110, 99, 9, 110, 101, 119, 101, 114]⟩ := rfl
  rw [hs] at HL
  unfold ev0 at HL
  clear hs
  go_enter Tryd.func13, Tryd.ntmps13
  go_wp2_with fail
  refine (HL.out _).mono ?_
  rintro e w1 ⟨rfl, hu1⟩
  go_wp2
  go_ret
  exact ⟨rfl, hu1⟩
end Go.Proofs.YtigjingielnaoaaDoor
namespace Go.Proofs.YtigjingielnaoaaDoor
set_option linter.unusedVariables false
set_option linter.unusedSimpArgs false
set_option linter.unusedSectionVars false

theorem Upd.keep {W w : World} {p : Addr} {v : Value} (h : Upd [] W w) (hc : W.cell? p = some v) : w.cell? p = some v := (h.cell (World.block_lt_of_cell? W p hc) (by simp)).trans hc
theorem Upd.keepN {fp : List Nat} {W w : World} {p : Addr} {v : Value} (h : Upd fp W w) (hc : W.cell? p = some v) (hn : p.block ∉ fp) : w.cell? p = some v := (h.cell (World.block_lt_of_cell? W p hc) hn).trans hc
/-- Cells that are known. -/
def CF (w : World) : List (Addr × Value) → Prop
  | [] => True
  | x :: r => w.cell? x.1 = some x.2 ∧ CF w r
theorem CF.upd {w w' : World} {g : List Nat} (hU : Upd g w w') : ∀ {fs : List (Addr × Value)}, CF w fs → (∀ x ∈ fs, x.1.block ∉ g) → CF w' fs
  | [], _, _ => trivial
  | x :: r, h, hn => ⟨hU.keepN h.1 (hn x List.mem_cons_self), CF.upd hU h.2 (fun y hy => hn y (List.mem_cons_of_mem _ hy))⟩
theorem CF.set {w : World} {p : Addr} (u : Value) : ∀ {fs : List (Addr × Value)}, CF w fs → (∀ x ∈ fs, x.1 ≠ p) → CF (w.setCell p u) fs
  | [], _, _ => trivial
  | x :: r, h, hn => ⟨(World.cell?_setCell_other w p x.1 u (fun e => hn x List.mem_cons_self e.symm)).trans h.1, CF.set u h.2 (fun y hy => hn y (List.mem_cons_of_mem _ hy))⟩
structure HC (fp : List Nat) (W : World) (fs : List (Addr × Value)) (w : World) : Prop where
  upd : Upd fp W w
  cells : CF w fs
theorem HC.of {fp : List Nat} {W : World} {fs : List (Addr × Value)} (h : CF W fs) : HC fp W fs W := ⟨Upd.refl fp W, h⟩
theorem HC.drew {fp : List Nat} {W w : World} {fs : List (Addr × Value)} (h : HC fp W fs w) : HC fp W fs w.drew := ⟨h.upd.drew, CF.upd ((Upd.refl [] w).drew) h.cells (by simp)⟩
theorem HC.alloc {fp : List Nat} {W w : World} {fs : List (Addr × Value)} (h : HC fp W fs w) (o : Obj) : HC fp W fs (w.alloc o) := ⟨h.upd.alloc o, CF.upd ((Upd.refl [] w).alloc o) h.cells (by simp)⟩
theorem HC.then {fp : List Nat} {W w w' : World} {fs : List (Addr × Value)} (h : HC fp W fs w) (hU : Upd [] w w') : HC fp W fs w' := ⟨h.upd.trans hU (by simp), CF.upd hU h.cells (by simp)⟩
theorem HC.set {fp : List Nat} {W w : World} {fs : List (Addr × Value)} (h : HC fp W fs w) (p : Addr) (u : Value) (hp : p.block ∈ fp ∨ W.heap.size ≤ p.block) (hn : ∀ x ∈ fs, x.1 ≠ p) : HC fp W fs (w.setCell p u) := ⟨h.upd.setCell hp u, CF.set u h.cells hn⟩
theorem CF.sub {w : World} : ∀ {fs fs' : List (Addr × Value)}, CF w fs' → (∀ x ∈ fs, x ∈ fs') → CF w fs
  | [], _, _, _ => trivial
  | x :: r, fs', h, hs => by
    refine ⟨?_, CF.sub h (fun y hy => hs y (List.mem_cons_of_mem _ hy))⟩
    have : ∀ {fs : List (Addr × Value)}, CF w fs → ∀ y ∈ fs, w.cell? y.1 = some y.2 := by
      intro fs
      induction fs with
      | nil => intro _ y hy; cases hy
      | cons z r ih =>
        intro h y hy
        rcases List.mem_cons.1 hy with rfl | hy
        · exact h.1
        · exact ih h.2 y hy
    exact this h x (hs x List.mem_cons_self)
theorem HC.more {fp : List Nat} {W z w : World} {fs fs' : List (Addr × Value)} (h : HC fp W fs z) (hs : ∀ x ∈ fs, x ∈ fs') (k : HC fp z fs' w) : HC fp W fs w := ⟨h.upd.trans k.upd (fun _ h => .inl h), k.cells.sub hs⟩
end Go.Proofs.YtigjingielnaoaaDoor

/- A region that draws its order, walked by hand: what is held is told as cells that are known, and may be made to say more behind a call. -/
import Derived.Test.YtdehkaknbmbieaaGreatQAE
import Derived.Test.YtdehkaknbmbieaaGreatQAA
namespace Go.Proofs.YtdehkaknbmbieaaGreat
set_option linter.unusedVariables false
set_option linter.unusedSimpArgs false
set_option linter.unusedSectionVars false

theorem wpAnyH_imp {P : Program} {md : Region.Mode} {ops : Array Oper} {Q : Exit → Act → World → Prop} {S S' : World → Prop} (h : ∀ w, S' w → S w) :
    ∀ (fuel : Nat) (listed : Array Bool) (a : Act) (w : World), wpAnyH P md ops Q S' fuel listed a w → wpAnyH P md ops Q S fuel listed a w
  | 0, _, _, _, k => k
  | fuel + 1, _, _, _, k => ⟨k.1, fun i hi => wpOp_mono (fun a' w' h' => ⟨h _ h'.1, wpAnyH_imp h fuel _ a' w' h'.2⟩) (k.2 i hi)⟩
theorem Upd.keep {W w : World} {p : Addr} {v : Value} (h : Upd [] W w) (hc : W.cell? p = some v) : w.cell? p = some v := (h.cell (World.block_lt_of_cell? W p hc) (by simp)).trans hc
theorem Upd.keepN {fp : List Nat} {W w : World} {p : Addr} {v : Value} (h : Upd fp W w) (hc : W.cell? p = some v) (hn : p.block ∉ fp) : w.cell? p = some v := (h.cell (World.block_lt_of_cell? W p hc) hn).trans hc
/-- Cells that are known. -/
def CF (w : World) : List (Addr × Value) → Prop
  | [] => True
  | x :: r => w.cell? x.1 = some x.2 ∧ CF w r
theorem CF.upd {w w' : World} {g : List Nat} (hU : Upd g w w') : ∀ {fs : List (Addr × Value)}, CF w fs → (∀ x ∈ fs, x.1.block ∉ g) → CF w' fs
  | [], _, _ => trivial
  | x :: r, h, hn => ⟨hU.keepN h.1 (hn x List.mem_cons_self), CF.upd hU h.2 (fun y hy => hn y (List.mem_cons_of_mem _ hy))⟩
theorem CF.set {w : World} {p : Addr} (u : Value) : ∀ {fs : List (Addr × Value)}, CF w fs → (∀ x ∈ fs, x.1 ≠ p) → CF (w.setCell p u) fs
  | [], _, _ => trivial
  | x :: r, h, hn => ⟨(World.cell?_setCell_other w p x.1 u (fun e => hn x List.mem_cons_self e.symm)).trans h.1, CF.set u h.2 (fun y hy => hn y (List.mem_cons_of_mem _ hy))⟩
structure HC (fp : List Nat) (W : World) (fs : List (Addr × Value)) (w : World) : Prop where
  upd : Upd fp W w
  cells : CF w fs
theorem HC.of {fp : List Nat} {W : World} {fs : List (Addr × Value)} (h : CF W fs) : HC fp W fs W := ⟨Upd.refl fp W, h⟩
theorem HC.drew {fp : List Nat} {W w : World} {fs : List (Addr × Value)} (h : HC fp W fs w) : HC fp W fs w.drew := ⟨h.upd.drew, CF.upd ((Upd.refl [] w).drew) h.cells (by simp)⟩
theorem HC.alloc {fp : List Nat} {W w : World} {fs : List (Addr × Value)} (h : HC fp W fs w) (o : Obj) : HC fp W fs (w.alloc o) := ⟨h.upd.alloc o, CF.upd ((Upd.refl [] w).alloc o) h.cells (by simp)⟩
theorem HC.then {fp : List Nat} {W w w' : World} {fs : List (Addr × Value)} (h : HC fp W fs w) (hU : Upd [] w w') : HC fp W fs w' := ⟨h.upd.trans hU (by simp), CF.upd hU h.cells (by simp)⟩
theorem HC.thenF {fp g : List Nat} {W w w' : World} {fs : List (Addr × Value)} (h : HC fp W fs w) (hU : Upd g w w') (hg : ∀ k, k ∈ g → k ∈ fp ∨ W.heap.size ≤ k) (hn : ∀ x ∈ fs, x.1.block ∉ g) : HC fp W fs w' := ⟨h.upd.trans hU hg, CF.upd hU h.cells hn⟩
theorem HC.set {fp : List Nat} {W w : World} {fs : List (Addr × Value)} (h : HC fp W fs w) (p : Addr) (u : Value) (hp : p.block ∈ fp ∨ W.heap.size ≤ p.block) (hn : ∀ x ∈ fs, x.1 ≠ p) : HC fp W fs (w.setCell p u) := ⟨h.upd.setCell hp u, CF.set u h.cells hn⟩
theorem CF.sub {w : World} : ∀ {fs fs' : List (Addr × Value)}, CF w fs' → (∀ x ∈ fs, x ∈ fs') → CF w fs
  | [], _, _, _ => trivial
  | x :: r, fs', h, hs => by
    refine ⟨?_, CF.sub h (fun y hy => hs y (List.mem_cons_of_mem _ hy))⟩
    have : ∀ {fs : List (Addr × Value)}, CF w fs → ∀ y ∈ fs, w.cell? y.1 = some y.2 := by
      intro fs
      induction fs with
      | nil => intro _ y hy; cases hy
      | cons z r ih =>
        intro h y hy
        rcases List.mem_cons.1 hy with rfl | hy
        · exact h.1
        · exact ih h.2 y hy
    exact this h x (hs x List.mem_cons_self)
theorem HC.more {fp : List Nat} {W z w : World} {fs fs' : List (Addr × Value)} (h : HC fp W fs z) (hs : ∀ x ∈ fs, x ∈ fs') (k : HC fp z fs' w) : HC fp W fs w := ⟨h.upd.trans k.upd (fun _ h => .inl h), k.cells.sub hs⟩
end Go.Proofs.YtdehkaknbmbieaaGreat

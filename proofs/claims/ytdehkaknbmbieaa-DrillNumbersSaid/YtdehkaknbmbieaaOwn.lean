/- A row of the call's own. -/
import Derived.Test.YtdehkaknbmbieaaGA
namespace Go.Proofs.Ytdehkaknbmbieaa
set_option linter.unusedVariables false
set_option linter.unusedSimpArgs false
set_option linter.unusedSectionVars false
open Go.RowKit

/-- A row of the call's own: it lies behind w0. -/
def OwnX (w0 w : World) (e : TypeId) (v : Value) (xs : List Value) : Prop := Row w e 1 v xs.length xs ∧ ∀ k, v.ownBlock = some k → w0.heap.size ≤ k
theorem OwnX.nil (w0 w : World) (e : TypeId) : OwnX w0 w e (.slice none 0 0) [] := ⟨Row.nil _ _ _, fun k h => by cases h⟩
theorem OwnX.upd {w0 w w' : World} {e : TypeId} {v : Value} {xs : List Value} (h : OwnX w0 w e v xs) (hu : Upd [] w w') : OwnX w0 w' e v xs := ⟨h.1.upd hu (by simp), h.2⟩
theorem OwnX.app {w0 w wm w' : World} {e : TypeId} {v v' : Value} {xs ys : List Value} (h : OwnX w0 w e v xs) (hu : Upd [] w0 w) (hm : Upd [] w wm) (hR : Row w' e 1 v' (xs.length + ys.length) (xs ++ ys)) (hU : Upd v.ownBlock.toList wm w') (hT : Later wm v v') :
    OwnX w0 w' e v' (xs ++ ys) ∧ Upd [] w0 w' := by
  refine ⟨⟨by rw [List.length_append]; exact hR, fun k hk => ?_⟩, (hu.then hm).trans hU (fun k hk => .inr (h.2 k (by simpa using hk)))⟩
  rcases hT with h1 | ⟨g, h1, h2⟩
  · exact h.2 k (by rw [← h1]; exact hk)
  · rw [h1] at hk; simp at hk h2; have := (hu.then hm).size; omega
theorem OwnX.form {w0 w : World} {e : TypeId} {v : Value} {xs : List Value} (h : OwnX w0 w e v xs) : ∃ a c, v = .slice a xs.length c := h.1.form
theorem OwnX.base {w0 w1 w : World} {e : TypeId} {v : Value} {xs : List Value} (h : OwnX w1 w e v xs) (hs : w0.heap.size ≤ w1.heap.size) : OwnX w0 w e v xs := ⟨h.1, fun k hk => Nat.le_trans hs (h.2 k hk)⟩
end Go.Proofs.Ytdehkaknbmbieaa

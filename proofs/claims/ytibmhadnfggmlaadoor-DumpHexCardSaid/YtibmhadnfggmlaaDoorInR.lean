/- In a round of a loop over an iterator: a region that draws its order goes by the laws of a plain walk. -/
import Derived.Test.YtibmhadnfggmlaaDoorGA
import Derived.OrdersIn
import Derived.TacticsIn
import Derived.WalkKit
import Derived.RangeFuncCalls
import Derived.Deep.RegionHeld
namespace Go.Proofs.YtibmhadnfggmlaaDoor
set_option linter.unusedVariables false
set_option linter.unusedSimpArgs false
set_option linter.unusedSectionVars false
open Go.RowKit

def noDefers (ops : Array Oper) : Bool := ops.all fun o => match o.op with | .defer _ => false | _ => true
theorem noDefers_spec {ops : Array Oper} (h : noDefers ops = true) {i : Nat} {o : Oper} (hi : ops[i]? = some o) : ∀ c, o.op ≠ .defer c := by
  intro c e
  unfold noDefers at h
  rw [Array.all_eq_true] at h
  obtain ⟨hl, hg⟩ := Array.getElem?_eq_some_iff.1 hi
  have := h i hl
  rw [hg, e] at this
  cases this
theorem rowsIn_of {n l : Nat} {P : Program} {row : String} {args : Array Value} {w : World} {R : Value → World → Prop} (h : Rows P row args w R) : RowsIn (Fence.wide.inRound l) n P row args w R := by
  intro c cs _
  obtain ⟨v, w', hr, hs⟩ := h c cs
  refine ⟨v, w', hr, ?_⟩
  rw [fenced_inRound]
  exact stepsIn_wide.2 hs
theorem opIn_of {n l : Nat} {P : Program} {o : Oper} {a : Act} {w : World} {K : Act → World → Prop} {Q : Exit → Act → World → Prop} (hd : ∀ c, o.op ≠ .defer c) (h : o.wp P a w K Q) : o.wpIn (Fence.wide.inRound l) n P a w K Q := by
  refine ⟨fun _ _ => trivial, ?_⟩
  rw [Oper.semAt_eq _ _ _ hd]
  unfold Oper.wp at h
  generalize (execOp a.eval o).run P w = r at h ⊢
  cases r with
  | ok x w' =>
    cases x with
    | value v => exact h
    | skip => exact h
    | defer d => exact h
    | enter f args => exact ⟨fun e => by simp [Fence.inRound, Fence.wide] at e, CallsIn.inRound l ((callsIn_wide.2 h).mono fun e w'' he => by cases e <;> exact he)⟩
    | row r args => exact ⟨fun e => by simp [Fence.inRound, Fence.wide] at e, rowsIn_of h⟩
    | _ => exact h.elim
  | halt x w' => cases x <;> exact h
theorem wpOpIn_of {n l : Nat} {P : Program} {ops : Array Oper} {Q : Exit → Act → World → Prop} (hno : ¬ LetsOut Q) (hd : noDefers ops = true) {i : Nat} {K : Act → World → Prop} {a : Act} {w : World} (h : wpOp P ops Q i K a w) : wpOpIn (Fence.wide.inRound l) n P ops Q i K a w := by
  unfold wpOp at h
  unfold wpOpIn
  cases hi : ops[i]? with
  | none => rw [hi] at h; exact h
  | some o =>
    rw [hi] at h
    simp only at h ⊢
    by_cases hw : Region.wanted o (yielded ops a.tmps) = true
    · rw [if_pos hw] at h ⊢
      rcases h with h | h
      · exact opIn_of (noDefers_spec hd hi) h
      · exact absurd h.2 hno
    · rw [if_neg hw] at h ⊢
      exact ⟨fun _ _ => trivial, h⟩
theorem wpAnyIn_of {n l : Nat} {P : Program} {md : Region.Mode} {ops : Array Oper} {Q : Exit → Act → World → Prop} (hno : ¬ LetsOut Q) (hd : noDefers ops = true) : ∀ (fuel : Nat) (listed : Array Bool) (a : Act) (w : World), wpAny P md ops Q fuel listed a w → wpAnyIn (Fence.wide.inRound l) n P md ops Q fuel listed a w
  | 0, _, _, _, h => h
  | fuel + 1, listed, a, w, h => ⟨h.1, fun i hi => wpOpIn_mono (fun a' w' h' => wpAnyIn_of hno hd fuel _ a' w' h') (wpOpIn_of hno hd (h.2 i hi))⟩
theorem opIn_calm {n l : Nat} {P : Program} {o : Oper} {a : Act} {w : World} {K K' : Act → World → Prop} {Q : Exit → Act → World → Prop} (hd : ∀ c, o.op ≠ .defer c) (h : o.wp P a w K (Exit.then K' fun _ _ _ => False)) : o.wpIn (Fence.wide.inRound l) n P a w K Q := by
  refine ⟨fun _ _ => trivial, ?_⟩
  rw [Oper.semAt_eq _ _ _ hd]
  unfold Oper.wp at h
  generalize (execOp a.eval o).run P w = r at h ⊢
  have hno : ¬ LetsOut (Exit.then K' fun _ _ _ => False) := by rintro ⟨a, w, h⟩; exact h
  cases r with
  | ok x w' =>
    cases x with
    | value v => exact h
    | skip => exact h
    | defer d => exact h
    | enter f args =>
      exact ⟨fun e => by simp [Fence.inRound, Fence.wide] at e, CallsIn.inRound l ((callsIn_wide.2 h).mono fun e w'' he => by
        cases e with
        | returned v => exact he
        | panicked ch => exact False.elim he
        | outgrown => exact absurd he hno)⟩
    | row r args => exact ⟨fun e => by simp [Fence.inRound, Fence.wide] at e, rowsIn_of h⟩
    | _ => exact h.elim
  | halt x w' => cases x <;> exact False.elim h
theorem listIn_calm {n l : Nat} {P : Program} {ops : Array Oper} {Q : Exit → Act → World → Prop} {K' : Act → World → Prop} (hK : ∀ a w, K' a w → Q .normal a w) : ∀ (os : List Oper), (os.all fun o => match o.op with | .defer _ => false | _ => true) = true → ∀ (a : Act) (w : World), wpList P ops (Exit.then K' fun _ _ _ => False) os a w → wpListIn (Fence.wide.inRound l) n P ops Q os a w
  | [], _, _, _, h => hK _ _ h
  | o :: os, hd, a, w, h => by
    rw [List.all_cons, Bool.and_eq_true] at hd
    unfold wpList at h
    unfold wpListIn
    by_cases hw : Region.wanted o (yielded ops a.tmps) = true
    · rw [if_pos hw] at h ⊢
      rcases h with h | h
      · exact Oper.wpIn_mono (fun a' w' h' => listIn_calm hK os hd.2 a' w' h') (opIn_calm (fun c e => by rw [e] at hd; cases hd.1) h)
      · obtain ⟨_, a, w, h⟩ := h; exact h.elim
    · rw [if_neg hw] at h ⊢
      exact ⟨fun _ _ => trivial, listIn_calm hK os hd.2 _ _ h⟩
/-- The rest of a region, in a round: as in a plain walk, where it does not panic. -/
theorem listIn_of {n l : Nat} {P : Program} {ops : Array Oper} {Q : Exit → Act → World → Prop} (os : List Oper) (a : Act) (w : World) (hd : (os.all fun o => match o.op with | .defer _ => false | _ => true) = true)
    (h : ∀ K : Act → World → Prop, (∀ a w, Q .normal a w → K a w) → wpList P ops (Exit.then K fun _ _ _ => False) os a w) : wpListIn (Fence.wide.inRound l) n P ops Q os a w :=
  listIn_calm (K' := fun a w => Q .normal a w) (fun _ _ h => h) os hd a w (h _ fun _ _ h => h)
/-- **A region that draws its order, in a round: as in a plain walk, where it does not panic.** -/
theorem regionIn_held {n l id : Nat} {P : Program} {ops : Array Oper} {Q : Exit → Act → World → Prop} {S : World → Prop} {a : Act} {w : World} (hm : P.follows .mixedOrders = true) (hd : noDefers ops = true) (hS : S w.drew)
    (h : S w.drew → ∀ K : Act → World → Prop, (∀ a w, Q .normal a w → K a w) → wpAnyH P .any ops (Exit.then K fun _ _ _ => False) S ops.size (Array.replicate ops.size false) a w.drew) : (Code.region id ops true).wpIn (Fence.wide.inRound l) n P Q a w := by
  refine wpIn_mono (wpIn_region_any hm (wpAnyIn_of ?_ hd _ _ _ _ (wpAny_of_held _ _ _ _ (h hS (fun a w => Q .normal a w) fun _ _ h => h)))) ?_
  · rintro ⟨a, w, h⟩
    exact h
  · intro e a w h
    cases e <;> first | exact h | exact h.elim
end Go.Proofs.YtibmhadnfggmlaaDoor

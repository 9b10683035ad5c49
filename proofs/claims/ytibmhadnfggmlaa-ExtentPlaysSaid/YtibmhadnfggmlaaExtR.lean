/- Package extent: Right, In, put, and what Concat does of three rows. -/
import Derived.Test.YtibmhadnfggmlaaExtL
namespace Go.Proofs.Ytibmhadnfggmlaa
open Go.RowKit Go.Shelf
attribute [local go_sem] Oper.semAt_some

theorem ret_bool {a b : Bool} (h : a = b) : Ending.returned (.bool a) = .returned (.bool b) := by rw [h]
theorem right_at (f : Nat) (hf : f = 19 ∨ f = 20) (a b : Int) (w : World) : Calls Try.prog f #[.agg #[.int .i64 a, .int .i64 b]] w fun e w' => e = .returned (.bool (spanOk (a, b))) ∧ Upd [] w w' := by
  have hs : spanOk (a, b) = (decide (0 ≤ a) && decide (a < b) && decide (b ≤ 1099511627776)) := rfl
  have HS := Lib.hid hs
  clear hs
  rcases hf with rfl | rfl
  · have ways : (0 ≤ a ∧ a < b ∧ b ≤ 1099511627776) ∨ (0 ≤ a ∧ a < b ∧ 1099511627776 < b) ∨ (0 ≤ a ∧ b ≤ a) ∨ a < 0 := by omega
    rcases ways with ⟨h1, h2, h3⟩ | ⟨h1, h2, h3⟩ | ⟨h1, h2⟩ | h1
    all_goals
      go_enter Try.func19, Try.ntmps19
      go_wp2
      go_returns
      refine ⟨?_, (Upd.refl _ _).alloc _⟩
      rw [HS.out]
      simp; omega
  · have ways : (0 ≤ a ∧ a < b ∧ b ≤ 1099511627776) ∨ (0 ≤ a ∧ a < b ∧ 1099511627776 < b) ∨ (0 ≤ a ∧ b ≤ a) ∨ a < 0 := by omega
    rcases ways with ⟨h1, h2, h3⟩ | ⟨h1, h2, h3⟩ | ⟨h1, h2⟩ | h1
    all_goals
      go_enter Try.func20, Try.ntmps20
      go_wp2
      go_returns
      refine ⟨?_, (Upd.refl _ _).alloc _⟩
      rw [HS.out]
      simp; omega
theorem right_any (a b : Int) (w : World) : Calls Try.prog 19 #[.agg #[.int .i64 a, .int .i64 b]] w fun e w' => e = .returned (.bool (spanOk (a, b))) ∧ Upd [] w w' := right_at _ (.inl rfl) a b w
theorem rright_any (a b : Int) (w : World) : Calls Try.prog 20 #[.agg #[.int .i64 a, .int .i64 b]] w fun e w' => e = .returned (.bool (spanOk (a, b))) ∧ Upd [] w w' := right_at _ (.inr rfl) a b w
def inB (x : Int × Int) (i : Int) : Bool := spanOk x && decide (x.1 ≤ i) && decide (i < x.2)
theorem in_any (a b i : Int) (w : World) : Calls Try.prog 10 #[.agg #[.int .i64 a, .int .i64 b], .int .i64 i] w fun e w' => e = .returned (.bool (inB (a, b) i)) ∧ Upd [] w w' := by
  have hs : inB (a, b) i = (spanOk (a, b) && decide (a ≤ i) && decide (i < b)) := rfl
  have HS := Lib.hid hs
  clear hs
  have ways : (spanOk (a, b) = true ∧ a ≤ i ∧ i < b) ∨ (spanOk (a, b) = true ∧ a ≤ i ∧ b ≤ i) ∨ (spanOk (a, b) = true ∧ i < a) ∨ (spanOk (a, b) = false ∧ True) := by
    cases spanOk (a, b) <;> simp <;> omega
  rcases ways with ⟨h1, h2, h3⟩ | ⟨h1, h2, h3⟩ | ⟨h1, h2⟩ | ⟨h1, _⟩
  all_goals
    have H1 := Lib.hid h1
    clear h1
    go_enter Try.func10, Try.ntmps10
    go_wp2_with fail
    refine (rright_any _ _ _).mono ?_
    rintro e w' ⟨rfl, hU⟩
    have hB := (Blk.new w [.int .i64 a, .int .i64 b] 24).upd hU (by simp)
    have c0 := hB.cell 0 rfl
    have c1 := hB.cell 1 rfl
    have H := H1.out
    clear hB H1
    go_wp2
    go_returns
    refine ⟨?_, ((Upd.refl _ _).alloc _).then hU⟩
    rw [HS.out, H]
    simp; try omega
end Go.Proofs.Ytibmhadnfggmlaa

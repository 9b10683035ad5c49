/- Package inflate: its state; the walks of room. -/
import Derived.Test.YtcddlnmfdjfjfaaTab
import Derived.Test.YtcddlnmfdjfjfaaSymL
namespace Go.Proofs.Ytcddlnmfdjfjfaa
open Go.RowKit
set_option linter.unusedVariables false

/-- A state at block x: its Reader at b, what it has made. -/
structure StAt (w : World) (x b : Nat) (v : Value) (s : ByteArray) (a : Nat) (out : List Nat) (most : Nat) : Prop where
  blk : Blk w x [.pointer (some ⟨b, 0, none⟩), v, .int .i64 (most : Nat)] 100
  row : Row w 5 1 v out.length (u8s out)
  rd : RdAt w b 89 s a false
  vx : v.ownBlock ≠ some x
  vb : v.ownBlock ≠ some b
  xb : x ≠ b
  le : out.length ≤ most
  cap : most ≤ 65000
  lt : ∀ y ∈ out, y < 256

theorem room_yes (x b n : Nat) (v : Value) (w : World) (s : ByteArray) (a : Nat) (out : List Nat) (most : Nat) (h : StAt w x b v s a out most) (hn : out.length + n ≤ most) :
    Calls Try.prog 77 #[.pointer (some ⟨x, 0, none⟩), .int .i64 (n : Nat)] w fun e w' => e = .returned (.tuple #[]) ∧ ∃ k, w' = w.drewN k := by
  have h1 := h.blk.cell 1 rfl
  have h2 := h.blk.cell 2 rfl
  obtain ⟨va, vc, rfl⟩ := h.row.form
  have hcap := h.cap
  clear h
  generalize out.length = N at *
  have hf : decide ((most : Int) - (N : Int) < (n : Int)) = false := decide_eq_false (by omega)
  go_enter Try.func77, Try.ntmps77
  go_wp2
  go_quiet (fail)
  go_wp2
  go_returns
  exact ⟨rfl, _, rfl⟩
theorem room_no (x b n : Nat) (v : Value) (w : World) (s : ByteArray) (a : Nat) (out : List Nat) (most : Nat) (h : StAt w x b v s a out most) (hn : ¬ out.length + n ≤ most) (hn2 : n ≤ 1000000) :
    Calls Try.prog 77 #[.pointer (some ⟨x, 0, none⟩), .int .i64 (n : Nat)] w fun e w' => e = .panicked [{ v := .iface 67 (.int .i64 4), recovered := false }] ∧ ∃ k, w' = w.drewN k := by
  have h1 := h.blk.cell 1 rfl
  have h2 := h.blk.cell 2 rfl
  obtain ⟨va, vc, rfl⟩ := h.row.form
  have hcap := h.cap
  have hle := h.le
  clear h
  generalize out.length = N at *
  have hf : decide ((most : Int) - (N : Int) < (n : Int)) = true := decide_eq_true (by omega)
  go_enter Try.func77, Try.ntmps77
  go_wp2
  go_quiet (fail)
  go_wp2
  exact ⟨rfl, rfl, _, rfl⟩
end Go.Proofs.Ytcddlnmfdjfjfaa

/- Packages dos and swingleref12: Split, Text: walks. -/
import Derived.Test.YtdehkaknbmbieaaDigW
import Derived.Test.YtdehkaknbmbieaaGA
import Derived.Deep.QuietTactic
import Derived.BigQuiet
namespace Go.Proofs.Ytdehkaknbmbieaa
set_option linter.unusedVariables false
set_option linter.unusedSimpArgs false
set_option linter.unusedSectionVars false
open Go.RowKit
set_option linter.unusedVariables false
set_option linter.unusedSimpArgs false

def yN (t : Nat) : Nat := 1980 + t / 33554432 % 128
def moN (t : Nat) : Nat := t / 2097152 % 16
def dN (t : Nat) : Nat := t / 65536 % 32
def hN (t : Nat) : Nat := t / 2048 % 32
def miN (t : Nat) : Nat := t / 32 % 64
def sN (t : Nat) : Nat := 2 * (t % 32)
def partsN (y mo d h mi s : Nat) : List Value := [.int .i64 (y : Nat), .int .i64 (mo : Nat), .int .i64 (d : Nat), .int .i64 (h : Nat), .int .i64 (mi : Nat), .int .i64 (s : Nat)]
theorem partsL_eq (t : Nat) : partsL t = partsN (yN t) (moN t) (dN t) (hN t) (miN t) (sN t) := by
  unfold partsL partsN yN moN dN hN miN sN
  rw [show ((1980 + t / 33554432 % 128 : Nat) : Int) = 1980 + (t : Int) / 33554432 % 128 by omega, show ((t / 2097152 % 16 : Nat) : Int) = (t : Int) / 2097152 % 16 by omega, show ((t / 65536 % 32 : Nat) : Int) = (t : Int) / 65536 % 32 by omega, show ((t / 2048 % 32 : Nat) : Int) = (t : Int) / 2048 % 32 by omega, show ((t / 32 % 64 : Nat) : Int) = (t : Int) / 32 % 64 by omega, show ((2 * (t % 32) : Nat) : Int) = 2 * ((t : Int) % 32) by omega]
theorem parts_bd (t : Nat) : yN t < 2108 ∧ moN t < 16 ∧ dN t < 32 ∧ hN t < 32 ∧ miN t < 64 ∧ sN t < 64 := by
  unfold yN moN dN hN miN sN
  omega
/-- A time's text from its parts. -/
def clockP (y mo d h mi s : Nat) : List Nat := digP y 4 ++ [45] ++ digP mo 2 ++ [45] ++ digP d 2 ++ [32] ++ digP h 2 ++ [58] ++ digP mi 2 ++ [58] ++ digP s 2
def dosTextP (t : Nat) : List Nat := if timeB t = true then clockP (yN t) (moN t) (dN t) (hN t) (miN t) (sN t) else []
theorem strOf_cat (a b : List Nat) : strOf (a ++ b) = strOf a ++ strOf b := by
  apply ByteArray.ext
  apply Array.ext'
  simp [strOf, ByteArray.data_append]
theorem results_dt {fn : Func} {p t : Tmp} (h : fn.results = #[.cell p 154, .tmp t]) (tmps : Array Value) (w : World) (g : Nat) (c0 c1 c2 c3 c4 c5 : Value) (hp : tmps.getD p undef = .pointer (some ⟨g, 0, none⟩)) (hB : Blk w g [c0, c1, c2, c3, c4, c5] 154) :
    (results fn tmps).run Try.prog w = .ok (.tuple #[.agg #[c0, c1, c2, c3, c4, c5], tmps.getD t undef]) w := by
  have h0 := hB.cell 0 rfl
  have h1 := hB.cell 1 rfl
  have h2 := hB.cell 2 rfl
  have h3 := hB.cell 3 rfl
  have h4 := hB.cell 4 rfl
  have h5 := hB.cell 5 rfl
  have hp2 : tmps[p]?.getD undef = .pointer (some ⟨g, 0, none⟩) := by rw [← hp]; simp
  simp [results, h, go_sem, hp2, h0, h1, h2, h3, h4, h5]
def splitTV (t : Nat) : Value := .tuple #[.agg (if timeB t = true then partsL t else [.int .i64 0, .int .i64 0, .int .i64 0, .int .i64 0, .int .i64 0, .int .i64 0]).toArray, .bool (timeB t)]
end Go.Proofs.Ytdehkaknbmbieaa

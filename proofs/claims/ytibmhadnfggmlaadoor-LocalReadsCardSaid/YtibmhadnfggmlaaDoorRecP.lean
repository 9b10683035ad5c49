/- Packages local and swingleref19: a record: plain. -/
import Derived.Test.YtibmhadnfggmlaaDoorPath
import Derived.Test.YtibmhadnfggmlaaDoorDosE
namespace Go.Proofs.YtibmhadnfggmlaaDoor
open Go.RowKit

/-- A record's fields. -/
structure RecD where
  p : ByteArray
  m : Int
  sum : Nat
  l : Int
  wh : Int
  k : Int
  md : Int
  t : Nat
  pos : Int
def RecD.cells (r : RecD) : List Value := [.string r.p, .int .i64 r.m, .int .u32 (r.sum : Nat), .int .i64 r.l, .int .i64 r.wh, .int .i64 r.k, .int .i64 r.md, .int .u32 (r.t : Nat), .int .i64 r.pos]
def RecD.v (r : RecD) : Value := .agg #[.string r.p, .int .i64 r.m, .int .u32 (r.sum : Nat), .int .i64 r.l, .int .i64 r.wh, .int .i64 r.k, .int .i64 r.md, .int .u32 (r.t : Nat), .int .i64 r.pos]
/-- What fits: a path of at most a thousand bytes, numbers of their widths. -/
structure RecD.Fits (r : RecD) : Prop where
  p : r.p.size ≤ 1000
  sum : r.sum < 4294967296
  t : r.t < 4294967296
def nameP (k : Int) (p : ByteArray) : List Nat := if k = 2 then bytesOf p ++ [47] else bytesOf p
theorem nameP_lt (k : Int) (p : ByteArray) : ∀ x ∈ nameP k p, x < 256 := by
  unfold nameP
  split
  · intro x hx; rcases List.mem_append.1 hx with h | h
    · exact bytesOf_lt p x h
    · simp at h; omega
  · exact bytesOf_lt p
theorem nameP_len (k : Int) (p : ByteArray) : (nameP k p).length ≤ p.size + 1 := by
  unfold nameP
  split
  · simp [length_bytesOf]
  · rw [length_bytesOf]; omega
def sizeB (n : Int) : Bool := decide (0 ≤ n) && decide (n < 2147483648)
def laidB (r : RecD) : Bool :=
  if (r.m ≠ 0 ∧ r.m ≠ 8) ∨ sizeB r.l = false ∨ sizeB r.wh = false ∨ sizeB r.pos = false then false
  else if r.k = 2 then decide (r.sum = 0) && decide (r.l = 0) && decide (r.wh = 0) && decide (r.m = 0) else decide (r.m = 8) || decide (r.l = r.wh)
def rtimeB (k : Int) (t : Nat) : Bool := if k = 2 then decide (t = 2162688) else timeB t
/-- Is its path the name's, and its kind? -/
def nameB (r : RecD) : Bool := (pathP (nameP r.k r.p)).2.2 && decide ((pathP (nameP r.k r.p)).1 = bytesOf r.p) && decide (((pathP (nameP r.k r.p)).2.1 : Int) = r.k)
def recErr (r : RecD) : Nat := if nameB r = false then 5 else if laidB r = false then 2 else if r.md < 0 ∨ 511 < r.md then 12 else if rtimeB r.k r.t = false then 13 else 0
end Go.Proofs.YtibmhadnfggmlaaDoor

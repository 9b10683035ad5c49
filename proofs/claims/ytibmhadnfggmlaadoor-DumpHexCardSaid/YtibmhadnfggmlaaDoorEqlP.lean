/- == on structs of package api. -/
import Derived.Test.YtibmhadnfggmlaaDoorNMd
import Derived.Test.YtibmhadnfggmlaaDoorGA
namespace Go.Proofs.YtibmhadnfggmlaaDoor
set_option linter.unusedVariables false
set_option linter.unusedSimpArgs false
set_option linter.unusedSectionVars false
open Go.RowKit
set_option linter.unusedVariables false
theorem infoPr : (Tryd.prog.info? 32).map (·.size) = some 5 := by kernel_rfl

def printL (k m t s c : Int) : Value := .agg #[.int .i64 k, .int .i64 m, .int .u32 t, .int .i64 s, .int .u32 c]
def nodeL (k m t : Int) (D : ByteArray) : Value := .agg #[.int .i64 k, .int .i64 m, .int .u32 t, .string D]
theorem eqlPrint {a : Act} {o : Oper} {x y : Operand} {T : TypeId} (ho : o.op = .binOp .eql 32 x y T) (k m t s c k2 m2 t2 s2 c2 : Int) (hx : a.eval x = printL k m t s c) (hy : a.eval y = printL k2 m2 t2 s2 c2) (w : World) :
    (execOp a.eval o).run Tryd.prog w = .ok (.value (.bool (decide (k = k2 ∧ m = m2 ∧ t = t2 ∧ s = s2 ∧ c = c2)))) w := by
  simp only [execOp, ho, hx, hy, printL]
  by_cases h1 : k = k2
  · by_cases h2 : m = m2
    · by_cases h3 : t = t2
      · by_cases h4 : s = s2
        · by_cases h5 : c = c2
          · subst h1 h2 h3 h4 h5
            go_simp
          · have e : (c == c2) = false := by simp [h5]
            subst h1 h2 h3 h4
            go_simp
        · have e : (s == s2) = false := by simp [h4]
          subst h1 h2 h3
          go_simp
      · have e : (t == t2) = false := by simp [h3]
        subst h1 h2
        go_simp
    · have e : (m == m2) = false := by simp [h2]
      subst h1
      go_simp
  · have e : (k == k2) = false := by simp [h1]
    go_simp
theorem eqlNode {a : Act} {o : Oper} {x y : Operand} {T : TypeId} (ho : o.op = .binOp .eql 42 x y T) (k m t k2 m2 t2 : Int) (D D2 : ByteArray) (hx : a.eval x = nodeL k m t D) (hy : a.eval y = nodeL k2 m2 t2 D2) (w : World) :
    (execOp a.eval o).run Tryd.prog w = .ok (.value (.bool (decide (k = k2 ∧ m = m2 ∧ t = t2 ∧ D = D2)))) w := by
  simp only [execOp, ho, hx, hy, nodeL]
  by_cases h1 : k = k2
  · by_cases h2 : m = m2
    · by_cases h3 : t = t2
      · by_cases h4 : D = D2
        · subst h1 h2 h3 h4
          go_simp
        · subst h1 h2 h3
          go_simp
          intro h
          rw [ByteArray.toList_eq, ByteArray.toList_eq] at h
          exact h4 (ByteArray.ext (Array.ext' h))
      · have e : (t == t2) = false := by simp [h3]
        subst h1 h2
        go_simp
    · have e : (m == m2) = false := by simp [h2]
      subst h1
      go_simp
  · have e : (k == k2) = false := by simp [h1]
    go_simp
end Go.Proofs.YtibmhadnfggmlaaDoor

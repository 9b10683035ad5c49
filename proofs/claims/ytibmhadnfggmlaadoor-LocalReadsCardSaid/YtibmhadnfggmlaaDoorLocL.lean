/- Package local: what is written, what is read: plain. -/
import Derived.Test.YtibmhadnfggmlaaDoorLocP
namespace Go.Proofs.YtibmhadnfggmlaaDoor
open Go.RowKit

def headP (r : RecD) : List Nat := [80, 75, 3, 4, 20, 0, 0, 8] ++ (leP r.m.toNat 2 ++ (leP r.t 4 ++ (leP r.sum 4 ++ (leP r.l.toNat 4 ++ (leP r.wh.toNat 4 ++ (leP (nameP r.k r.p).length 2 ++ ([0, 0] ++ nameP r.k r.p)))))))
def writeP (r : RecD) : List Nat := if recErr r = 0 then headP r else []
theorem headP_len (r : RecD) : (headP r).length = 30 + (nameP r.k r.p).length := by simp [headP, leP_len]; omega
theorem headP_lt (r : RecD) : ∀ x ∈ headP r, x < 256 := by
  intro x hx
  simp only [headP, List.mem_append] at hx
  rcases hx with h | h | h | h | h | h | h | h | h
  · simp at h; omega
  all_goals first
    | exact leP_lt _ _ x h
    | exact nameP_lt _ _ x h
    | (simp at h; omega)
theorem writeP_lt (r : RecD) : ∀ x ∈ writeP r, x < 256 := by
  unfold writeP; split
  · exact headP_lt r
  · intro x hx; simp at hx
theorem gN_mid {s : ByteArray} {a c : List Nat} {n k i : Nat} (h : bytesOf s = a ++ (leP n k ++ c)) (hi : a.length = i) : gN s i k = n % 256 ^ k := by
  unfold gN
  rw [h, ← hi, List.drop_left, List.take_left' (leP_len k n), leG_leP]
def noneR : RecD := ⟨.empty, 0, 0, 0, 0, 0, 0, 0, 0⟩
def recOf (h : HdD) (a : Nat) : RecD := ⟨strOf (pathP h.name).1, h.m, h.sum, h.l, h.wh, ((pathP h.name).2.1 : Nat), 0, h.t, a⟩
def formB (h : HdD) : Bool := (decide (h.beg = 67324752) && (decide (h.flags = 2048) || decide (h.flags = 2056)) && (decide (h.m = 0) || decide (h.m = 8))) && (decide (h.flags = 2048) || (decide (h.sum = 0) && decide (h.l = 0) && decide (h.wh = 0)))
/-- A header that stands at the head of x, which stands at a. -/
def readX (x : ByteArray) (a : Nat) : RecD × Nat × Bool × Nat :=
  if x.size < 30 ∨ x.size < hdLen x then (noneR, 0, false, 3)
  else if formB (hdP ⟨x, 0, false⟩).1 = false then (noneR, 0, false, 2)
  else if (pathP (hdP ⟨x, 0, false⟩).1.name).2.2 = false then (noneR, 0, false, 5)
  else if rtimeB ((pathP (hdP ⟨x, 0, false⟩).1.name).2.1 : Nat) (hdP ⟨x, 0, false⟩).1.t = false then (noneR, 0, false, 13)
  else (recOf (hdP ⟨x, 0, false⟩).1 a, hdLen x, decide ((hdP ⟨x, 0, false⟩).1.flags = 2056), 0)
def readP (s : ByteArray) (a : Int) : RecD × Nat × Bool × Nat :=
  if a < 0 ∨ (s.size : Int) < a then (noneR, 0, false, 3) else readX (s.extract a.toNat s.size) a.toNat

theorem recErr_parts {r : RecD} (h : recErr r = 0) : nameB r = true ∧ laidB r = true ∧ ¬ (r.md < 0 ∨ 511 < r.md) ∧ rtimeB r.k r.t = true := by
  unfold recErr at h
  split at h
  · cases h
  rename_i h1
  split at h
  · cases h
  rename_i h2
  split at h
  · cases h
  rename_i h3
  split at h
  · cases h
  rename_i h4
  exact ⟨by simpa using h1, by simpa using h2, h3, by simpa using h4⟩
theorem sizeB_yes {n : Int} (h : sizeB n = true) : 0 ≤ n ∧ n < 2147483648 := by
  unfold sizeB at h
  rw [Bool.and_eq_true, decide_eq_true_eq, decide_eq_true_eq] at h; exact h
theorem laidB_parts {r : RecD} (h : laidB r = true) : (r.m = 0 ∨ r.m = 8) ∧ (0 ≤ r.l ∧ r.l < 2147483648) ∧ (0 ≤ r.wh ∧ r.wh < 2147483648) ∧ (0 ≤ r.pos ∧ r.pos < 2147483648) := by
  unfold laidB at h
  split at h
  · cases h
  rename_i h1
  have hm : r.m = 0 ∨ r.m = 8 := by
    by_cases h0 : r.m = 0
    · exact .inl h0
    · by_cases h8 : r.m = 8
      · exact .inr h8
      · exact absurd (.inl ⟨h0, h8⟩) h1
  refine ⟨hm, ?_, ?_, ?_⟩
  · exact sizeB_yes (by cases hb : sizeB r.l with | true => rfl | false => exact absurd (.inr (.inl hb)) h1)
  · exact sizeB_yes (by cases hb : sizeB r.wh with | true => rfl | false => exact absurd (.inr (.inr (.inl hb))) h1)
  · exact sizeB_yes (by cases hb : sizeB r.pos with | true => rfl | false => exact absurd (.inr (.inr (.inr hb))) h1)
theorem nameB_parts {r : RecD} (h : nameB r = true) : (pathP (nameP r.k r.p)).2.2 = true ∧ (pathP (nameP r.k r.p)).1 = bytesOf r.p ∧ ((pathP (nameP r.k r.p)).2.1 : Int) = r.k := by
  unfold nameB at h
  rw [Bool.and_eq_true, Bool.and_eq_true, decide_eq_true_eq, decide_eq_true_eq] at h
  exact ⟨h.1.1, h.1.2, h.2⟩
theorem pathP_nil : (pathP []).2.2 = false := by decide
/-- A header that may be, with anything behind it: its fields. -/
theorem head_fields (r : RecD) (x : ByteArray) (c : List Nat) (hf : r.Fits) (hr : recErr r = 0) (hx : bytesOf x = headP r ++ c) :
    gN x 26 2 = (nameP r.k r.p).length ∧ gN x 28 2 = 0 := by
  have hl := nameP_len r.k r.p
  have hp := hf.p
  constructor
  · rw [gN_mid (a := [80, 75, 3, 4, 20, 0, 0, 8] ++ (leP r.m.toNat 2 ++ (leP r.t 4 ++ (leP r.sum 4 ++ (leP r.l.toNat 4 ++ leP r.wh.toNat 4))))) (k := 2) (n := (nameP r.k r.p).length) (c := [0, 0] ++ nameP r.k r.p ++ c) (by rw [hx]; simp [headP, List.append_assoc]) (by simp [leP_len])]
    exact Nat.mod_eq_of_lt (by omega)
  · rw [gN_mid (a := [80, 75, 3, 4, 20, 0, 0, 8] ++ (leP r.m.toNat 2 ++ (leP r.t 4 ++ (leP r.sum 4 ++ (leP r.l.toNat 4 ++ (leP r.wh.toNat 4 ++ leP (nameP r.k r.p).length 2)))))) (k := 2) (n := 0) (c := nameP r.k r.p ++ c) (by rw [hx]; simp [headP, leP, List.append_assoc]) (by simp [leP_len])]
end Go.Proofs.YtibmhadnfggmlaaDoor

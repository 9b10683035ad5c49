/- Package local and swingleref19: what a header's fields are: plain. -/
import Derived.Test.YtibmhadnfggmlaaDoorGF
import Derived.Test.YtibmhadnfggmlaaDoorGB
namespace Go.Proofs.YtibmhadnfggmlaaDoor
set_option linter.unusedVariables false
set_option linter.unusedSimpArgs false
set_option linter.unusedSectionVars false
open Go.RowKit

/-- The number of so many bytes from a place on. -/
def gN (s : ByteArray) (i k : Nat) : Nat := leG (((bytesOf s).drop i).take k)
theorem gN_lt (s : ByteArray) (i k : Nat) : gN s i k < 256 ^ k := by
  unfold gN
  refine Nat.lt_of_lt_of_le (leG_lt _ fun x hx => bytesOf_lt s x (List.mem_of_mem_drop (List.mem_of_mem_take hx))) (Nat.pow_le_pow_right (by omega) ?_)
  rw [List.length_take]; omega
theorem num_fine {s : ByteArray} {p : Nat} (k : Nat) (h : p + k ≤ s.size) : (⟨s, p, false⟩ : RS).num k = (gN s p k, ⟨s, p + k, false⟩) := by
  unfold RS.num; rw [RS.text_fine k (by omega)]; rfl
theorem num_all (r : RS) (k : Nat) (h : (r.num k).2.bad = false) (hp : r.p ≤ r.s.size) : r.bad = false ∧ r.p + k ≤ r.s.size ∧ r.num k = (gN r.s r.p k, ⟨r.s, r.p + k, false⟩) := by
  obtain ⟨a, b, c⟩ := RS.text_all r k h
  refine ⟨a, by omega, ?_⟩
  unfold RS.num; rw [c]; rfl
/-- A header's fields. -/
structure HdD where
  beg : Nat
  flags : Nat
  m : Nat
  t : Nat
  sum : Nat
  l : Nat
  wh : Nat
  name : List Nat
def hdP (r : RS) : HdD × RS :=
  let a := r.num 4
  let b := a.2.num 2
  let f := b.2.num 2
  let m := f.2.num 2
  let t := m.2.num 4
  let u := t.2.num 4
  let l := u.2.num 4
  let wh := l.2.num 4
  let n := wh.2.num 2
  let mo := n.2.num 2
  let nm := mo.2.text n.1
  let sk := nm.2.text mo.1
  (⟨a.1, f.1, m.1, t.1, u.1, l.1, wh.1, nm.1⟩, sk.2)
/-- How long a header is that stands at a text's head. -/
def hdLen (s : ByteArray) : Nat := 30 + gN s 26 2 + gN s 28 2
theorem hdP_fine (s : ByteArray) (h30 : 30 ≤ s.size) (h : hdLen s ≤ s.size) :
    hdP ⟨s, 0, false⟩ = (⟨gN s 0 4, gN s 6 2, gN s 8 2, gN s 10 4, gN s 14 4, gN s 18 4, gN s 22 4, ((bytesOf s).drop 30).take (gN s 26 2)⟩, ⟨s, hdLen s, false⟩) := by
  unfold hdLen at h ⊢
  unfold hdP
  simp only [num_fine 4 (show 0 + 4 ≤ s.size by omega), num_fine 2 (show 4 + 2 ≤ s.size by omega), num_fine 2 (show 6 + 2 ≤ s.size by omega), num_fine 2 (show 8 + 2 ≤ s.size by omega), num_fine 4 (show 10 + 4 ≤ s.size by omega), num_fine 4 (show 14 + 4 ≤ s.size by omega), num_fine 4 (show 18 + 4 ≤ s.size by omega), num_fine 4 (show 22 + 4 ≤ s.size by omega), num_fine 2 (show 26 + 2 ≤ s.size by omega), num_fine 2 (show 28 + 2 ≤ s.size by omega), Nat.zero_add, Nat.reduceAdd]
  rw [RS.text_fine _ (by omega)]
  dsimp only
  rw [RS.text_fine _ (by omega)]
theorem hdP_bad (s : ByteArray) (h : s.size < 30 ∨ s.size < hdLen s) : (hdP ⟨s, 0, false⟩).2.bad = true := by
  cases hb : (hdP ⟨s, 0, false⟩).2.bad with
  | true => rfl
  | false =>
    exfalso
    unfold hdLen at h
    unfold hdP at hb
    dsimp only at hb
    have o0 : (⟨s, 0, false⟩ : RS).Ok := Nat.zero_le _
    have o1 := RS.num_ok o0 4
    have o2 := RS.num_ok o1 2
    have o3 := RS.num_ok o2 2
    have o4 := RS.num_ok o3 2
    have o5 := RS.num_ok o4 4
    have o6 := RS.num_ok o5 4
    have o7 := RS.num_ok o6 4
    have o8 := RS.num_ok o7 4
    have o9 := RS.num_ok o8 2
    have o10 := RS.num_ok o9 2
    obtain ⟨b1, l1, e1⟩ := RS.text_all _ _ hb
    obtain ⟨b2, l2, e2⟩ := RS.text_all _ _ b1
    obtain ⟨b3, l3, e3⟩ := num_all _ _ b2 o9
    obtain ⟨b4, l4, e4⟩ := num_all _ _ b3 o8
    obtain ⟨b5, l5, e5⟩ := num_all _ _ b4 o7
    obtain ⟨b6, l6, e6⟩ := num_all _ _ b5 o6
    obtain ⟨b7, l7, e7⟩ := num_all _ _ b6 o5
    obtain ⟨b8, l8, e8⟩ := num_all _ _ b7 o4
    obtain ⟨b9, l9, e9⟩ := num_all _ _ b8 o3
    obtain ⟨b10, l10, e10⟩ := num_all _ _ b9 o2
    obtain ⟨b11, l11, e11⟩ := num_all _ _ b10 o1
    obtain ⟨b12, l12, e12⟩ := num_all _ _ b11 o0
    clear b1 b2 b3 b4 b5 b6 b7 b8 b9 b10 b11 b12 o0 o1 o2 o3 o4 o5 o6 o7 o8 o9 o10 hb
    simp only [e12, Nat.zero_add, Nat.reduceAdd] at e11 l11 e10 l10 e9 l9 e8 l8 e7 l7 e6 l6 e5 l5 e4 l4 e3 l3 e2 l2 e1 l1
    simp only [e11, Nat.zero_add, Nat.reduceAdd] at e10 l10 e9 l9 e8 l8 e7 l7 e6 l6 e5 l5 e4 l4 e3 l3 e2 l2 e1 l1
    simp only [e10, Nat.zero_add, Nat.reduceAdd] at e9 l9 e8 l8 e7 l7 e6 l6 e5 l5 e4 l4 e3 l3 e2 l2 e1 l1
    simp only [e9, Nat.zero_add, Nat.reduceAdd] at e8 l8 e7 l7 e6 l6 e5 l5 e4 l4 e3 l3 e2 l2 e1 l1
    simp only [e8, Nat.zero_add, Nat.reduceAdd] at e7 l7 e6 l6 e5 l5 e4 l4 e3 l3 e2 l2 e1 l1
    simp only [e7, Nat.zero_add, Nat.reduceAdd] at e6 l6 e5 l5 e4 l4 e3 l3 e2 l2 e1 l1
    simp only [e6, Nat.zero_add, Nat.reduceAdd] at e5 l5 e4 l4 e3 l3 e2 l2 e1 l1
    simp only [e5, Nat.zero_add, Nat.reduceAdd] at e4 l4 e3 l3 e2 l2 e1 l1
    simp only [e4, Nat.zero_add, Nat.reduceAdd] at e3 l3 e2 l2 e1 l1
    simp only [e3, Nat.zero_add, Nat.reduceAdd] at e2 l2 e1 l1
    rw [e2] at l1
    dsimp only at l1
    omega
end Go.Proofs.YtibmhadnfggmlaaDoor
namespace Go.Proofs.YtibmhadnfggmlaaDoor
set_option linter.unusedVariables false
set_option linter.unusedSimpArgs false
set_option linter.unusedSectionVars false
open Go.RowKit
set_option linter.unusedVariables false

/-- A directory record's fields. -/
structure ChD where
  beg : Nat
  flags : Nat
  disk : Nat
  attr : Nat
  m : Nat
  t : Nat
  sum : Nat
  l : Nat
  wh : Nat
  pos : Nat
  name : List Nat
def chdP (r : RS) : ChD × RS :=
  let c_a := r.num 4
  let c_k1 := c_a.2.text 4
  let c_f := c_k1.2.num 2
  let c_m := c_f.2.num 2
  let c_t := c_m.2.num 4
  let c_u := c_t.2.num 4
  let c_l := c_u.2.num 4
  let c_wh := c_l.2.num 4
  let c_n := c_wh.2.num 2
  let c_ex := c_n.2.num 2
  let c_re := c_ex.2.num 2
  let c_di := c_re.2.num 2
  let c_k2 := c_di.2.text 2
  let c_at := c_k2.2.num 4
  let c_ps := c_at.2.num 4
  let nm := c_ps.2.text c_n.1
  let sk := nm.2.text (c_ex.1 + c_re.1)
  (⟨c_a.1, c_f.1, c_di.1, c_at.1, c_m.1, c_t.1, c_u.1, c_l.1, c_wh.1, c_ps.1, nm.1⟩, sk.2)
/-- How long a record is that stands at a text's head. -/
def chdLen (s : ByteArray) : Nat := 46 + gN s 28 2 + (gN s 30 2 + gN s 32 2)
theorem text_fine2 {s : ByteArray} {p : Nat} (n : Nat) (h : p + n ≤ s.size) : (⟨s, p, false⟩ : RS).text n = (((bytesOf s).drop p).take n, ⟨s, p + n, false⟩) := RS.text_fine n (by omega)
theorem chdP_fine (s : ByteArray) (h46 : 46 ≤ s.size) (h : chdLen s ≤ s.size) :
    chdP ⟨s, 0, false⟩ = (⟨gN s 0 4, gN s 8 2, gN s 34 2, gN s 38 4, gN s 10 2, gN s 12 4, gN s 16 4, gN s 20 4, gN s 24 4, gN s 42 4, ((bytesOf s).drop 46).take (gN s 28 2)⟩, ⟨s, chdLen s, false⟩) := by
  unfold chdLen at h ⊢
  unfold chdP
  simp only [num_fine 4 (show 0 + 4 ≤ s.size by omega), text_fine2 4 (show 4 + 4 ≤ s.size by omega), num_fine 2 (show 8 + 2 ≤ s.size by omega), num_fine 2 (show 10 + 2 ≤ s.size by omega), num_fine 4 (show 12 + 4 ≤ s.size by omega), num_fine 4 (show 16 + 4 ≤ s.size by omega), num_fine 4 (show 20 + 4 ≤ s.size by omega), num_fine 4 (show 24 + 4 ≤ s.size by omega), num_fine 2 (show 28 + 2 ≤ s.size by omega), num_fine 2 (show 30 + 2 ≤ s.size by omega), num_fine 2 (show 32 + 2 ≤ s.size by omega), num_fine 2 (show 34 + 2 ≤ s.size by omega), text_fine2 2 (show 36 + 2 ≤ s.size by omega), num_fine 4 (show 38 + 4 ≤ s.size by omega), num_fine 4 (show 42 + 4 ≤ s.size by omega), Nat.zero_add, Nat.reduceAdd]
  rw [text_fine2 _ (by omega)]
  dsimp only
  rw [text_fine2 _ (by omega)]
theorem text_all2 (r : RS) (n : Nat) (h : (r.text n).2.bad = false) (hp : r.p ≤ r.s.size) : r.bad = false ∧ r.p + n ≤ r.s.size ∧ r.text n = (((bytesOf r.s).drop r.p).take n, ⟨r.s, r.p + n, false⟩) := by
  obtain ⟨a, b, c⟩ := RS.text_all r n h
  exact ⟨a, by omega, c⟩
theorem chdP_bad (s : ByteArray) (h : s.size < 46 ∨ s.size < chdLen s) : (chdP ⟨s, 0, false⟩).2.bad = true := by
  cases hb : (chdP ⟨s, 0, false⟩).2.bad with
  | true => rfl
  | false =>
    exfalso
    unfold chdLen at h
    unfold chdP at hb
    dsimp only at hb
    have o0 : (⟨s, 0, false⟩ : RS).Ok := Nat.zero_le _
    have o1 := RS.num_ok o0 4
    have o2 := RS.text_ok o1 4
    have o3 := RS.num_ok o2 2
    have o4 := RS.num_ok o3 2
    have o5 := RS.num_ok o4 4
    have o6 := RS.num_ok o5 4
    have o7 := RS.num_ok o6 4
    have o8 := RS.num_ok o7 4
    have o9 := RS.num_ok o8 2
    have o10 := RS.num_ok o9 2
    have o11 := RS.num_ok o10 2
    have o12 := RS.num_ok o11 2
    have o13 := RS.text_ok o12 2
    have o14 := RS.num_ok o13 4
    have o15 := RS.num_ok o14 4
    obtain ⟨b1, l1, e1⟩ := RS.text_all _ _ hb
    obtain ⟨b2, l2, e2⟩ := RS.text_all _ _ b1
    obtain ⟨b3, l3, e3⟩ := num_all _ _ b2 o14
    obtain ⟨b4, l4, e4⟩ := num_all _ _ b3 o13
    obtain ⟨b5, l5, e5⟩ := text_all2 _ _ b4 o12
    obtain ⟨b6, l6, e6⟩ := num_all _ _ b5 o11
    obtain ⟨b7, l7, e7⟩ := num_all _ _ b6 o10
    obtain ⟨b8, l8, e8⟩ := num_all _ _ b7 o9
    obtain ⟨b9, l9, e9⟩ := num_all _ _ b8 o8
    obtain ⟨b10, l10, e10⟩ := num_all _ _ b9 o7
    obtain ⟨b11, l11, e11⟩ := num_all _ _ b10 o6
    obtain ⟨b12, l12, e12⟩ := num_all _ _ b11 o5
    obtain ⟨b13, l13, e13⟩ := num_all _ _ b12 o4
    obtain ⟨b14, l14, e14⟩ := num_all _ _ b13 o3
    obtain ⟨b15, l15, e15⟩ := num_all _ _ b14 o2
    obtain ⟨b16, l16, e16⟩ := text_all2 _ _ b15 o1
    obtain ⟨b17, l17, e17⟩ := num_all _ _ b16 o0
    clear b1 b2 b3 b4 b5 b6 b7 b8 b9 b10 b11 b12 b13 b14 b15 b16 b17 o0 o1 o2 o3 o4 o5 o6 o7 o8 o9 o10 o11 o12 o13 o14 o15 hb
    simp only [e17, Nat.zero_add, Nat.reduceAdd] at e16 l16 e15 l15 e14 l14 e13 l13 e12 l12 e11 l11 e10 l10 e9 l9 e8 l8 e7 l7 e6 l6 e5 l5 e4 l4 e3 l3 e2 l2 e1 l1
    simp only [e16, Nat.zero_add, Nat.reduceAdd] at e15 l15 e14 l14 e13 l13 e12 l12 e11 l11 e10 l10 e9 l9 e8 l8 e7 l7 e6 l6 e5 l5 e4 l4 e3 l3 e2 l2 e1 l1
    simp only [e15, Nat.zero_add, Nat.reduceAdd] at e14 l14 e13 l13 e12 l12 e11 l11 e10 l10 e9 l9 e8 l8 e7 l7 e6 l6 e5 l5 e4 l4 e3 l3 e2 l2 e1 l1
    simp only [e14, Nat.zero_add, Nat.reduceAdd] at e13 l13 e12 l12 e11 l11 e10 l10 e9 l9 e8 l8 e7 l7 e6 l6 e5 l5 e4 l4 e3 l3 e2 l2 e1 l1
    simp only [e13, Nat.zero_add, Nat.reduceAdd] at e12 l12 e11 l11 e10 l10 e9 l9 e8 l8 e7 l7 e6 l6 e5 l5 e4 l4 e3 l3 e2 l2 e1 l1
    simp only [e12, Nat.zero_add, Nat.reduceAdd] at e11 l11 e10 l10 e9 l9 e8 l8 e7 l7 e6 l6 e5 l5 e4 l4 e3 l3 e2 l2 e1 l1
    simp only [e11, Nat.zero_add, Nat.reduceAdd] at e10 l10 e9 l9 e8 l8 e7 l7 e6 l6 e5 l5 e4 l4 e3 l3 e2 l2 e1 l1
    simp only [e10, Nat.zero_add, Nat.reduceAdd] at e9 l9 e8 l8 e7 l7 e6 l6 e5 l5 e4 l4 e3 l3 e2 l2 e1 l1
    simp only [e9, Nat.zero_add, Nat.reduceAdd] at e8 l8 e7 l7 e6 l6 e5 l5 e4 l4 e3 l3 e2 l2 e1 l1
    simp only [e8, Nat.zero_add, Nat.reduceAdd] at e7 l7 e6 l6 e5 l5 e4 l4 e3 l3 e2 l2 e1 l1
    simp only [e7, Nat.zero_add, Nat.reduceAdd] at e6 l6 e5 l5 e4 l4 e3 l3 e2 l2 e1 l1
    simp only [e6, Nat.zero_add, Nat.reduceAdd] at e5 l5 e4 l4 e3 l3 e2 l2 e1 l1
    simp only [e5, Nat.zero_add, Nat.reduceAdd] at e4 l4 e3 l3 e2 l2 e1 l1
    simp only [e4, Nat.zero_add, Nat.reduceAdd] at e3 l3 e2 l2 e1 l1
    simp only [e3, Nat.zero_add, Nat.reduceAdd] at e2 l2 e1 l1
    rw [e2] at l1
    dsimp only at l1
    omega
end Go.Proofs.YtibmhadnfggmlaaDoor
namespace Go.Proofs.YtibmhadnfggmlaaDoor
set_option linter.unusedVariables false
set_option linter.unusedSimpArgs false
set_option linter.unusedSectionVars false
open Go.RowKit

def headP (r : RecD) : List Nat := [80, 75, 3, 4, 20, 0, 0, 8] ++ (leP r.m.toNat 2 ++ (leP r.t 4 ++ (leP r.sum 4 ++ (leP r.l.toNat 4 ++ (leP r.wh.toNat 4 ++ (leP (nameP r.k r.p).length 2 ++ ([0, 0] ++ nameP r.k r.p)))))))
def writeP (r : RecD) : List Nat := if recErr r = 0 then headP r else []
theorem headP_len (r : RecD) : (headP r).length = 30 + (nameP r.k r.p).length := by simp [headP, leP_len]; omega
theorem headP_lt (r : RecD) : ∀ x ∈ headP r, x < 256 := by
  intro x hx
  simp only [headP, List.mem_append] at hx
  rcases hx with h | h | h | h | h | h | h | h | h
  · simp at h; omega
  all_goals first
    | exact leP_lt _ _ x h
    | exact nameP_lt _ _ x h
    | (simp at h; omega)
theorem writeP_lt (r : RecD) : ∀ x ∈ writeP r, x < 256 := by
  unfold writeP; split
  · exact headP_lt r
  · intro x hx; simp at hx
theorem gN_mid {s : ByteArray} {a c : List Nat} {n k i : Nat} (h : bytesOf s = a ++ (leP n k ++ c)) (hi : a.length = i) : gN s i k = n % 256 ^ k := by
  unfold gN
  rw [h, ← hi, List.drop_left, List.take_left' (leP_len k n), leG_leP]
def noneR : RecD := ⟨.empty, 0, 0, 0, 0, 0, 0, 0, 0⟩
def recOf (h : HdD) (a : Nat) : RecD := ⟨strOf (pathP h.name).1, h.m, h.sum, h.l, h.wh, ((pathP h.name).2.1 : Nat), 0, h.t, a⟩
def formB (h : HdD) : Bool := (decide (h.beg = 67324752) && (decide (h.flags = 2048) || decide (h.flags = 2056)) && (decide (h.m = 0) || decide (h.m = 8))) && (decide (h.flags = 2048) || (decide (h.sum = 0) && decide (h.l = 0) && decide (h.wh = 0)))
/-- A header that stands at the head of x, which stands at a. -/
def readX (x : ByteArray) (a : Nat) : RecD × Nat × Bool × Nat :=
  if x.size < 30 ∨ x.size < hdLen x then (noneR, 0, false, 3)
  else if formB (hdP ⟨x, 0, false⟩).1 = false then (noneR, 0, false, 2)
  else if (pathP (hdP ⟨x, 0, false⟩).1.name).2.2 = false then (noneR, 0, false, 5)
  else if rtimeB ((pathP (hdP ⟨x, 0, false⟩).1.name).2.1 : Nat) (hdP ⟨x, 0, false⟩).1.t = false then (noneR, 0, false, 13)
  else (recOf (hdP ⟨x, 0, false⟩).1 a, hdLen x, decide ((hdP ⟨x, 0, false⟩).1.flags = 2056), 0)
def readP (s : ByteArray) (a : Int) : RecD × Nat × Bool × Nat :=
  if a < 0 ∨ (s.size : Int) < a then (noneR, 0, false, 3) else readX (s.extract a.toNat s.size) a.toNat

theorem recErr_parts {r : RecD} (h : recErr r = 0) : nameB r = true ∧ laidB r = true ∧ ¬ (r.md < 0 ∨ 511 < r.md) ∧ rtimeB r.k r.t = true := by
  unfold recErr at h
  split at h
  · cases h
  rename_i h1
  split at h
  · cases h
  rename_i h2
  split at h
  · cases h
  rename_i h3
  split at h
  · cases h
  rename_i h4
  exact ⟨by simpa using h1, by simpa using h2, h3, by simpa using h4⟩
theorem sizeB_yes {n : Int} (h : sizeB n = true) : 0 ≤ n ∧ n < 2147483648 := by
  unfold sizeB at h
  rw [Bool.and_eq_true, decide_eq_true_eq, decide_eq_true_eq] at h; exact h
theorem laidB_parts {r : RecD} (h : laidB r = true) : (r.m = 0 ∨ r.m = 8) ∧ (0 ≤ r.l ∧ r.l < 2147483648) ∧ (0 ≤ r.wh ∧ r.wh < 2147483648) ∧ (0 ≤ r.pos ∧ r.pos < 2147483648) := by
  unfold laidB at h
  split at h
  · cases h
  rename_i h1
  have hm : r.m = 0 ∨ r.m = 8 := by
    by_cases h0 : r.m = 0
    · exact .inl h0
    · by_cases h8 : r.m = 8
      · exact .inr h8
      · exact absurd (.inl ⟨h0, h8⟩) h1
  refine ⟨hm, ?_, ?_, ?_⟩
  · exact sizeB_yes (by cases hb : sizeB r.l with | true => rfl | false => exact absurd (.inr (.inl hb)) h1)
  · exact sizeB_yes (by cases hb : sizeB r.wh with | true => rfl | false => exact absurd (.inr (.inr (.inl hb))) h1)
  · exact sizeB_yes (by cases hb : sizeB r.pos with | true => rfl | false => exact absurd (.inr (.inr (.inr hb))) h1)
theorem nameB_parts {r : RecD} (h : nameB r = true) : (pathP (nameP r.k r.p)).2.2 = true ∧ (pathP (nameP r.k r.p)).1 = bytesOf r.p ∧ ((pathP (nameP r.k r.p)).2.1 : Int) = r.k := by
  unfold nameB at h
  rw [Bool.and_eq_true, Bool.and_eq_true, decide_eq_true_eq, decide_eq_true_eq] at h
  exact ⟨h.1.1, h.1.2, h.2⟩
theorem pathP_nil : (pathP []).2.2 = false := by decide
/-- A header that may be, with anything behind it: its fields. -/
theorem head_fields (r : RecD) (x : ByteArray) (c : List Nat) (hf : r.Fits) (hr : recErr r = 0) (hx : bytesOf x = headP r ++ c) :
    gN x 26 2 = (nameP r.k r.p).length ∧ gN x 28 2 = 0 := by
  have hl := nameP_len r.k r.p
  have hp := hf.p
  constructor
  · rw [gN_mid (a := [80, 75, 3, 4, 20, 0, 0, 8] ++ (leP r.m.toNat 2 ++ (leP r.t 4 ++ (leP r.sum 4 ++ (leP r.l.toNat 4 ++ leP r.wh.toNat 4))))) (k := 2) (n := (nameP r.k r.p).length) (c := [0, 0] ++ nameP r.k r.p ++ c) (by rw [hx]; simp [headP, List.append_assoc]) (by simp [leP_len])]
    exact Nat.mod_eq_of_lt (by omega)
  · rw [gN_mid (a := [80, 75, 3, 4, 20, 0, 0, 8] ++ (leP r.m.toNat 2 ++ (leP r.t 4 ++ (leP r.sum 4 ++ (leP r.l.toNat 4 ++ (leP r.wh.toNat 4 ++ leP (nameP r.k r.p).length 2)))))) (k := 2) (n := 0) (c := nameP r.k r.p ++ c) (by rw [hx]; simp [headP, leP, List.append_assoc]) (by simp [leP_len])]
end Go.Proofs.YtibmhadnfggmlaaDoor
namespace Go.Proofs.YtibmhadnfggmlaaDoor
set_option linter.unusedVariables false
set_option linter.unusedSimpArgs false
set_option linter.unusedSectionVars false
open Go.RowKit
set_option linter.unusedVariables false

theorem leG_inj {a b : List Nat} (ha : ∀ x ∈ a, x < 256) (hb : ∀ x ∈ b, x < 256) (hl : a.length = b.length) (h : leG a = leG b) : a = b := by
  rw [← leP_leG a ha, ← leP_leG b hb, h, hl]
theorem magic4 (x : ByteArray) (h : 4 ≤ x.size) (L : List UInt8) (m : Nat) (hL : L.length = 4) (hm : leG (L.map UInt8.toNat) = m) : ((x.extract 0 4).toList == L) = decide (gN x 0 4 = m) := by
  rw [toList_bytes, Bool.eq_iff_iff, decide_eq_true_eq, decide_eq_true_eq, bytesOf_extract]
  unfold gN
  rw [← hm, Nat.sub_zero]
  refine ⟨fun e => by rw [e], fun e => leG_inj (fun y hy => bytesOf_lt x y (List.mem_of_mem_drop (List.mem_of_mem_take hy))) (fun y hy => ?_) (by rw [List.length_take, List.length_drop, length_bytesOf, List.length_map, hL]; omega) e⟩
  obtain ⟨z, _, rfl⟩ := List.mem_map.1 hy
  exact z.toNat_lt
theorem gN_extract (s : ByteArray) (i k : Nat) (h : i + k ≤ s.size) : getV (s.extract i s.size) k = .tuple #[.int .u64 (gN s i k : Nat), .bool true] := by
  unfold getV gN
  have e : ((bytesOf s).drop i).take (s.size - i) = (bytesOf s).drop i := List.take_of_length_le (by rw [List.length_drop, length_bytesOf]; omega)
  rw [if_pos (by rw [ByteArray.size_extract]; omega), bytesOf_extract, e]
set_option maxRecDepth 100000 in
theorem rAt_any (s : ByteArray) (i k : Nat) (w : World) (h : i + k ≤ s.size) (hs : s.size ≤ 1000000) (hk : k ≤ 4) :
    Calls Tryd.prog 93 #[.string s, .int .i64 (i : Nat), .int .i64 (k : Nat)] w fun e w' => e = .returned (.int .i64 (gN s i k : Nat)) ∧ Upd [] w w' := by
  have HG := Lib.hid (fun w => rget_any (s.extract i s.size) k w (by rw [ByteArray.size_extract]; omega) (by omega))
  rw [gN_extract s i k h] at HG
  have hlt : gN s i k < 4294967296 := Nat.lt_of_lt_of_le (gN_lt s i k) (Nat.le_trans (Nat.pow_le_pow_right (by omega) hk) (by decide))
  generalize gN s i k = v at *
  have h1 : (i : Int) ≤ (s.size : Int) := by omega
  go_enter Tryd.func93, Tryd.ntmps93
  go_wp2_with fail
  refine (HG.out _).mono ?_
  rintro e w1 ⟨rfl, hU⟩
  go_wp2
  go_ret
  exact ⟨rfl, hU⟩
/-- What Read tells. -/
def readV (x : RecD × Nat × Bool × Nat) : Value := .tuple #[x.1.v, .int .i64 (x.2.1 : Nat), .bool x.2.2.1, .int .i64 (x.2.2.2 : Nat)]
def noneCells : List Value := [.string .empty, .int .i64 0, .int .u32 0, .int .i64 0, .int .i64 0, .int .i64 0, .int .i64 0, .int .u32 0, .int .i64 0]
theorem readV_none (e : Nat) : readV (noneR, 0, false, e) = .tuple #[.agg noneCells.toArray, .int .i64 0, .bool false, .int .i64 (e : Nat)] := rfl
theorem pathP_size {l : List Nat} (h : (pathP l).2.2 = true) : (pathP l).1.length ≤ 200 := by
  unfold pathP at h ⊢
  repeat' split
  · rename_i h1; exact rightP_len h1
  · simp
  · rename_i h1
    rcases h1 with h1 | h1
    · exact rightP_len h1
    · rw [h1]; decide
  · simp
theorem results_rd4 {fn : Func} {p t u v : Tmp} (h : fn.results = #[.cell p 51, .tmp t, .tmp u, .tmp v]) (tmps : Array Value) (w : World) (g : Nat) (c0 c1 c2 c3 c4 c5 c6 c7 c8 : Value) (hp : tmps.getD p undef = .pointer (some ⟨g, 0, none⟩)) (hB : Blk w g [c0, c1, c2, c3, c4, c5, c6, c7, c8] 51) :
    (results fn tmps).run Tryd.prog w = .ok (.tuple #[.agg #[c0, c1, c2, c3, c4, c5, c6, c7, c8], tmps.getD t undef, tmps.getD u undef, tmps.getD v undef]) w := by
  have h0 := hB.cell 0 rfl
  have h1 := hB.cell 1 rfl
  have h2 := hB.cell 2 rfl
  have h3 := hB.cell 3 rfl
  have h4 := hB.cell 4 rfl
  have h5 := hB.cell 5 rfl
  have h6 := hB.cell 6 rfl
  have h7 := hB.cell 7 rfl
  have h8 := hB.cell 8 rfl
  have hp2 : tmps[p]?.getD undef = .pointer (some ⟨g, 0, none⟩) := by rw [← hp]; simp
  simp [results, h, go_sem, hp2, h0, h1, h2, h3, h4, h5, h6, h7, h8]
theorem Blk.set9 {w : World} {b : Nat} {a0 a1 a2 a3 a4 a5 a6 a7 a8 : Value} {t : TypeId} (h : Blk w b [a0, a1, a2, a3, a4, a5, a6, a7, a8] t) (v0 v1 v2 v3 v4 v5 v6 v7 v8 : Value) :
    Blk (((((((((w.setCell ⟨b, 0, none⟩ v0).setCell ⟨b, 1, none⟩ v1).setCell ⟨b, 2, none⟩ v2).setCell ⟨b, 3, none⟩ v3).setCell ⟨b, 4, none⟩ v4).setCell ⟨b, 5, none⟩ v5).setCell ⟨b, 6, none⟩ v6).setCell ⟨b, 7, none⟩ v7).setCell ⟨b, 8, none⟩ v8) b [v0, v1, v2, v3, v4, v5, v6, v7, v8] t :=
  ((((((((h.set 0 v0).set 1 v1).set 2 v2).set 3 v3).set 4 v4).set 5 v5).set 6 v6).set 7 v7).set 8 v8
theorem Upd.set9 {fp : List Nat} {w0 w : World} {b : Nat} (h : Upd fp w0 w) (hb : b ∈ fp ∨ w0.heap.size ≤ b) (v0 v1 v2 v3 v4 v5 v6 v7 v8 : Value) :
    Upd fp w0 (((((((((w.setCell ⟨b, 0, none⟩ v0).setCell ⟨b, 1, none⟩ v1).setCell ⟨b, 2, none⟩ v2).setCell ⟨b, 3, none⟩ v3).setCell ⟨b, 4, none⟩ v4).setCell ⟨b, 5, none⟩ v5).setCell ⟨b, 6, none⟩ v6).setCell ⟨b, 7, none⟩ v7).setCell ⟨b, 8, none⟩ v8) :=
  ((((((((h.setCell hb v0).setCell hb v1).setCell hb v2).setCell hb v3).setCell hb v4).setCell hb v5).setCell hb v6).setCell hb v7).setCell hb v8
end Go.Proofs.YtibmhadnfggmlaaDoor
namespace Go.Proofs.YtibmhadnfggmlaaDoor
set_option linter.unusedVariables false
set_option linter.unusedSimpArgs false
set_option linter.unusedSectionVars false
open Go.RowKit
set_option linter.unusedVariables false

theorem chdP_lt (r : RS) : (chdP r).1.beg < 4294967296 ∧ (chdP r).1.flags < 65536 ∧ (chdP r).1.disk < 65536 ∧ (chdP r).1.attr < 4294967296 ∧ (chdP r).1.m < 65536 ∧ (chdP r).1.t < 4294967296 ∧ (chdP r).1.sum < 4294967296 ∧ (chdP r).1.l < 4294967296 ∧ (chdP r).1.wh < 4294967296 ∧ (chdP r).1.pos < 4294967296 ∧ (∀ x ∈ (chdP r).1.name, x < 256) ∧ (chdP r).1.name.length ≤ 65535 := by
  unfold chdP
  dsimp only
  refine ⟨RS.num_lt _ 4, RS.num_lt _ 2, RS.num_lt _ 2, RS.num_lt _ 4, RS.num_lt _ 2, RS.num_lt _ 4, RS.num_lt _ 4, RS.num_lt _ 4, RS.num_lt _ 4, RS.num_lt _ 4, RS.text_lt _ _, ?_⟩
  refine Nat.le_trans (RS.text_len _ _) ?_
  have := RS.num_lt ((((((((r.num 4).2.text 4).2.num 2).2.num 2).2.num 4).2.num 4).2.num 4).2.num 4).2 2
  omega
/-- The kind's bits. -/
def ckindN (k : Nat) : Nat := if k = 2 then 16384 else 32768
def cRecOf (h : ChD) : RecD := ⟨strOf (pathP h.name).1, h.m, h.sum, h.l, h.wh, ((pathP h.name).2.1 : Nat), (h.attr / 65536 % 512 : Nat), h.t, h.pos⟩
def cformB (h : ChD) : Bool := decide (h.beg = 33639248) && (decide (h.flags = 2048) || decide (h.flags = 2056)) && decide (h.disk = 0)
def ckindB (h : ChD) : Bool := decide (h.attr / 65536 / 4096 * 4096 = ckindN (pathP h.name).2.1)
/-- What Read tells of a text, from its head on. -/
def creadX (x : ByteArray) : RecD × Nat × Nat :=
  if x.size < 46 ∨ x.size < chdLen x then (noneR, 0, 3)
  else if cformB (chdP ⟨x, 0, false⟩).1 = false then (noneR, 0, 2)
  else if (pathP (chdP ⟨x, 0, false⟩).1.name).2.2 = false then (noneR, 0, 5)
  else if ckindB (chdP ⟨x, 0, false⟩).1 = false then (noneR, 0, 8)
  else if recErr (cRecOf (chdP ⟨x, 0, false⟩).1) ≠ 0 then (noneR, 0, recErr (cRecOf (chdP ⟨x, 0, false⟩).1))
  else (cRecOf (chdP ⟨x, 0, false⟩).1, chdLen x, 0)
def creadP (s : ByteArray) (a : Int) : RecD × Nat × Nat := if a < 0 ∨ (s.size : Int) < a then (noneR, 0, 3) else creadX (s.extract a.toNat s.size)
def creadV (x : RecD × Nat × Nat) : Value := .tuple #[x.1.v, .int .i64 (x.2.1 : Nat), .int .i64 (x.2.2 : Nat)]
theorem testBit_61440 (i : Nat) : Nat.testBit 61440 i = (decide (12 ≤ i) && decide (i < 16)) := by
  rw [show 61440 = 2 ^ 12 * (2 ^ 4 - 1) from rfl, Nat.testBit_two_pow_mul, Nat.testBit_two_pow_sub_one]
  by_cases h : 12 ≤ i
  · simp [h]; omega
  · simp [h]
theorem and_kinds (h : Nat) (hh : h < 65536) : h &&& 61440 = h / 4096 * 4096 := by
  apply Nat.eq_of_testBit_eq
  intro i
  rw [Nat.testBit_and, Nat.mul_comm, show 4096 = 2 ^ 12 from rfl, Nat.testBit_two_pow_mul, Nat.testBit_div_two_pow, testBit_61440]
  by_cases h1 : 12 ≤ i
  · by_cases h2 : i < 16
    · rw [show i - 12 + 12 = i by omega]; simp [h1, h2]
    · have : h.testBit i = false := Nat.testBit_lt_two_pow (Nat.lt_of_lt_of_le hh (by rw [show 65536 = 2 ^ 16 from rfl]; exact Nat.pow_le_pow_right (by omega) (by omega)))
      rw [show i - 12 + 12 = i by omega]; simp [this]
  · simp [h1]
theorem gN_split (s : ByteArray) (i : Nat) (h : i + 2 ≤ s.size) : gN s i 4 = gN s i 2 + 65536 * gN s (i + 2) 2 := by
  unfold gN
  have e : ((bytesOf s).drop i).take 4 = ((bytesOf s).drop i).take 2 ++ ((bytesOf s).drop (i + 2)).take 2 := by
    rw [show 4 = 2 + 2 from rfl, List.take_add, List.drop_drop]
  rw [e, leG_append, List.length_take, List.length_drop, length_bytesOf, Nat.min_eq_left (by omega)]
theorem gN_high (s : ByteArray) (h : 42 ≤ s.size) : gN s 38 4 / 65536 = gN s 40 2 := by
  have := gN_split s 38 (by omega)
  have h2 : gN s 38 2 < 65536 := gN_lt s 38 2
  rw [show 38 + 2 = 40 from rfl] at this
  omega
theorem gN_two (s : ByteArray) (i : Nat) (h : i + 2 ≤ s.size) : gN s i 2 = s[i].toNat + 256 * s[i + 1].toNat := by
  unfold gN
  have e : ((bytesOf s).drop i).take 2 = [s[i].toNat, s[i + 1].toNat] := by
    apply List.ext_getElem?
    intro j
    rw [List.getElem?_take]
    rcases (by omega : j = 0 ∨ j = 1 ∨ 2 ≤ j) with rfl | rfl | h2
    · rw [if_pos (by omega), List.getElem?_drop, Nat.add_zero, bytesOf_get? s i (by omega)]; rfl
    · rw [if_pos (by omega), List.getElem?_drop, bytesOf_get? s (i + 1) (by omega)]; rfl
    · rw [if_neg (by omega)]; simp [h2]
  rw [e]; simp [leG]
theorem pathP_kind12 {l : List Nat} (h : (pathP l).2.2 = true) : (pathP l).2.1 = 1 ∨ (pathP l).2.1 = 2 := by
  unfold pathP at h ⊢
  repeat' split
  all_goals simp_all
/-- The state behind so many records: the error, the records, the place. -/
def crun (s : ByteArray) : Nat → Nat × List RecD × Nat
  | 0 => (0, [], 0)
  | i + 1 =>
    let p := crun s i
    if p.1 ≠ 0 then p else
    let x := creadP s p.2.2
    if x.2.2 ≠ 0 then (x.2.2, [], 0) else (0, p.2.1 ++ [x.1], p.2.2 + x.2.1)
theorem crun_bad (s : ByteArray) {i : Nat} (h : (crun s i).1 ≠ 0) : ∀ j, i ≤ j → crun s j = crun s i
  | j, hj => by
    induction j with
    | zero => rw [Nat.le_zero.1 hj]
    | succ j ih =>
      rcases Nat.lt_or_ge j i with h1 | h1
      · rw [show j + 1 = i by omega]
      · have := ih h1
        rw [← this] at h ⊢
        show (if (crun s j).1 ≠ 0 then crun s j else _) = _
        rw [if_pos h]
theorem crun_step (s : ByteArray) {i : Nat} {l : List RecD} {a : Nat} (h : crun s i = (0, l, a)) (hx : (creadP s a).2.2 = 0) : crun s (i + 1) = (0, l ++ [(creadP s a).1], a + (creadP s a).2.1) := by
  show (if (crun s i).1 ≠ 0 then crun s i else if (creadP s (crun s i).2.2).2.2 ≠ 0 then ((creadP s (crun s i).2.2).2.2, [], 0) else (0, (crun s i).2.1 ++ [(creadP s (crun s i).2.2).1], (crun s i).2.2 + (creadP s (crun s i).2.2).2.1)) = _
  rw [h]
  dsimp only
  rw [if_neg (by omega), if_neg (by omega)]
theorem crun_stop (s : ByteArray) {i : Nat} {l : List RecD} {a : Nat} (h : crun s i = (0, l, a)) (hx : (creadP s a).2.2 ≠ 0) (n : Nat) (hn : i < n) : crun s n = ((creadP s a).2.2, [], 0) := by
  have e : crun s (i + 1) = ((creadP s a).2.2, [], 0) := by
    show (if (crun s i).1 ≠ 0 then crun s i else if (creadP s (crun s i).2.2).2.2 ≠ 0 then ((creadP s (crun s i).2.2).2.2, [], 0) else (0, (crun s i).2.1 ++ [(creadP s (crun s i).2.2).1], (crun s i).2.2 + (creadP s (crun s i).2.2).2.1)) = _
    rw [h]
    dsimp only
    rw [if_neg (by omega), if_pos hx]
  rw [crun_bad s (i := i + 1) (by rw [e]; exact hx) n hn, e]
/-- Is a path there twice? -/
def twiceB : List RecD → Bool
  | [] => false
  | r :: l => decide (bytesOf r.p ∈ l.map fun x => bytesOf x.p) || twiceB l
theorem twiceB_snoc : ∀ (l : List RecD) (r : RecD), twiceB (l ++ [r]) = (twiceB l || decide (bytesOf r.p ∈ l.map fun x => bytesOf x.p))
  | [], r => by simp [twiceB]
  | x :: l, r => by
    rw [List.cons_append, twiceB, twiceB, twiceB_snoc l r, Bool.eq_iff_iff]
    simp only [List.map_append, List.map_cons, List.map_nil, List.mem_append, List.mem_cons, List.not_mem_nil, or_false, Bool.or_eq_true, decide_eq_true_eq]
    constructor
    · rintro ((h | h) | h | h)
      · exact .inl (.inl h)
      · exact .inr (.inl h.symm)
      · exact .inl (.inr h)
      · exact .inr (.inr h)
    · rintro ((h | h) | h | h)
      · exact .inl (.inl h)
      · exact .inr (.inl h)
      · exact .inl (.inr h.symm)
      · exact .inr (.inr h)
/-- What All tells. -/
def callP (s : ByteArray) (many : Int) : List RecD × Nat :=
  if many < 0 then ([], 1)
  else if (crun s many.toNat).1 ≠ 0 then ([], (crun s many.toNat).1)
  else if (crun s many.toNat).2.2 < s.size then ([], 14)
  else if twiceB (crun s many.toNat).2.1 = true then ([], 6)
  else ((crun s many.toNat).2.1, 0)
theorem creadX_len (x : ByteArray) (h : (creadX x).2.2 = 0) : (creadX x).2.1 = chdLen x ∧ chdLen x ≤ x.size ∧ 46 ≤ x.size := by
  unfold creadX at h ⊢
  repeat' split
  all_goals simp_all
theorem creadP_at (s : ByteArray) (a : Nat) (h : (creadP s a).2.2 = 0) (ha : a ≤ s.size) : a + (creadP s a).2.1 ≤ s.size := by
  unfold creadP at h ⊢
  by_cases h1 : (a : Int) < 0 ∨ (s.size : Int) < a
  · omega
  · rw [if_neg h1] at h ⊢
    obtain ⟨e, h2, _⟩ := creadX_len _ h
    rw [e]
    rw [ByteArray.size_extract] at h2
    simp at h2 ⊢
    omega
theorem crun_at (s : ByteArray) : ∀ i, (crun s i).2.2 ≤ s.size
  | 0 => Nat.zero_le _
  | i + 1 => by
    have ih := crun_at s i
    show (if (crun s i).1 ≠ 0 then crun s i else if (creadP s (crun s i).2.2).2.2 ≠ 0 then ((creadP s (crun s i).2.2).2.2, [], 0) else (0, (crun s i).2.1 ++ [(creadP s (crun s i).2.2).1], (crun s i).2.2 + (creadP s (crun s i).2.2).2.1)).2.2 ≤ _
    by_cases h1 : (crun s i).1 ≠ 0
    · rw [if_pos h1]; exact ih
    · rw [if_neg h1]
      by_cases h2 : (creadP s (crun s i).2.2).2.2 ≠ 0
      · rw [if_pos h2]; exact Nat.zero_le _
      · rw [if_neg h2]; exact creadP_at s _ (by omega) ih
theorem creadX_fits (x : ByteArray) : (creadX x).1.Fits := by
  have hn : noneR.Fits := ⟨by decide, by decide, by decide⟩
  unfold creadX
  repeat' split
  all_goals first | exact hn | skip
  rename_i h1 h2 h3 h4 h5
  obtain ⟨b1, b2, b3, b4, b5, b6, b7, b8, b9, b10, b11, b12⟩ := chdP_lt ⟨x, 0, false⟩
  refine ⟨?_, b7, b6⟩
  show (strOf (pathP (chdP ⟨x, 0, false⟩).1.name).1).size ≤ 1000
  rw [size_strOf]
  have := pathP_size (l := (chdP ⟨x, 0, false⟩).1.name) (by simpa using h3)
  omega
theorem creadP_fits (s : ByteArray) (a : Int) : (creadP s a).1.Fits := by
  unfold creadP
  split
  · exact ⟨by decide, by decide, by decide⟩
  · exact creadX_fits _
theorem crun_fits (s : ByteArray) : ∀ i, ∀ r ∈ (crun s i).2.1, r.Fits
  | 0 => by intro r hr; cases hr
  | i + 1 => by
    have ih := crun_fits s i
    show ∀ r ∈ (if (crun s i).1 ≠ 0 then crun s i else if (creadP s (crun s i).2.2).2.2 ≠ 0 then ((creadP s (crun s i).2.2).2.2, [], 0) else (0, (crun s i).2.1 ++ [(creadP s (crun s i).2.2).1], (crun s i).2.2 + (creadP s (crun s i).2.2).2.1)).2.1, r.Fits
    by_cases h1 : (crun s i).1 ≠ 0
    · rw [if_pos h1]; exact ih
    · rw [if_neg h1]
      by_cases h2 : (creadP s (crun s i).2.2).2.2 ≠ 0
      · rw [if_pos h2]; intro r hr; cases hr
      · rw [if_neg h2]
        intro r hr
        rcases List.mem_append.1 hr with h | h
        · exact ih r h
        · rw [List.mem_singleton.1 h]; exact creadP_fits s _
theorem crun_len (s : ByteArray) {i : Nat} : (crun s i).2.1.length ≤ i := by
  induction i with
  | zero => exact Nat.le_refl _
  | succ i ih =>
    show (if (crun s i).1 ≠ 0 then crun s i else if (creadP s (crun s i).2.2).2.2 ≠ 0 then ((creadP s (crun s i).2.2).2.2, [], 0) else (0, (crun s i).2.1 ++ [(creadP s (crun s i).2.2).1], (crun s i).2.2 + (creadP s (crun s i).2.2).2.1)).2.1.length ≤ _
    by_cases h1 : (crun s i).1 ≠ 0
    · rw [if_pos h1]; omega
    · rw [if_neg h1]
      by_cases h2 : (creadP s (crun s i).2.2).2.2 ≠ 0
      · rw [if_pos h2]; exact Nat.zero_le _
      · rw [if_neg h2, List.length_append]; simp; omega
end Go.Proofs.YtibmhadnfggmlaaDoor
namespace Go.Proofs.YtibmhadnfggmlaaDoor
set_option linter.unusedVariables false
set_option linter.unusedSimpArgs false
set_option linter.unusedSectionVars false
open Go.RowKit
set_option linter.unusedVariables false

theorem disk0 (x : ByteArray) (h : 46 ≤ x.size) : gN x 34 2 = 0 ↔ x[34].toNat = 0 ∧ x[35].toNat = 0 := by
  rw [gN_two x 34 (by omega)]
  show x[34].toNat + 256 * x[35].toNat = 0 ↔ _
  omega
/-- The record at a text's head, its path and its kind told. -/
def cRec (x : ByteArray) (a : List Nat) (kk : Nat) : RecD := ⟨strOf a, (gN x 10 2 : Nat), gN x 16 4, (gN x 20 4 : Nat), (gN x 24 4 : Nat), (kk : Nat), (gN x 40 2 % 512 : Nat), gN x 12 4, (gN x 42 4 : Nat)⟩
theorem creadX_short (x : ByteArray) (h : x.size < 46 ∨ x.size < 46 + gN x 28 2 + gN x 30 2 + gN x 32 2) : creadX x = (noneR, 0, 3) := if_pos (by unfold chdLen; omega)
theorem creadX_form (x : ByteArray) (h : 46 ≤ x.size) (hl : 46 + gN x 28 2 + gN x 30 2 + gN x 32 2 ≤ x.size) (hb : ¬ (gN x 0 4 = 33639248 ∧ (gN x 8 2 = 2048 ∨ gN x 8 2 = 2056) ∧ x[34].toNat = 0 ∧ x[35].toNat = 0)) : creadX x = (noneR, 0, 2) := by
  unfold creadX
  rw [if_neg (by unfold chdLen; omega), chdP_fine x h (by unfold chdLen; omega)]
  dsimp only
  rw [if_pos]
  unfold cformB
  dsimp only
  rw [← disk0 x h] at hb
  simp only [Bool.and_eq_false_iff, Bool.or_eq_false_iff, decide_eq_false_iff_not]
  omega
theorem creadX_name (x : ByteArray) (h : 46 ≤ x.size) (hl : 46 + gN x 28 2 + gN x 30 2 + gN x 32 2 ≤ x.size) (hb : gN x 0 4 = 33639248 ∧ (gN x 8 2 = 2048 ∨ gN x 8 2 = 2056) ∧ x[34].toNat = 0 ∧ x[35].toNat = 0) (hp : (pathP (((bytesOf x).drop 46).take (gN x 28 2))).2.2 = false) : creadX x = (noneR, 0, 5) := by
  unfold creadX
  rw [if_neg (by unfold chdLen; omega), chdP_fine x h (by unfold chdLen; omega)]
  dsimp only
  rw [if_neg, if_pos hp]
  unfold cformB
  dsimp only
  rw [← disk0 x h] at hb
  simp only [Bool.and_eq_false_iff, Bool.or_eq_false_iff, decide_eq_false_iff_not]
  omega
theorem creadX_good (x : ByteArray) (h : 46 ≤ x.size) (hl : 46 + gN x 28 2 + gN x 30 2 + gN x 32 2 ≤ x.size) (hb : gN x 0 4 = 33639248 ∧ (gN x 8 2 = 2048 ∨ gN x 8 2 = 2056) ∧ x[34].toNat = 0 ∧ x[35].toNat = 0) (a : List Nat) (kk : Nat) (hp : pathP (((bytesOf x).drop 46).take (gN x 28 2)) = (a, kk, true)) :
    creadX x = if gN x 40 2 / 4096 * 4096 ≠ ckindN kk then (noneR, 0, 8) else if recErr (cRec x a kk) ≠ 0 then (noneR, 0, recErr (cRec x a kk)) else (cRec x a kk, 46 + gN x 28 2 + gN x 30 2 + gN x 32 2, 0) := by
  have hh := gN_high x (by omega)
  unfold creadX
  rw [if_neg (by unfold chdLen; omega), chdP_fine x h (by unfold chdLen; omega)]
  dsimp only
  rw [if_neg]
  rotate_left
  · unfold cformB
    dsimp only
    rw [← disk0 x h] at hb
    simp only [Bool.and_eq_false_iff, Bool.or_eq_false_iff, decide_eq_false_iff_not]
    omega
  have e : cRecOf ⟨gN x 0 4, gN x 8 2, gN x 34 2, gN x 38 4, gN x 10 2, gN x 12 4, gN x 16 4, gN x 20 4, gN x 24 4, gN x 42 4, ((bytesOf x).drop 46).take (gN x 28 2)⟩ = cRec x a kk := by
    unfold cRecOf cRec
    dsimp only
    rw [hp, hh]
  rw [e, hp]
  unfold ckindB
  dsimp only
  rw [hp, hh]
  dsimp only
  rw [if_neg (by simp)]
  have e2 : chdLen x = 46 + gN x 28 2 + gN x 30 2 + gN x 32 2 := by unfold chdLen; omega
  rw [e2]
  by_cases hk : gN x 40 2 / 4096 * 4096 = ckindN kk
  · rw [if_neg (by rw [decide_eq_true hk]; simp), if_neg (show ¬ (gN x 40 2 / 4096 * 4096 ≠ ckindN kk) by simpa using hk)]
  · rw [if_pos (decide_eq_false hk), if_pos hk]
theorem cRec_fits (x : ByteArray) (a : List Nat) (kk : Nat) (ha : a.length ≤ 200) : (cRec x a kk).Fits := by
  unfold cRec
  refine ⟨?_, gN_lt x 16 4, gN_lt x 12 4⟩
  dsimp only
  rw [size_strOf]; omega
end Go.Proofs.YtibmhadnfggmlaaDoor

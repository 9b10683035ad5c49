/- Package local and swingleref19: what a header's fields are: plain. -/
import Derived.Test.YtibmhadnfggmlaaDoorRecP
import Derived.Test.YtibmhadnfggmlaaDoorFldP
namespace Go.Proofs.YtibmhadnfggmlaaDoor
open Go.RowKit

/-- The number of so many bytes from a place on. -/
def gN (s : ByteArray) (i k : Nat) : Nat := leG (((bytesOf s).drop i).take k)
theorem gN_lt (s : ByteArray) (i k : Nat) : gN s i k < 256 ^ k := by
  unfold gN
  refine Nat.lt_of_lt_of_le (leG_lt _ fun x hx => bytesOf_lt s x (List.mem_of_mem_drop (List.mem_of_mem_take hx))) (Nat.pow_le_pow_right (by omega) ?_)
  rw [List.length_take]; omega
theorem num_fine {s : ByteArray} {p : Nat} (k : Nat) (h : p + k ≤ s.size) : (⟨s, p, false⟩ : RS).num k = (gN s p k, ⟨s, p + k, false⟩) := by
  unfold RS.num; rw [RS.text_fine k (by omega)]; rfl
theorem num_all (r : RS) (k : Nat) (h : (r.num k).2.bad = false) (hp : r.p ≤ r.s.size) : r.bad = false ∧ r.p + k ≤ r.s.size ∧ r.num k = (gN r.s r.p k, ⟨r.s, r.p + k, false⟩) := by
  obtain ⟨a, b, c⟩ := RS.text_all r k h
  refine ⟨a, by omega, ?_⟩
  unfold RS.num; rw [c]; rfl
/-- A header's fields. -/
structure HdD where
  beg : Nat
  flags : Nat
  m : Nat
  t : Nat
  sum : Nat
  l : Nat
  wh : Nat
  name : List Nat
def hdP (r : RS) : HdD × RS :=
  let a := r.num 4
  let b := a.2.num 2
  let f := b.2.num 2
  let m := f.2.num 2
  let t := m.2.num 4
  let u := t.2.num 4
  let l := u.2.num 4
  let wh := l.2.num 4
  let n := wh.2.num 2
  let mo := n.2.num 2
  let nm := mo.2.text n.1
  let sk := nm.2.text mo.1
  (⟨a.1, f.1, m.1, t.1, u.1, l.1, wh.1, nm.1⟩, sk.2)
/-- How long a header is that stands at a text's head. -/
def hdLen (s : ByteArray) : Nat := 30 + gN s 26 2 + gN s 28 2
theorem hdP_fine (s : ByteArray) (h30 : 30 ≤ s.size) (h : hdLen s ≤ s.size) :
    hdP ⟨s, 0, false⟩ = (⟨gN s 0 4, gN s 6 2, gN s 8 2, gN s 10 4, gN s 14 4, gN s 18 4, gN s 22 4, ((bytesOf s).drop 30).take (gN s 26 2)⟩, ⟨s, hdLen s, false⟩) := by
  unfold hdLen at h ⊢
  unfold hdP
  simp only [num_fine 4 (show 0 + 4 ≤ s.size by omega), num_fine 2 (show 4 + 2 ≤ s.size by omega), num_fine 2 (show 6 + 2 ≤ s.size by omega), num_fine 2 (show 8 + 2 ≤ s.size by omega), num_fine 4 (show 10 + 4 ≤ s.size by omega), num_fine 4 (show 14 + 4 ≤ s.size by omega), num_fine 4 (show 18 + 4 ≤ s.size by omega), num_fine 4 (show 22 + 4 ≤ s.size by omega), num_fine 2 (show 26 + 2 ≤ s.size by omega), num_fine 2 (show 28 + 2 ≤ s.size by omega), Nat.zero_add, Nat.reduceAdd]
  rw [RS.text_fine _ (by omega)]
  dsimp only
  rw [RS.text_fine _ (by omega)]
theorem hdP_bad (s : ByteArray) (h : s.size < 30 ∨ s.size < hdLen s) : (hdP ⟨s, 0, false⟩).2.bad = true := by
  cases hb : (hdP ⟨s, 0, false⟩).2.bad with
  | true => rfl
  | false =>
    exfalso
    unfold hdLen at h
    unfold hdP at hb
    dsimp only at hb
    have o0 : (⟨s, 0, false⟩ : RS).Ok := Nat.zero_le _
    have o1 := RS.num_ok o0 4
    have o2 := RS.num_ok o1 2
    have o3 := RS.num_ok o2 2
    have o4 := RS.num_ok o3 2
    have o5 := RS.num_ok o4 4
    have o6 := RS.num_ok o5 4
    have o7 := RS.num_ok o6 4
    have o8 := RS.num_ok o7 4
    have o9 := RS.num_ok o8 2
    have o10 := RS.num_ok o9 2
    obtain ⟨b1, l1, e1⟩ := RS.text_all _ _ hb
    obtain ⟨b2, l2, e2⟩ := RS.text_all _ _ b1
    obtain ⟨b3, l3, e3⟩ := num_all _ _ b2 o9
    obtain ⟨b4, l4, e4⟩ := num_all _ _ b3 o8
    obtain ⟨b5, l5, e5⟩ := num_all _ _ b4 o7
    obtain ⟨b6, l6, e6⟩ := num_all _ _ b5 o6
    obtain ⟨b7, l7, e7⟩ := num_all _ _ b6 o5
    obtain ⟨b8, l8, e8⟩ := num_all _ _ b7 o4
    obtain ⟨b9, l9, e9⟩ := num_all _ _ b8 o3
    obtain ⟨b10, l10, e10⟩ := num_all _ _ b9 o2
    obtain ⟨b11, l11, e11⟩ := num_all _ _ b10 o1
    obtain ⟨b12, l12, e12⟩ := num_all _ _ b11 o0
    clear b1 b2 b3 b4 b5 b6 b7 b8 b9 b10 b11 b12 o0 o1 o2 o3 o4 o5 o6 o7 o8 o9 o10 hb
    simp only [e12, Nat.zero_add, Nat.reduceAdd] at e11 l11 e10 l10 e9 l9 e8 l8 e7 l7 e6 l6 e5 l5 e4 l4 e3 l3 e2 l2 e1 l1
    simp only [e11, Nat.zero_add, Nat.reduceAdd] at e10 l10 e9 l9 e8 l8 e7 l7 e6 l6 e5 l5 e4 l4 e3 l3 e2 l2 e1 l1
    simp only [e10, Nat.zero_add, Nat.reduceAdd] at e9 l9 e8 l8 e7 l7 e6 l6 e5 l5 e4 l4 e3 l3 e2 l2 e1 l1
    simp only [e9, Nat.zero_add, Nat.reduceAdd] at e8 l8 e7 l7 e6 l6 e5 l5 e4 l4 e3 l3 e2 l2 e1 l1
    simp only [e8, Nat.zero_add, Nat.reduceAdd] at e7 l7 e6 l6 e5 l5 e4 l4 e3 l3 e2 l2 e1 l1
    simp only [e7, Nat.zero_add, Nat.reduceAdd] at e6 l6 e5 l5 e4 l4 e3 l3 e2 l2 e1 l1
    simp only [e6, Nat.zero_add, Nat.reduceAdd] at e5 l5 e4 l4 e3 l3 e2 l2 e1 l1
    simp only [e5, Nat.zero_add, Nat.reduceAdd] at e4 l4 e3 l3 e2 l2 e1 l1
    simp only [e4, Nat.zero_add, Nat.reduceAdd] at e3 l3 e2 l2 e1 l1
    simp only [e3, Nat.zero_add, Nat.reduceAdd] at e2 l2 e1 l1
    rw [e2] at l1
    dsimp only at l1
    omega
end Go.Proofs.YtibmhadnfggmlaaDoor

/- Steps of runs are read as the row that they were made of (plain). -/
import Derived.Test.YtdehkaknbmbieaaRunO
namespace Go.Proofs.Ytdehkaknbmbieaa
set_option linter.unusedVariables false
set_option linter.unusedSimpArgs false
set_option linter.unusedSectionVars false
set_option linter.unusedVariables false
set_option linter.unusedSimpArgs false

def bitsN (s : Nat) : Nat := if s ≤ 15 then 0 else if s = 16 then 2 else if s = 17 then 3 else 7
def timesN (s : StpD) : Nat := if s.sym = 16 then 3 + s.more else if s.sym = 17 then 3 + s.more else if s.sym = 18 then 11 + s.more else 1
def valN (out : List Nat) (s : StpD) : Nat := if s.sym = 16 then out.getD (out.length - 1) 0 else if s.sym = 17 then 0 else if s.sym = 18 then 0 else s.sym
def dec1 (out : List Nat) (s : StpD) : List Nat := out ++ List.replicate (timesN s) (valN out s)
/-- The row of steps. -/
def decS (l : List StpD) : List Nat := l.foldl dec1 []
theorem decS_snoc (l : List StpD) (s : StpD) : decS (l ++ [s]) = dec1 (decS l) s := by unfold decS; rw [List.foldl_append]; rfl
structure OkS (out : List Nat) (s : StpD) : Prop where
  sym : s.sym ≤ 18
  bits : s.bits = bitsN s.sym
  more : s.more < 2 ^ bitsN s.sym
  some : s.sym = 16 → out ≠ []
  room : out.length + timesN s ≤ 400
def okAll : List Nat → List StpD → Prop
  | _, [] => True
  | out, s :: r => OkS out s ∧ okAll (dec1 out s) r
theorem okAll_at : ∀ (l : List StpD) (out : List Nat), okAll out l → ∀ i (h : i < l.length), OkS ((l.take i).foldl dec1 out) l[i]
  | [], _, _, i, h => absurd h (by simp)
  | s :: l, out, hk, 0, _ => hk.1
  | s :: l, out, hk, i + 1, h => okAll_at l (dec1 out s) hk.2 i (by simpa using h)
theorem runC_take (k : Int) : ∀ (r : List Int) (j : Nat), j ≤ runC k r → r.take j = List.replicate j k
  | _, 0, _ => by simp
  | [], j + 1, h => by simp [runC] at h
  | x :: r, j + 1, h => by
    rw [runC] at h
    split at h
    · rename_i hx
      rw [List.take_succ_cons, List.replicate_succ, runC_take k r j (by omega), hx]
    · omega
theorem runC_neg : ∀ (r : List Int), (∀ x ∈ r, 0 ≤ x ∧ x ≤ 15) → runC (-1) r = 0
  | [], _ => rfl
  | x :: r, h => by
    have := h x List.mem_cons_self
    rw [runC, if_neg (by omega)]
/-- Is ah the last number ahead of a row? -/
def isAh (out : List Nat) (ah : Int) : Prop := (out = [] ∧ ah = -1) ∨ (out ≠ [] ∧ ah = ((out.getD (out.length - 1) 0 : Nat) : Int))
theorem map_rep (j : Nat) (k : Int) : (List.replicate j k).map Int.toNat = List.replicate j k.toNat := by simp
theorem next_dec (r : List Int) (ah : Int) (out : List Nat) (hr : r ≠ []) (hb : ∀ x ∈ r, 0 ≤ x ∧ x ≤ 15) (hl : out.length + r.length ≤ 400) (ha : isAh out ah) :
    OkS out (nextS r ah).1 ∧ dec1 out (nextS r ah).1 = out ++ (r.take (nextS r ah).2).map Int.toNat := by
  have hz := runC_le 0 r
  have hg := runC_le ah r
  unfold nextS
  split
  · rename_i h
    have e : min (runC 0 r) 138 = (stepOf 18 (runC 0 r)).2 := rfl
    refine ⟨⟨by show 18 ≤ 18; omega, rfl, ?_, fun h => absurd (show (18 : Nat) = 16 from h) (by decide), ?_⟩, ?_⟩
    · show min (runC 0 r) 138 - 11 < 128; omega
    · show out.length + (11 + (min (runC 0 r) 138 - 11)) ≤ 400; omega
    · show out ++ List.replicate (11 + (min (runC 0 r) 138 - 11)) 0 = out ++ (r.take (min (runC 0 r) 138)).map Int.toNat
      rw [runC_take 0 r _ (by omega), map_rep, show 11 + (min (runC 0 r) 138 - 11) = min (runC 0 r) 138 by omega]
      rfl
  · split
    · rename_i h1 h2
      refine ⟨⟨by show 17 ≤ 18; omega, rfl, ?_, fun h => absurd (show (17 : Nat) = 16 from h) (by decide), ?_⟩, ?_⟩
      · show min (runC 0 r) 10 - 3 < 8; omega
      · show out.length + (3 + (min (runC 0 r) 10 - 3)) ≤ 400; omega
      · show out ++ List.replicate (3 + (min (runC 0 r) 10 - 3)) 0 = out ++ (r.take (min (runC 0 r) 10)).map Int.toNat
        rw [runC_take 0 r _ (by omega), map_rep, show 3 + (min (runC 0 r) 10 - 3) = min (runC 0 r) 10 by omega]
        rfl
    · split
      · rename_i h1 h2 h3
        have hne : out ≠ [] ∧ ah = ((out.getD (out.length - 1) 0 : Nat) : Int) := by
          rcases ha with ⟨_, h⟩ | h
          · rw [h, runC_neg r hb] at h3; omega
          · exact h
        refine ⟨⟨by show 16 ≤ 18; omega, rfl, ?_, fun _ => hne.1, ?_⟩, ?_⟩
        · show min (runC ah r) 6 - 3 < 4; omega
        · show out.length + (3 + (min (runC ah r) 6 - 3)) ≤ 400; omega
        · show out ++ List.replicate (3 + (min (runC ah r) 6 - 3)) (out.getD (out.length - 1) 0) = out ++ (r.take (min (runC ah r) 6)).map Int.toNat
          rw [runC_take ah r _ (by omega), map_rep, show 3 + (min (runC ah r) 6 - 3) = min (runC ah r) 6 by omega, hne.2]
          simp
      · cases r with
        | nil => exact absurd rfl hr
        | cons x r =>
          have hx := hb x List.mem_cons_self
          have hx15 : x.toNat ≤ 15 := by omega
          simp only [List.length_cons] at hl
          refine ⟨⟨?_, ?_, ?_, fun h => ?_, ?_⟩, ?_⟩
          · show x.toNat ≤ 18; omega
          · show 0 = bitsN x.toNat; unfold bitsN; rw [if_pos hx15]
          · show 0 < 2 ^ bitsN x.toNat; exact Nat.two_pow_pos _
          · have : x.toNat = 16 := h
            omega
          · show out.length + timesN ⟨x.toNat, 0, 0⟩ ≤ 400
            unfold timesN
            dsimp only
            rw [if_neg (by omega), if_neg (by omega), if_neg (by omega)]
            omega
          · show dec1 out ⟨x.toNat, 0, 0⟩ = out ++ ((x :: r).take 1).map Int.toNat
            unfold dec1 timesN valN
            dsimp only
            rw [if_neg (by omega), if_neg (by omega), if_neg (by omega), if_neg (by omega), if_neg (by omega), if_neg (by omega)]
            rfl
theorem getD_snocs (out : List Nat) (r : List Int) (k : Nat) (h1 : 1 ≤ k) (h2 : k ≤ r.length) (hb : ∀ x ∈ r, 0 ≤ x ∧ x ≤ 15) :
    r.getD (k - 1) 0 = (((out ++ (r.take k).map Int.toNat).getD ((out ++ (r.take k).map Int.toNat).length - 1) 0 : Nat) : Int) := by
  have hl : (out ++ (r.take k).map Int.toNat).length = out.length + k := by simp; omega
  have hk : k - 1 < r.length := by omega
  rw [hl, List.getD_eq_getElem?_getD, List.getD_eq_getElem?_getD, List.getElem?_append_right (by omega), show out.length + k - 1 - out.length = k - 1 by omega, List.getElem?_map, List.getElem?_take, if_pos (by omega), List.getElem?_eq_getElem hk]
  have := hb _ (List.getElem_mem hk)
  simp
  omega
/-- What is laid in runs is read as it was. -/
theorem ofS_dec : ∀ (f : Nat) (r : List Int) (ah : Int) (out : List Nat), r.length ≤ f → (∀ x ∈ r, 0 ≤ x ∧ x ≤ 15) → out.length + r.length ≤ 400 → isAh out ah →
    okAll out (ofS f r ah) ∧ (ofS f r ah).foldl dec1 out = out ++ r.map Int.toNat
  | 0, r, ah, out, h, _, _, _ => by
    have : r = [] := List.eq_nil_of_length_eq_zero (by omega)
    subst this
    exact ⟨trivial, by simp [ofS]⟩
  | f + 1, r, ah, out, h, hb, hl, ha => by
    rw [ofS_succ]
    by_cases hr : r = []
    · rw [if_pos hr, hr]
      exact ⟨trivial, by simp⟩
    · rw [if_neg hr]
      obtain ⟨k1, k2⟩ := nextS_len r ah hr
      obtain ⟨o1, o2⟩ := next_dec r ah out hr hb hl ha
      have hd : (r.drop (nextS r ah).2).length = r.length - (nextS r ah).2 := List.length_drop
      have hdl : (dec1 out (nextS r ah).1).length = out.length + (nextS r ah).2 := by rw [o2]; simp; omega
      obtain ⟨i1, i2⟩ := ofS_dec f (r.drop (nextS r ah).2) (r.getD ((nextS r ah).2 - 1) 0) (dec1 out (nextS r ah).1) (by omega) (fun x hx => hb x (List.mem_of_mem_drop hx)) (by omega)
        (.inr ⟨fun e => by rw [e] at hdl; simp at hdl; omega, by rw [o2]; exact getD_snocs out r _ k1 k2 hb⟩)
      refine ⟨⟨o1, i1⟩, ?_⟩
      rw [List.foldl_cons, i2, o2, List.append_assoc, ← List.map_append, List.take_append_drop]
end Go.Proofs.Ytdehkaknbmbieaa

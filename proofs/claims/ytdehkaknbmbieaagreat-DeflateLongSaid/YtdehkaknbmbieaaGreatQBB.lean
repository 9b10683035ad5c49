/- Steps of runs are read as the row that they were made of (plain). -/
import Derived.Test.YtdehkaknbmbieaaGreatQAQ
import Derived.Test.YtdehkaknbmbieaaGreatQAW
import Derived.Test.YtdehkaknbmbieaaGreatQAC
import Derived.Test.YtdehkaknbmbieaaGreatQAE
import Derived.Test.YtdehkaknbmbieaaGreatSiz
namespace Go.Proofs.YtdehkaknbmbieaaGreat
set_option linter.unusedVariables false
set_option linter.unusedSimpArgs false
set_option linter.unusedSectionVars false
set_option linter.unusedVariables false
set_option linter.unusedSimpArgs false

def bitsN (s : Nat) : Nat := if s ≤ 15 then 0 else if s = 16 then 2 else if s = 17 then 3 else 7
def timesN (s : StpD) : Nat := if s.sym = 16 then 3 + s.more else if s.sym = 17 then 3 + s.more else if s.sym = 18 then 11 + s.more else 1
def valN (out : List Nat) (s : StpD) : Nat := if s.sym = 16 then out.getD (out.length - 1) 0 else if s.sym = 17 then 0 else if s.sym = 18 then 0 else s.sym
def dec1 (out : List Nat) (s : StpD) : List Nat := out ++ List.replicate (timesN s) (valN out s)
/-- The row of steps. -/
def decS (l : List StpD) : List Nat := l.foldl dec1 []
structure OkS (out : List Nat) (s : StpD) : Prop where
  sym : s.sym ≤ 18
  bits : s.bits = bitsN s.sym
  more : s.more < 2 ^ bitsN s.sym
  some : s.sym = 16 → out ≠ []
  room : out.length + timesN s ≤ 400
def okAll : List Nat → List StpD → Prop
  | _, [] => True
  | out, s :: r => OkS out s ∧ okAll (dec1 out s) r
theorem okAll_at : ∀ (l : List StpD) (out : List Nat), okAll out l → ∀ i (h : i < l.length), OkS ((l.take i).foldl dec1 out) l[i]
  | [], _, _, i, h => absurd h (by simp)
  | s :: l, out, hk, 0, _ => hk.1
  | s :: l, out, hk, i + 1, h => okAll_at l (dec1 out s) hk.2 i (by simpa using h)
theorem runC_take (k : Int) : ∀ (r : List Int) (j : Nat), j ≤ runC k r → r.take j = List.replicate j k
  | _, 0, _ => by simp
  | [], j + 1, h => by simp [runC] at h
  | x :: r, j + 1, h => by
    rw [runC] at h
    split at h
    · rename_i hx
      rw [List.take_succ_cons, List.replicate_succ, runC_take k r j (by omega), hx]
    · omega
theorem runC_neg : ∀ (r : List Int), (∀ x ∈ r, 0 ≤ x ∧ x ≤ 15) → runC (-1) r = 0
  | [], _ => rfl
  | x :: r, h => by
    have := h x List.mem_cons_self
    rw [runC, if_neg (by omega)]
/-- Is ah the last number ahead of a row? -/
def isAh (out : List Nat) (ah : Int) : Prop := (out = [] ∧ ah = -1) ∨ (out ≠ [] ∧ ah = ((out.getD (out.length - 1) 0 : Nat) : Int))
theorem map_rep (j : Nat) (k : Int) : (List.replicate j k).map Int.toNat = List.replicate j k.toNat := by simp
theorem next_dec (r : List Int) (ah : Int) (out : List Nat) (hr : r ≠ []) (hb : ∀ x ∈ r, 0 ≤ x ∧ x ≤ 15) (hl : out.length + r.length ≤ 400) (ha : isAh out ah) :
    OkS out (nextS r ah).1 ∧ dec1 out (nextS r ah).1 = out ++ (r.take (nextS r ah).2).map Int.toNat := by
  have hz := runC_le 0 r
  have hg := runC_le ah r
  unfold nextS
  split
  · rename_i h
    have e : min (runC 0 r) 138 = (stepOf 18 (runC 0 r)).2 := rfl
    refine ⟨⟨by show 18 ≤ 18; omega, rfl, ?_, fun h => absurd (show (18 : Nat) = 16 from h) (by decide), ?_⟩, ?_⟩
    · show min (runC 0 r) 138 - 11 < 128; omega
    · show out.length + (11 + (min (runC 0 r) 138 - 11)) ≤ 400; omega
    · show out ++ List.replicate (11 + (min (runC 0 r) 138 - 11)) 0 = out ++ (r.take (min (runC 0 r) 138)).map Int.toNat
      rw [runC_take 0 r _ (by omega), map_rep, show 11 + (min (runC 0 r) 138 - 11) = min (runC 0 r) 138 by omega]
      rfl
  · split
    · rename_i h1 h2
      refine ⟨⟨by show 17 ≤ 18; omega, rfl, ?_, fun h => absurd (show (17 : Nat) = 16 from h) (by decide), ?_⟩, ?_⟩
      · show min (runC 0 r) 10 - 3 < 8; omega
      · show out.length + (3 + (min (runC 0 r) 10 - 3)) ≤ 400; omega
      · show out ++ List.replicate (3 + (min (runC 0 r) 10 - 3)) 0 = out ++ (r.take (min (runC 0 r) 10)).map Int.toNat
        rw [runC_take 0 r _ (by omega), map_rep, show 3 + (min (runC 0 r) 10 - 3) = min (runC 0 r) 10 by omega]
        rfl
    · split
      · rename_i h1 h2 h3
        have hne : out ≠ [] ∧ ah = ((out.getD (out.length - 1) 0 : Nat) : Int) := by
          rcases ha with ⟨_, h⟩ | h
          · rw [h, runC_neg r hb] at h3; omega
          · exact h
        refine ⟨⟨by show 16 ≤ 18; omega, rfl, ?_, fun _ => hne.1, ?_⟩, ?_⟩
        · show min (runC ah r) 6 - 3 < 4; omega
        · show out.length + (3 + (min (runC ah r) 6 - 3)) ≤ 400; omega
        · show out ++ List.replicate (3 + (min (runC ah r) 6 - 3)) (out.getD (out.length - 1) 0) = out ++ (r.take (min (runC ah r) 6)).map Int.toNat
          rw [runC_take ah r _ (by omega), map_rep, show 3 + (min (runC ah r) 6 - 3) = min (runC ah r) 6 by omega, hne.2]
          simp
      · cases r with
        | nil => exact absurd rfl hr
        | cons x r =>
          have hx := hb x List.mem_cons_self
          have hx15 : x.toNat ≤ 15 := by omega
          simp only [List.length_cons] at hl
          refine ⟨⟨?_, ?_, ?_, fun h => ?_, ?_⟩, ?_⟩
          · show x.toNat ≤ 18; omega
          · show 0 = bitsN x.toNat; unfold bitsN; rw [if_pos hx15]
          · show 0 < 2 ^ bitsN x.toNat; exact Nat.two_pow_pos _
          · have : x.toNat = 16 := h
            omega
          · show out.length + timesN ⟨x.toNat, 0, 0⟩ ≤ 400
            unfold timesN
            dsimp only
            rw [if_neg (by omega), if_neg (by omega), if_neg (by omega)]
            omega
          · show dec1 out ⟨x.toNat, 0, 0⟩ = out ++ ((x :: r).take 1).map Int.toNat
            unfold dec1 timesN valN
            dsimp only
            rw [if_neg (by omega), if_neg (by omega), if_neg (by omega), if_neg (by omega), if_neg (by omega), if_neg (by omega)]
            rfl
theorem getD_snocs (out : List Nat) (r : List Int) (k : Nat) (h1 : 1 ≤ k) (h2 : k ≤ r.length) (hb : ∀ x ∈ r, 0 ≤ x ∧ x ≤ 15) :
    r.getD (k - 1) 0 = (((out ++ (r.take k).map Int.toNat).getD ((out ++ (r.take k).map Int.toNat).length - 1) 0 : Nat) : Int) := by
  have hl : (out ++ (r.take k).map Int.toNat).length = out.length + k := by simp; omega
  have hk : k - 1 < r.length := by omega
  rw [hl, List.getD_eq_getElem?_getD, List.getD_eq_getElem?_getD, List.getElem?_append_right (by omega), show out.length + k - 1 - out.length = k - 1 by omega, List.getElem?_map, List.getElem?_take, if_pos (by omega), List.getElem?_eq_getElem hk]
  have := hb _ (List.getElem_mem hk)
  simp
  omega
/-- What is laid in runs is read as it was. -/
theorem ofS_dec : ∀ (f : Nat) (r : List Int) (ah : Int) (out : List Nat), r.length ≤ f → (∀ x ∈ r, 0 ≤ x ∧ x ≤ 15) → out.length + r.length ≤ 400 → isAh out ah →
    okAll out (ofS f r ah) ∧ (ofS f r ah).foldl dec1 out = out ++ r.map Int.toNat
  | 0, r, ah, out, h, _, _, _ => by
    have : r = [] := List.eq_nil_of_length_eq_zero (by omega)
    subst this
    exact ⟨trivial, by simp [ofS]⟩
  | f + 1, r, ah, out, h, hb, hl, ha => by
    rw [ofS_succ]
    by_cases hr : r = []
    · rw [if_pos hr, hr]
      exact ⟨trivial, by simp⟩
    · rw [if_neg hr]
      obtain ⟨k1, k2⟩ := nextS_len r ah hr
      obtain ⟨o1, o2⟩ := next_dec r ah out hr hb hl ha
      have hd : (r.drop (nextS r ah).2).length = r.length - (nextS r ah).2 := List.length_drop
      have hdl : (dec1 out (nextS r ah).1).length = out.length + (nextS r ah).2 := by rw [o2]; simp; omega
      obtain ⟨i1, i2⟩ := ofS_dec f (r.drop (nextS r ah).2) (r.getD ((nextS r ah).2 - 1) 0) (dec1 out (nextS r ah).1) (by omega) (fun x hx => hb x (List.mem_of_mem_drop hx)) (by omega)
        (.inr ⟨fun e => by rw [e] at hdl; simp at hdl; omega, by rw [o2]; exact getD_snocs out r _ k1 k2 hb⟩)
      refine ⟨⟨o1, i1⟩, ?_⟩
      rw [List.foldl_cons, i2, o2, List.append_assoc, ← List.map_append, List.take_append_drop]
end Go.Proofs.YtdehkaknbmbieaaGreat
namespace Go.Proofs.YtdehkaknbmbieaaGreat
set_option linter.unusedVariables false
set_option linter.unusedSimpArgs false
set_option linter.unusedSectionVars false
set_option linter.unusedVariables false

theorem roomP_sum (L : Nat) (ks : List Nat) : roomP L ks = sumN ks.length (fun i => 2 ^ (L - ks.getD i 0)) := by
  unfold roomP sumN
  congr 1
  apply List.ext_getElem
  · simp
  · intro i h1 h2
    have hi : i < ks.length := by simpa using h2
    simp [List.getD_eq_getElem?_getD, hi]
end Go.Proofs.YtdehkaknbmbieaaGreat
namespace Go.Proofs.YtdehkaknbmbieaaGreat
set_option linter.unusedVariables false
set_option linter.unusedSimpArgs false
set_option linter.unusedSectionVars false
set_option linter.unusedVariables false

/-- What lengths cost. -/
def costN (many : List Int) (l : List Nat) (n : Nat) : Nat := sumN n (fun i => l.getD i 0 * nearN (many.getD i 0))
/-- What these lengths cost in order. -/
def costU (many : List Int) (u ks : List Nat) : Nat := sumN u.length (fun i => nearN (many.getD (u.getD i 0) 0) * ks.getD i 0)
theorem of_least {many : List Int} {n : Nat} {u : List Nat} (hu : IsUsed many n u) (L : Nat) (h2 : 2 ≤ u.length) (hk : u.length ≤ 2 ^ L) :
    (∃ ks : List Nat, ks.length = u.length ∧ (∀ k ∈ ks, k ≤ L) ∧ roomP L ks = 2 ^ L ∧ costN many (ofL many u L n) n = costU many u ks) ∧
    ∀ ks : List Nat, ks.length = u.length → (∀ k ∈ ks, k ≤ L) → roomP L ks ≤ 2 ^ L → costN many (ofL many u L n) n ≤ costU many u ks := by
  obtain ⟨_, c, c1, c2, c3, c4, c5, c6⟩ := len_fit many u L hu.srt h2 hk
  have hlt : ∀ s ∈ u, s < n := fun s hs => ((hu.mem s).1 hs).1
  have hc : ∀ i, i < u.length → lenAt many u L (u.getD i 0) = c i := fun i hi => by
    rw [List.getD_eq_getElem?_getD, List.getElem?_eq_getElem hi]
    exact c4 i hi
  have hC : costN many (ofL many u L n) n = sumN u.length (fun i => nearN (many.getD (u.getD i 0) 0) * c i) := by
    unfold costN
    rw [ofL_big (by omega)]
    rw [sum_off n _ u hu.nodup hlt (fun s hs hsu => by rw [getD_range n _ s hs, c5 s hsu, Nat.zero_mul]), sum_at]
    exact sumN_congr fun i hi => by rw [getD_range n _ _ (hlt _ (getD_mem hi)), hc i hi, Nat.mul_comm]
  have hkg : ∀ i, i < u.length → ((List.range u.length).map c).getD i 0 = c i := fun i hi => getD_range _ _ i hi
  refine ⟨⟨(List.range u.length).map c, by simp, fun k hk => ?_, ?_, ?_⟩, fun ks h1 h2 h3 => ?_⟩
  · obtain ⟨i, hi, rfl⟩ := List.mem_map.1 hk
    exact (c1 i (List.mem_range.1 hi)).2
  · rw [roomP_sum, show ((List.range u.length).map c).length = u.length by simp, ← c3]
    exact sumN_congr fun i hi => by rw [hkg i hi]
  · rw [hC]
    exact sumN_congr fun i hi => by rw [hkg i hi]
  · rw [hC]
    exact c6 ks h1 h2 h3
theorem roomP_up (L : Nat) : ∀ ks : List Nat, (∀ k ∈ ks, k ≤ L) → roomP (L + 1) ks = 2 * roomP L ks
  | [], _ => rfl
  | k :: ks, h => by
    rw [roomP_cons, roomP_cons, roomP_up L ks fun x hx => h x (List.mem_cons_of_mem _ hx), show L + 1 - k = (L - k) + 1 by have := h k List.mem_cons_self; omega, Nat.pow_succ]
    omega
theorem of_few (many many2 : List Int) (u : List Nat) (L L2 n : Nat) (h : u.length < 2) : ofL many u L n = ofL many2 u L2 n := by
  rcases Nat.lt_or_ge u.length 1 with h0 | h0
  · have hu0 : u = [] := List.eq_nil_of_length_eq_zero (by omega)
    subst hu0
    unfold ofL
    rw [if_neg (by simp), if_neg (by simp)]
    simp [lenAt, sumC]
  · unfold ofL
    rw [if_pos (by omega), if_pos (by omega)]
/-- With a greater limit lengths cost no more. -/
theorem cost_more {many : List Int} {n : Nat} {u : List Nat} (hu : IsUsed many n u) (L : Nat) (hk : u.length ≤ 2 ^ L) :
    costN many (ofL many u (L + 1) n) n ≤ costN many (ofL many u L n) n := by
  rcases Nat.lt_or_ge u.length 2 with h2 | h2
  · rw [of_few many many u (L + 1) L n h2]
    exact Nat.le_refl _
  · obtain ⟨ks, k1, k2, k3, k4⟩ := (of_least hu L h2 hk).1
    have := (of_least hu (L + 1) h2 (by rw [Nat.pow_succ]; omega)).2 ks k1 (fun k hk => by have := k2 k hk; omega) (by rw [roomP_up L ks k2, k3, Nat.pow_succ]; omega)
    rw [k4]
    exact this
end Go.Proofs.YtdehkaknbmbieaaGreat
namespace Go.Proofs.YtdehkaknbmbieaaGreat
set_option linter.unusedVariables false
set_option linter.unusedSimpArgs false
set_option linter.unusedSectionVars false
open Go.RowKit

theorem kindN_cases (n : List Nat) : (wsum n = 0 ∧ kindN n = 0) ∨ (0 < wsum n ∧ wsum n < 32768 ∧ kindN n = 2) ∨ (wsum n = 32768 ∧ kindN n = 1) ∨ (32768 < wsum n ∧ kindN n = 3) := by
  unfold kindN
  by_cases h1 : wsum n = 0
  · simp [h1]
  · by_cases h2 : wsum n < 32768
    · simp [h1, h2]; omega
    · by_cases h3 : wsum n = 32768
      · simp [h3]
      · simp [h1, h2, h3]; omega

end Go.Proofs.YtdehkaknbmbieaaGreat
namespace Go.Proofs.YtdehkaknbmbieaaGreat
set_option linter.unusedVariables false
set_option linter.unusedSimpArgs false
set_option linter.unusedSectionVars false
open Go.RowKit
set_option linter.unusedVariables false

def usedI (l : List Int) : Nat := l.countP fun k => decide (0 < k)
def oneI (l : List Int) : Nat := l.countP fun k => decide (k = 1)
def lensOk (l : List Int) : Bool := decide (kindOf l = 1) || (decide (usedI l = 1) && decide (oneI l = 1))
theorem usedI_take {l : List Int} {i : Nat} (h : i < l.length) : usedI (l.take (i + 1)) = usedI (l.take i) + if 0 < l[i] then 1 else 0 := by
  unfold usedI; rw [take_snoc' l i h, List.countP_append]; simp [List.countP_cons]
theorem oneI_take {l : List Int} {i : Nat} (h : i < l.length) : oneI (l.take (i + 1)) = oneI (l.take i) + if l[i] = 1 then 1 else 0 := by
  unfold oneI; rw [take_snoc' l i h, List.countP_append]; simp [List.countP_cons]
theorem usedI_le (l : List Int) : usedI l ≤ l.length := List.countP_le_length
theorem oneI_le (l : List Int) : oneI l ≤ l.length := List.countP_le_length

end Go.Proofs.YtdehkaknbmbieaaGreat
namespace Go.Proofs.YtdehkaknbmbieaaGreat
set_option linter.unusedVariables false
set_option linter.unusedSimpArgs false
set_option linter.unusedSectionVars false
set_option linter.unusedVariables false
set_option linter.unusedSimpArgs false

theorem natsI (l : List Nat) : nats (ints l) = l := by
  unfold nats ints
  rw [List.map_map]
  have : (Int.toNat ∘ fun x : Nat => (x : Int)) = id := by funext x; simp
  rw [this, List.map_id]
theorem okLensI {l : List Nat} (h1 : l.length ≤ 300) (h2 : ∀ x ∈ l, x ≤ 15) : okLens (ints l) = true := by
  refine okLens_mk (by simpa [ints] using h1) (fun k hk => ?_)
  obtain ⟨x, hx, rfl⟩ := List.mem_map.1 hk
  have := h2 x hx
  omega
theorem wsum_app (a b : List Nat) : wsum (a ++ b) = wsum a + wsum b := by unfold wsum; simp
theorem wsum_zero : ∀ (l : List Nat), (∀ x ∈ l, x = 0) → wsum l = 0
  | [], _ => rfl
  | x :: l, h => by
    have h1 := h x List.mem_cons_self
    have h2 := wsum_zero l (fun y hy => h y (List.mem_cons_of_mem _ hy))
    unfold wsum at *
    rw [List.map_cons, List.sum_cons, h2, h1]
    rfl
theorem trim_drop {l : List Nat} {least : Int} {n m : Nat} (h : TrimO l least n m) (hl : l.length = n) : ∀ x ∈ l.drop m, x = 0 := by
  intro x hx
  obtain ⟨i, hi, rfl⟩ := List.getElem_of_mem hx
  rw [List.length_drop] at hi
  have := h.zero (m + i) (by omega) (by omega)
  rw [List.getElem_drop]
  rw [List.getD_eq_getElem?_getD, List.getElem?_eq_getElem (by omega)] at this
  exact this
theorem wsum_trim {l : List Nat} {least : Int} {n m : Nat} (h : TrimO l least n m) (hl : l.length = n) : wsum (l.take m) = wsum l := by
  conv => rhs; rw [← List.take_append_drop m l, wsum_app, wsum_zero _ (trim_drop h hl)]
  rfl
theorem count_one (p : Int → Bool) (h0 : p 0 = false) (h1 : p 1 = true) : ∀ (m s : Nat), s < m → (ints ((List.replicate m 0).set s 1)).countP p = 1
  | m + 1, 0, _ => by
    rw [List.replicate_succ, List.set_cons_zero]
    show (((1 : Nat) : Int) :: ints (List.replicate m 0)).countP p = 1
    rw [List.countP_cons]
    have e : (ints (List.replicate m 0)).countP p = 0 := by
      rw [List.countP_eq_zero]
      intro a ha
      obtain ⟨x, hx, rfl⟩ := List.mem_map.1 ha
      rw [List.eq_of_mem_replicate hx]
      simpa using h0
    rw [e]
    simp [h1]
  | m + 1, s + 1, h => by
    rw [List.replicate_succ, List.set_cons_succ]
    show (((0 : Nat) : Int) :: ints ((List.replicate m 0).set s 1)).countP p = 1
    rw [List.countP_cons, count_one p h0 h1 m s (by omega)]
    simp [h0]
/-- The lengths that are left over of some numbers' ones may be. -/
theorem trim_ok {many : List Int} {n m : Nat} {u : List Nat} {least : Int} (hn : many.length = n) (h300 : n ≤ 300) (hu : IsUsed many n u) (hm : TrimO (ofL many u 15 n) least n m) :
    (u = [] → kindOf (ints ((ofL many u 15 n).take m)) = 0) ∧ (u ≠ [] → lensOk (ints ((ofL many u 15 n).take m)) = true) := by
  have hk : u.length ≤ 2 ^ 15 := by have := hu.le; omega
  have hf := of_fits hn hu 15 (by omega) (by omega) hk
  have hl := ofL_len many u 15 n
  have h15 := ofL_le hn hu (L := 15) (by omega) (by omega) hk
  have ho : okLens (ints ((ofL many u 15 n).take m)) = true := okLensI (by rw [List.length_take]; omega) (fun x hx => h15 x (List.mem_of_mem_take hx))
  have hw := wsum_trim hm hl
  constructor
  · intro h0
    unfold kindOf
    rw [if_pos ho, natsI]
    unfold kindN
    rw [if_pos (by rw [hw, hf.none h0])]
  · intro hne
    rcases Nat.lt_or_ge u.length 2 with h2 | h2
    · have h1 : u.length = 1 := by have := List.length_pos_iff.2 hne; omega
      obtain ⟨s, rfl⟩ := List.length_eq_one_iff.1 h1
      have hs : s < n := ((hu.mem s).1 (by simp)).1
      have hone := hf.one rfl
      have hsm : s < m := by
        rcases Nat.lt_or_ge s m with h | h
        · exact h
        · have := hm.zero s h hs
          simp at hone
          rw [List.getD_eq_getElem?_getD] at this
          omega
      have e : (ofL many [s] 15 n).take m = (List.replicate m 0).set s 1 := by
        have hml := hm.le
        have e0 : ofL many [s] 15 n = (List.replicate n 0).set s 1 := by simp [ofL]
        rw [e0]
        rw [List.take_set, List.take_replicate, Nat.min_eq_left hml]
      unfold lensOk usedI oneI
      rw [e, count_one _ (by simp) (by simp) m s hsm, count_one _ (by simp) (by simp) m s hsm]
      simp
    · unfold lensOk kindOf
      rw [if_pos ho, natsI]
      unfold kindN
      rw [hw, hf.two h2]
      simp
theorem stepM_256 (p : List Nat × List Nat) (t : Tok) (h : 1 ≤ p.1.getD 256 0) (hl : p.1.length = 286) (ht : okTok t) : 1 ≤ (stepM p t).1.getD 256 0 := by
  show 1 ≤ (addAt p.1 (litC t)).getD 256 0
  rw [addAt_get _ _ _ (by rw [hl]; exact litC_lt ht)]
  omega
theorem many_256 (l : List Tok) (hok : ∀ t ∈ l, okTok t) : ∀ i, i ≤ l.length → 1 ≤ (manyF (l.take i)).1.getD 256 0
  | 0, _ => by
    rw [List.take_zero, manyF_nil]
    show 1 ≤ (((List.replicate 286 0).set 256 1)).getD 256 0
    rw [List.getD_eq_getElem?_getD, List.getElem?_set_self (by rw [List.length_replicate]; omega)]
    exact Nat.le_refl _
  | i + 1, h => by
    rw [List.take_succ_eq_append_getElem (by omega), manyF_snoc]
    exact stepM_256 _ _ (many_256 l hok i (by omega)) (many_ok l i (by omega)).la (hok _ (List.getElem_mem _))
theorem count_mem : ∀ (i : Nat) (l : List StpD), i ≤ l.length → (∀ s ∈ l, s.sym < 19) → ∀ s ∈ l.take i, 1 ≤ (countS (l.take i)).getD s.sym 0
  | 0, l, _, _, s, hs => by simp at hs
  | i + 1, l, h, hsy, s, hs => by
    have hil : i < l.length := by omega
    have hl := (countS_ok l i (by omega)).1
    have h19 := hsy l[i] (List.getElem_mem hil)
    rw [List.take_succ_eq_append_getElem hil] at hs ⊢
    rw [countS_snoc]
    unfold cntS
    rw [if_pos (by omega), addAt_get _ _ _ (by omega)]
    rcases List.mem_append.1 hs with h1 | h1
    · have := count_mem i l (by omega) hsy s h1
      omega
    · rw [List.mem_singleton] at h1
      rw [h1, if_pos rfl]
      omega
theorem fixC_ge (c : List Nat) (hl : c.length = 19) (j : Nat) : c.getD j 0 ≤ (fixC c).getD j 0 := by
  have hs : ∀ i x, i < 19 → c.getD i 0 ≤ x → c.getD j 0 ≤ (c.set i x).getD j 0 := fun i x hi hx => by
    by_cases h : i = j
    · subst h
      rw [List.getD_eq_getElem?_getD (l := c.set i x), List.getElem?_set_self (by omega)]
      exact hx
    · rw [List.getD_eq_getElem?_getD (l := c.set i x), List.getElem?_set_ne h, List.getD_eq_getElem?_getD]
      exact Nat.le_refl _
  unfold fixC
  split
  · rename_i h1
    split
    · rename_i h0
      exact hs 0 1 (by omega) (by omega)
    · rename_i h0
      refine hs 1 1 (by omega) ?_
      -- only one symbol is used, and 0 is
      rcases Nat.eq_zero_or_pos (c.getD 1 0) with h2 | h2
      · omega
      · exfalso
        have m0 : 0 ∈ rawU (ints c) 19 := (rawU_mem _ _ _).2 ⟨by omega, by rw [ints_getD]; omega⟩
        have m1 : 1 ∈ rawU (ints c) 19 := (rawU_mem _ _ _).2 ⟨by omega, by rw [ints_getD]; omega⟩
        obtain ⟨s, hs⟩ := List.length_eq_one_iff.1 h1
        rw [hs] at m0 m1
        simp at m0 m1
        omega
  · exact Nat.le_refl _
theorem two_mem {l : List Nat} {a b : Nat} (ha : a ∈ l) (hb : b ∈ l) (h : a ≠ b) : 2 ≤ l.length := by
  match l, ha, hb with
  | [x], ha, hb => simp at ha hb; omega
  | x :: y :: r, _, _ => simp
theorem fixC_two (c : List Nat) (hl : c.length = 19) (j : Nat) (hj : j < 19) (h : 1 ≤ c.getD j 0) : 2 ≤ (rawU (ints (fixC c)) 19).length := by
  have hin : ∀ i, i < 19 → 1 ≤ (fixC c).getD i 0 → i ∈ rawU (ints (fixC c)) 19 := fun i hi hx => (rawU_mem _ _ _).2 ⟨hi, by rw [ints_getD]; omega⟩
  have hmj := hin j hj (Nat.le_trans h (fixC_ge c hl j))
  by_cases h1 : (rawU (ints c) 19).length = 1
  · obtain ⟨s, hs⟩ := List.length_eq_one_iff.1 h1
    have hsj : j = s := by
      have : j ∈ rawU (ints c) 19 := (rawU_mem _ _ _).2 ⟨hj, by rw [ints_getD]; omega⟩
      rw [hs] at this
      simpa using this
    by_cases h0 : c.getD 0 0 = 0
    · have e : fixC c = c.set 0 1 := by unfold fixC; rw [if_pos h1, if_pos h0]
      refine two_mem hmj (hin 0 (by omega) ?_) (fun e2 => ?_)
      · rw [e, List.getD_eq_getElem?_getD, List.getElem?_set_self (by omega)]; exact Nat.le_refl _
      · rw [e2] at h; omega
    · have e : fixC c = c.set 1 1 := by unfold fixC; rw [if_pos h1, if_neg h0]
      have hj0 : j = 0 := by
        have : 0 ∈ rawU (ints c) 19 := (rawU_mem _ _ _).2 ⟨by omega, by rw [ints_getD]; omega⟩
        rw [hs] at this
        simp at this
        omega
      refine two_mem hmj (hin 1 (by omega) ?_) (by omega)
      rw [e, List.getD_eq_getElem?_getD, List.getElem?_set_self (by omega)]; exact Nat.le_refl _
  · have e : fixC c = c := by unfold fixC; rw [if_neg h1]
    rw [e] at hmj ⊢
    have := List.length_pos_of_mem hmj
    omega
/-- A plan, as the law asks for it. -/
structure MadeL (l : List Tok) (lits backs : List Nat) (steps : List StpD) (lens : List Nat) : Prop where
  okA : lensOk (ints lits) = true
  okB : kindOf (ints backs) = 0 ∨ lensOk (ints backs) = true
  okC : kindOf (ints lens) = 1
  sy : ∀ s ∈ steps, s.sym < 19 ∧ 1 ≤ lens.getD s.sym 0 ∧ lens.getD s.sym 0 ≤ 7
  dec : okAll [] steps ∧ decS steps = lits ++ backs
  cost : ∀ u, IsUsed (ints (manyF l).1) 286 u → 2 ≤ u.length → u.length ≤ 8 → costN (ints (manyF l).1) lits lits.length ≤ costN (ints (manyF l).1) (ofL (ints (manyF l).1) u 7 286) 286
theorem cost_up {many : List Int} {n : Nat} {u : List Nat} (hu : IsUsed many n u) : ∀ (d L : Nat), u.length ≤ 2 ^ L → costN many (ofL many u (L + d) n) n ≤ costN many (ofL many u L n) n
  | 0, L, _ => Nat.le_refl _
  | d + 1, L, hk => by
    have h1 := cost_up hu d L hk
    have h2 := cost_more hu (L + d) (Nat.le_trans hk (Nat.pow_le_pow_right (by omega) (by omega)))
    exact Nat.le_trans h2 h1
theorem cost_trim (many : List Int) (l : List Nat) {least : Int} {n m : Nat} (h : TrimO l least n m) (hl : l.length = n) : costN many (l.take m) m = costN many l n := by
  have key : ∀ k, m + k ≤ n → costN many l (m + k) = costN many l m := by
    intro k
    induction k with
    | zero => intro _; rfl
    | succ k ih =>
      intro hk
      have hz := h.zero (m + k) (by omega) (by omega)
      have := ih (by omega)
      unfold costN at *
      rw [← Nat.add_assoc, sumN_succ, this, hz]
      simp
  have e : costN many (l.take m) m = costN many l m := by
    unfold costN
    refine sumN_congr (fun i hi => ?_)
    have e2 : (l.take m).getD i 0 = l.getD i 0 := by rw [List.getD_eq_getElem?_getD, List.getElem?_take, if_pos hi, List.getD_eq_getElem?_getD]
    rw [e2]
  have hm := h.le
  have := key (n - m) (by omega)
  rw [show m + (n - m) = n by omega] at this
  rw [e, this]
theorem MadeO.law {l : List Tok} {lits backs lens : List Nat} {steps : List StpD} (h : MadeO l lits backs steps lens) (hl : (manyF l).1.length = 286 ∧ (manyF l).2.length = 30) (hok : ∀ t ∈ l, okTok t) : MadeL l lits backs steps lens := by
  obtain ⟨m1, m1', m2, m2', x15, y15, hsy, hl7, hl19, hsl⟩ := h.bd hl
  have hs19 : (countS steps).length = 19 := by have := (countS_ok steps steps.length (Nat.le_refl _)).1; rwa [List.take_length] at this
  have i1 : (ints (manyF l).1).length = 286 := by simp [ints, hl.1]
  have i2 : (ints (manyF l).2).length = 30 := by simp [ints, hl.2]
  have i3 : (ints (fixC (countS steps))).length = 19 := by simp [ints, fixC_len, hs19]
  obtain ⟨u1, m1x, hu1, ht1, e1⟩ := h.a
  obtain ⟨u2, m2x, hu2, ht2, e2⟩ := h.b
  obtain ⟨u3, hu3, e3⟩ := h.c
  have h256 : 1 ≤ (manyF l).1.getD 256 0 := by have := many_256 l hok l.length (Nat.le_refl _); rwa [List.take_length] at this
  have hne1 : u1 ≠ [] := fun e => by
    have := (hu1.mem 256).2 ⟨by omega, by rw [ints_getD]; omega⟩
    rw [e] at this
    simp at this
  have hcm : ∀ s ∈ steps, 1 ≤ (countS steps).getD s.sym 0 := fun s hs => by
    have := count_mem steps.length steps (Nat.le_refl _) (fun s hs => (hsy s hs).1) s (by rw [List.take_length]; exact hs)
    rwa [List.take_length] at this
  have hdec := ofS_dec (lits.length + backs.length) (ints (lits ++ backs)) (-1) [] (by simp [ints]) (fun x hx => by
    obtain ⟨y, hy, rfl⟩ := List.mem_map.1 hx
    rcases List.mem_append.1 hy with hy | hy
    · have := x15 y hy; omega
    · have := y15 y hy; omega) (by simp [ints]; omega) (.inl ⟨rfl, rfl⟩)
  rw [← h.s] at hdec
  have hd2 : decS steps = lits ++ backs := by
    show steps.foldl dec1 [] = _
    rw [hdec.2]
    exact natsI _
  have hf3 := of_fits i3 hu3 7 (by omega) (by omega) (by have := hu3.le; omega)
  have hsne : ∃ s, s ∈ steps := by
    cases hst : steps with
    | nil =>
      exfalso
      rw [hst] at hd2
      have := congrArg List.length hd2
      simp [decS] at this
      omega
    | cons s r => exact ⟨s, List.mem_cons_self⟩
  obtain ⟨s0, hs0⟩ := hsne
  have h2 : 2 ≤ u3.length := by rw [used_len hu3]; exact fixC_two _ hs19 s0.sym (hsy s0 hs0).1 (hcm s0 hs0)
  refine ⟨?_, ?_, ?_, ?_, ⟨hdec.1, hd2⟩, ?_⟩
  · rw [e1]; exact (trim_ok i1 (by omega) hu1 ht1).2 hne1
  · rw [e2]
    have := trim_ok i2 (by omega) hu2 ht2
    by_cases hu : u2 = []
    · exact .inl (this.1 hu)
    · exact .inr (this.2 hu)
  · have ho : okLens (ints lens) = true := okLensI (by omega) (fun x hx => by have := hl7 x hx; omega)
    unfold kindOf
    rw [if_pos ho, natsI]
    unfold kindN
    rw [e3, hf3.two h2]
    simp
  · intro s hs
    obtain ⟨h1, _⟩ := hsy s hs
    refine ⟨h1, ?_, getD_le hl7 _⟩
    have := (hf3.iff s.sym h1).2 (by rw [ints_getD]; have := fixC_ge _ hs19 s.sym; have := hcm s hs; omega)
    rw [e3]
    exact this
  · intro u hu hu2' hu8
    obtain rfl := hu.uniq hu1
    have hl1 := ofL_len (ints (manyF l).1) u 15 286
    have hlm : lits.length = m1x := by rw [e1, List.length_take, hl1]; exact Nat.min_eq_left ht1.le
    rw [hlm, e1, cost_trim _ _ ht1 hl1]
    exact cost_up hu 8 7 (by omega)
end Go.Proofs.YtdehkaknbmbieaaGreat

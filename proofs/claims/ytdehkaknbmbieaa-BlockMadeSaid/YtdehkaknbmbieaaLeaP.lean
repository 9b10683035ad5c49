/- The least cost of lengths (plain): the reference tries all lengths that rise; what it finds is what package merge has. -/
import Derived.Test.YtdehkaknbmbieaaGN
namespace Go.Proofs.Ytdehkaknbmbieaa
set_option linter.unusedVariables false
set_option linter.unusedSimpArgs false
set_option linter.unusedSectionVars false

/-- The better of two finds. -/
def better (b c : Option Nat) : Option Nat :=
  match b, c with
  | b, none => b
  | none, some v => some v
  | some u, some v => if v < u then some v else some u
/-- Is there room for a length? -/
def leaRoom (n limit room k : Nat) : Bool := !((decide (room < 2 ^ (limit - k) * n) && decide (k = limit)) || decide (room < 2 ^ (limit - k)))
def leastP : List Nat → Nat → Nat → Nat → Option Nat
  | [], _, _, _ => some 0
  | x :: r, from_, limit, room => (List.range' from_ (limit + 1 - from_)).foldl (fun b k => better b (if leaRoom (r.length + 1) limit room k then (leastP r k limit (room - 2 ^ (limit - k))).map (· + k * x) else none)) none
theorem leastP_nil (f l r : Nat) : leastP [] f l r = some 0 := rfl
def leaCand (x : Nat) (r : List Nat) (limit room k : Nat) : Option Nat := if leaRoom (r.length + 1) limit room k then (leastP r k limit (room - 2 ^ (limit - k))).map (· + k * x) else none
def leaTo (x : Nat) (r : List Nat) (from_ limit room m : Nat) : Option Nat := (List.range' from_ m).foldl (fun b k => better b (leaCand x r limit room k)) none
theorem leastP_cons (x : Nat) (r : List Nat) (f l room : Nat) : leastP (x :: r) f l room = leaTo x r f l room (l + 1 - f) := rfl
theorem leaTo_succ (x : Nat) (r : List Nat) (f l room m : Nat) : leaTo x r f l room (m + 1) = better (leaTo x r f l room m) (leaCand x r l room (f + m)) := by
  unfold leaTo
  rw [List.range'_concat, List.foldl_append]
  simp
theorem better_some {b c : Option Nat} {v : Nat} (h : better b c = some v) : b = some v ∨ c = some v := by
  unfold better at h
  split at h
  · exact .inl h
  · exact .inr h
  · split at h
    · exact .inr h
    · exact .inl h
theorem better_left {b c : Option Nat} {u : Nat} (h : b = some u) : ∃ v, better b c = some v ∧ v ≤ u := by
  subst h
  cases c with
  | none => exact ⟨u, rfl, Nat.le_refl _⟩
  | some x =>
    show ∃ v, (if x < u then some x else some u) = some v ∧ v ≤ u
    by_cases hx : x < u
    · exact ⟨x, by rw [if_pos hx], by omega⟩
    · exact ⟨u, by rw [if_neg hx], Nat.le_refl _⟩
theorem better_right {b c : Option Nat} {u : Nat} (h : c = some u) : ∃ v, better b c = some v ∧ v ≤ u := by
  subst h
  cases b with
  | none => exact ⟨u, rfl, Nat.le_refl _⟩
  | some x =>
    show ∃ v, (if u < x then some u else some x) = some v ∧ v ≤ u
    by_cases hx : u < x
    · exact ⟨u, by rw [if_pos hx], Nat.le_refl _⟩
    · exact ⟨x, by rw [if_neg hx], by omega⟩
theorem leaTo_sound {x : Nat} {r : List Nat} {f l room : Nat} : ∀ {m v : Nat}, leaTo x r f l room m = some v → ∃ k, f ≤ k ∧ k < f + m ∧ leaCand x r l room k = some v
  | 0, v, h => by simp [leaTo] at h
  | m + 1, v, h => by
    rw [leaTo_succ] at h
    rcases better_some h with h | h
    · obtain ⟨k, h1, h2, h3⟩ := leaTo_sound h
      exact ⟨k, h1, by omega, h3⟩
    · exact ⟨f + m, by omega, by omega, h⟩
theorem leaTo_complete {x : Nat} {r : List Nat} {f l room k u : Nat} (hf : f ≤ k) (hc : leaCand x r l room k = some u) : ∀ {m : Nat}, k < f + m → ∃ v, leaTo x r f l room m = some v ∧ v ≤ u
  | 0, h => by omega
  | m + 1, h => by
    rw [leaTo_succ]
    by_cases e : k = f + m
    · subst e
      exact better_right hc
    · obtain ⟨v, h1, h2⟩ := leaTo_complete hf hc (m := m) (by omega)
      obtain ⟨v', h3, h4⟩ := better_left (c := leaCand x r l room (f + m)) h1
      exact ⟨v', h3, by omega⟩
/-- What lengths cost. -/
def costP (ks l : List Nat) : Nat := ((ks.zip l).map fun p => p.1 * p.2).sum
theorem costP_cons (k x : Nat) (ks l : List Nat) : costP (k :: ks) (x :: l) = k * x + costP ks l := by simp [costP]
def roomP (limit : Nat) (ks : List Nat) : Nat := (ks.map fun k => 2 ^ (limit - k)).sum
theorem roomP_cons (limit k : Nat) (ks : List Nat) : roomP limit (k :: ks) = 2 ^ (limit - k) + roomP limit ks := by simp [roomP]
theorem least_sound : ∀ (l : List Nat) (f limit room v : Nat), leastP l f limit room = some v → ∃ ks : List Nat, ks.length = l.length ∧ (∀ k ∈ ks, f ≤ k ∧ k ≤ limit) ∧ roomP limit ks ≤ room ∧ v = costP ks l
  | [], f, limit, room, v, h => by
    simp [leastP] at h
    exact ⟨[], rfl, by simp, by simp [roomP], by simp [costP, h]⟩
  | x :: r, f, limit, room, v, h => by
    rw [leastP_cons] at h
    obtain ⟨k, h1, h2, h3⟩ := leaTo_sound h
    unfold leaCand at h3
    by_cases hr : leaRoom (r.length + 1) limit room k = true
    · rw [if_pos hr] at h3
      simp only [Option.map_eq_some_iff] at h3
      obtain ⟨u, hu, rfl⟩ := h3
      obtain ⟨ks, k1, k2, k3, rfl⟩ := least_sound r k limit _ u hu
      have hroom : 2 ^ (limit - k) ≤ room := by
        unfold leaRoom at hr
        simp only [Bool.not_eq_true', Bool.or_eq_false_iff, decide_eq_false_iff_not] at hr
        omega
      refine ⟨k :: ks, by simp [k1], ?_, by rw [roomP_cons]; omega, by rw [costP_cons]; omega⟩
      intro q hq
      rcases List.mem_cons.1 hq with rfl | hq
      · exact ⟨h1, by omega⟩
      · have := k2 q hq
        exact ⟨by omega, this.2⟩
    · rw [if_neg hr] at h3
      cases h3
theorem least_complete : ∀ (l ks : List Nat) (f limit room : Nat), ks.length = l.length → (∀ k ∈ ks, f ≤ k ∧ k ≤ limit) → ks.Pairwise (· ≤ ·) → roomP limit ks ≤ room → ∃ v, leastP l f limit room = some v ∧ v ≤ costP ks l
  | [], ks, f, limit, room, h1, _, _, _ => ⟨0, rfl, Nat.zero_le _⟩
  | x :: r, [], f, limit, room, h1, _, _, _ => by simp at h1
  | x :: r, k :: ks, f, limit, room, h1, h2, h3, h4 => by
    have hk := h2 k List.mem_cons_self
    have h3' := List.pairwise_cons.1 h3
    rw [roomP_cons] at h4
    obtain ⟨u, hu, hul⟩ := least_complete r ks k limit (room - 2 ^ (limit - k)) (by simpa using h1) (fun q hq => ⟨h3'.1 q hq, (h2 q (List.mem_cons_of_mem _ hq)).2⟩) h3'.2 (by omega)
    have hroom : leaRoom (r.length + 1) limit room k = true := by
      unfold leaRoom
      have hge : ks.length ≤ roomP limit ks := by
        clear h4 hu hul h1 h2 h3 h3'
        induction ks with
        | nil => exact Nat.zero_le _
        | cons q ks ih =>
          have : 0 < 2 ^ (limit - q) := Nat.two_pow_pos _
          rw [roomP_cons, List.length_cons]; omega
      have hlen : ks.length = r.length := by simpa using h1
      simp only [Bool.not_eq_true', Bool.or_eq_false_iff, Bool.and_eq_false_iff, decide_eq_false_iff_not]
      refine ⟨?_, by omega⟩
      by_cases e : k = limit
      · left
        rw [e, Nat.sub_self, Nat.pow_zero, Nat.one_mul]
        rw [e, Nat.sub_self, Nat.pow_zero] at h4
        omega
      · exact .inr e
    have hc : leaCand x r limit room k = some (u + k * x) := by
      unfold leaCand
      rw [if_pos hroom, hu]
      rfl
    obtain ⟨v, hv1, hv2⟩ := leaTo_complete (f := f) hk.1 hc (m := limit + 1 - f) (by omega)
    refine ⟨v, by rw [leastP_cons]; exact hv1, ?_⟩
    rw [costP_cons]
    omega
end Go.Proofs.Ytdehkaknbmbieaa

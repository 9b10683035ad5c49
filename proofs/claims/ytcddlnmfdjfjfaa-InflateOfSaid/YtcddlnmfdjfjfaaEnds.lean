/- Package inflate: what other bytes, or other room, turn: plain. -/
import Derived.Test.YtcddlnmfdjfjfaaOf
namespace Go.Proofs.Ytcddlnmfdjfjfaa
open Go.RowKit
set_option linter.unusedVariables false

/-- The first N bytes of both are the same. -/
structure Agree (N : Nat) (s s' : ByteArray) : Prop where
  le : N ≤ s.size
  le' : N ≤ s'.size
  eq : (bytesOf s).take N = (bytesOf s').take N
theorem textBits_append (a b : List Nat) : textBits (a ++ b) = textBits a ++ textBits b := by simp [textBits]
theorem textBits_take8 (l : List Nat) (N : Nat) (h : N ≤ l.length) : (textBits l).take (8 * N) = textBits (l.take N) := by
  have e : textBits l = textBits (l.take N) ++ textBits (l.drop N) := by rw [← textBits_append, List.take_append_drop]
  rw [e, List.take_left']
  rw [length_textBits, List.length_take]; omega
theorem Agree.bits {N : Nat} {s s' : ByteArray} (h : Agree N s s') : (sbits s).take (8 * N) = (sbits s').take (8 * N) := by
  unfold sbits
  rw [textBits_take8 _ _ (by rw [length_bytesOf]; exact h.le), textBits_take8 _ _ (by rw [length_bytesOf]; exact h.le'), h.eq]
theorem rdVal_agree {N : Nat} {s s' : ByteArray} (h : Agree N s s') {a n : Nat} (ha : a + n ≤ 8 * N) : rdVal s a n = rdVal s' a n := by
  have e : ∀ l : List Bool, (l.drop a).take n = ((l.take (8 * N)).drop a).take n := fun l => by
    rw [List.drop_take, List.take_take, Nat.min_eq_left (by omega)]
  unfold rdVal
  rw [e, h.bits, ← e]
/-- What r tells, r' tells too, if it ends within N bytes; if s' ends there, too, and r doesn't, r' tells that. -/
def Tr {α : Type} (N : Nat) (s' : ByteArray) (r r' : Except Nat (α × Nat)) : Prop :=
  ∀ v a', r = .ok (v, a') → (a' ≤ 8 * N → r' = .ok (v, a')) ∧ (N = s'.size → 8 * N < a' → r' = .error 3)
theorem Tr.err {α : Type} {N : Nat} {s' : ByteArray} {c : Nat} {r' : Except Nat (α × Nat)} : Tr N s' (.error c) r' := fun v a' h => by cases h
theorem Tr.bind {α β : Type} {N : Nat} {s' : ByteArray} {x x' : Except Nat (α × Nat)} {f f' : α × Nat → Except Nat (β × Nat)} (hx : Tr N s' x x')
    (hf : ∀ v a1, x = .ok (v, a1) → a1 ≤ 8 * N → Tr N s' (f (v, a1)) (f' (v, a1))) (hm : ∀ v a1 u a2, x = .ok (v, a1) → f (v, a1) = .ok (u, a2) → a1 ≤ a2) : Tr N s' (x >>= f) (x' >>= f') := by
  intro u a2 h
  obtain ⟨⟨v, a1⟩, h1, h2⟩ := bind_ok h
  have hle := hm v a1 u a2 h1 h2
  obtain ⟨e1, e2⟩ := hx v a1 h1
  by_cases hc : a1 ≤ 8 * N
  · rw [e1 hc]
    exact hf v a1 h1 hc u a2 h2
  · refine ⟨fun h => by omega, fun hN _ => ?_⟩
    rw [e2 hN (by omega)]; rfl
theorem Tr.map {α β : Type} {N : Nat} {s' : ByteArray} {x x' : Except Nat (α × Nat)} {f : α × Nat → β × Nat} (hx : Tr N s' x x') (hf : ∀ r, (f r).2 = r.2) : Tr N s' (x.map f) (x'.map f) := by
  intro u a2 h
  obtain ⟨⟨v, a1⟩, h1, h2⟩ := map_ok h
  obtain ⟨e1, e2⟩ := hx v a1 h1
  have := hf (v, a1)
  rw [h2] at this
  simp only at this
  subst this
  refine ⟨fun h => ?_, fun hN hlt => ?_⟩
  · rw [e1 h]; show Except.ok (f (v, a2)) = _; rw [h2]
  · rw [e2 hN hlt]; rfl
section
variable {N : Nat} {s s' : ByteArray} (hA : Agree N s s')
include hA
theorem takeP_tr {a n : Nat} (ha : a ≤ 8 * N) : Tr N s' (takeP s a n) (takeP s' a n) := by
  intro v a' h
  have hle := hA.le
  have hle' := hA.le'
  unfold takeP at h ⊢
  split at h
  · cases h
    refine ⟨fun h => ?_, fun hN h => ?_⟩
    · rw [if_pos (by omega), rdVal_agree hA h]
    · rw [if_neg (by omega)]
  · cases h
theorem nxtF_tr (n : List Nat) (f : Nat) : ∀ (k a c x a' : Nat) (bad : Bool), nxtF n s f k a c = (some x, a', bad) → a ≤ 8 * N → (a' ≤ 8 * N → nxtF n s' f k a c = (some x, a', bad)) ∧ (N = s'.size → 8 * N < a' → nxtF n s' f k a c = (none, 8 * N, true)) := by
  have hle := hA.le
  have hle' := hA.le'
  induction f with
  | zero => intro k a c x a' bad h ha; cases h
  | succ f ih =>
    intro k a c x a' bad h ha
    by_cases h1 : a < 8 * s.size
    · by_cases h2 : a < 8 * N
      · have hv := rdVal_agree hA (a := a) (n := 1) (by omega)
        have h3 : a < 8 * s'.size := by omega
        cases hx : symAt n k (2 * c + rdVal s a 1) with
        | some y =>
          rw [nxtF_some h1 hx] at h
          rw [hv] at hx
          rw [nxtF_some h3 hx]
          cases h
          exact ⟨fun _ => rfl, fun _ h => by omega⟩
        | none =>
          rw [nxtF_none h1 hx] at h
          rw [hv] at hx h
          rw [nxtF_none h3 hx]
          exact ih _ _ _ _ _ _ h (by omega)
      · have hlt : a < a' := by have := nxtF_adv (x := x) (by rw [h]); rw [h] at this; exact this
        refine ⟨fun h => by omega, fun hN _ => ?_⟩
        rw [nxtF_end (by omega)]
        have : a = 8 * N := by omega
        rw [this]
    · rw [nxtF_end h1] at h; cases h
theorem nextP_tr {l : List Int} {a : Nat} (ha : a ≤ 8 * N) : Tr N s' (nextP l s a) (nextP l s' a) := by
  intro v a' h
  unfold nextP at h ⊢
  split at h
  · cases h
  · rename_i hk
    rw [if_neg hk]
    have e : ∀ t, nxt (nats l) t a false = nxtF (nats l) t 15 1 a 0 := fun _ => rfl
    have hT := nxtF_tr hA (nats l) 15 1 a 0
    rw [e] at h ⊢
    generalize nxtF (nats l) s 15 1 a 0 = rr at *
    obtain ⟨o, a2, bad⟩ := rr
    cases o with
    | some y =>
      cases h
      obtain ⟨h1, h2⟩ := hT v a' bad rfl ha
      exact ⟨fun h => by rw [h1 h], fun hN h => by rw [h2 hN h]⟩
    | none => cases bad <;> cases h
theorem copyP_tr {l2 : List Int} {most sym : Nat} {out : List Nat} {a : Nat} (ha : a ≤ 8 * N) : Tr N s' (copyP l2 s most sym out a) (copyP l2 s' most sym out a) := by
  unfold copyP
  split
  · exact Tr.err
  · refine (takeP_tr hA ha).bind ?_ ?_
    · intro t a1 _ ha1
      unfold copyLong
      simp only
      split
      · exact Tr.err
      · rename_i long _
        refine (nextP_tr hA ha1).bind ?_ ?_
        · intro code a2 _ ha2
          unfold copyBack
          simp only
          split
          · exact Tr.err
          · refine (takeP_tr hA ha2).bind ?_ ?_
            · intro r a3 _ ha3
              intro u a4 h
              have hle : a4 = a3 := by
                unfold copyEnd at h
                split at h
                · cases h
                · split at h
                  · split at h
                    · cases h; rfl
                    · cases h
                  · cases h
              exact ⟨fun _ => h, fun _ h => by omega⟩
            · intro r a3 u a4 h1 h2
              unfold copyEnd at h2
              split at h2
              · cases h2
              · split at h2
                · split at h2
                  · cases h2; exact Nat.le_refl _
                  · cases h2
                · cases h2
        · intro code a2 u a4 h1 h2
          unfold copyBack at h2
          simp only at h2
          split at h2
          · cases h2
          · obtain ⟨⟨r, a3⟩, h3, h4⟩ := bind_ok h2
            have := takeP_adv h3
            unfold copyEnd at h4
            split at h4
            · cases h4
            · split at h4
              · split at h4
                · cases h4; exact this
                · cases h4
              · cases h4
    · intro t a1 u a4 h1 h2
      unfold copyLong at h2
      simp only at h2
      split at h2
      · cases h2
      · obtain ⟨⟨code, a2⟩, h3, h2⟩ := bind_ok h2
        have e1 := nextP_adv h3
        unfold copyBack at h2
        simp only at h2
        split at h2
        · cases h2
        · obtain ⟨⟨r, a3⟩, h3, h4⟩ := bind_ok h2
          have := takeP_adv h3
          unfold copyEnd at h4
          split at h4
          · cases h4
          · split at h4
            · split at h4
              · cases h4; simp only at *; omega
              · cases h4
            · cases h4
theorem symsP_tr {l1 l2 : List Int} {most : Nat} : ∀ (g g' : Nat) (out : List Nat) (a : Nat), 8 * s'.size < g' + a → a ≤ 8 * N → Tr N s' (symsP l1 l2 s most g out a) (symsP l1 l2 s' most g' out a) := by
  intro g
  induction g with
  | zero => intro g' out a _ _; exact Tr.err
  | succ g ih =>
    intro g' out a hg ha
    have hle' := hA.le'
    obtain ⟨g', rfl⟩ : ∃ k, g' = k + 1 := ⟨g' - 1, by omega⟩
    refine (nextP_tr hA ha).bind ?_ ?_
    · intro sym a1 h1 ha1
      have hadv := nextP_adv h1
      unfold symStep
      simp only
      split
      · intro u a2 h
        cases h
        exact ⟨fun _ => rfl, fun _ h => by omega⟩
      · split
        · split
          · exact ih _ _ _ (by omega) ha1
          · exact Tr.err
        · refine (copyP_tr hA ha1).bind ?_ ?_
          · intro o a2 h2 ha2
            have := copyP_adv h2
            exact ih _ _ _ (by simp only; omega) ha2
          · intro o a2 u a3 h2 h3
            exact symsP_adv g h3
    · intro sym a1 u a3 h1 h2
      unfold symStep at h2
      simp only at h2
      split at h2
      · cases h2; exact Nat.le_refl _
      · split at h2
        · split at h2
          · exact symsP_adv g h2
          · cases h2
        · obtain ⟨⟨o, a2⟩, h3, h4⟩ := bind_ok h2
          have := copyP_adv h3
          have := symsP_adv g h4
          simp only at *
          omega
end
end Go.Proofs.Ytcddlnmfdjfjfaa

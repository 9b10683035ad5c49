/- Package inflate: the errors' numbers: plain. -/
import Derived.Test.YtcddlnmfdjfjfaaEnds3
namespace Go.Proofs.Ytcddlnmfdjfjfaa
open Go.RowKit
set_option linter.unusedVariables false

def Er {α : Type} (r : Except Nat α) : Prop := ∀ c, r = .error c → 2 ≤ c ∧ c ≤ 4
theorem Er.ok {α : Type} {v : α} : Er (.ok v : Except Nat α) := fun c h => by cases h
theorem Er.error {α : Type} {k : Nat} (h : 2 ≤ k ∧ k ≤ 4) : Er (.error k : Except Nat α) := fun c e => by cases e; exact h
theorem Er.bind {α β : Type} {x : Except Nat α} {f : α → Except Nat β} (hx : Er x) (hf : ∀ v, x = .ok v → Er (f v)) : Er (x >>= f) := by
  intro c e
  cases hc : x with
  | error k => rw [hc] at e; cases e; exact hx _ hc
  | ok v => rw [hc] at e; exact hf v hc c e
theorem Er.map {α β : Type} {x : Except Nat α} {f : α → β} (hx : Er x) : Er (x.map f) := by
  intro c e
  cases hc : x with
  | error k => rw [hc] at e; cases e; exact hx _ hc
  | ok v => rw [hc] at e; cases e
theorem takeP_er {s : ByteArray} {a n : Nat} : Er (takeP s a n) := by
  unfold takeP; split
  · exact Er.ok
  · exact Er.error (by omega)
theorem nextP_er {l : List Int} {s : ByteArray} {a : Nat} : Er (nextP l s a) := by
  unfold nextP; split
  · exact Er.error (by omega)
  · split
    · exact Er.ok
    · exact Er.error (by omega)
    · exact Er.error (by omega)
theorem copyP_er {l2 : List Int} {s : ByteArray} {most sym : Nat} {out : List Nat} {a : Nat} : Er (copyP l2 s most sym out a) := by
  unfold copyP; split
  · exact Er.error (by omega)
  · refine takeP_er.bind fun r1 _ => ?_
    unfold copyLong; split
    · exact Er.error (by omega)
    · refine nextP_er.bind fun r2 _ => ?_
      unfold copyBack; split
      · exact Er.error (by omega)
      · refine takeP_er.bind fun r3 _ => ?_
        unfold copyEnd; split
        · exact Er.error (by omega)
        · split
          · split
            · exact Er.ok
            · exact Er.error (by omega)
          · exact Er.error (by omega)
theorem agree_self (s : ByteArray) : Agree s.size s s := ⟨Nat.le_refl _, Nat.le_refl _, rfl⟩
theorem Tr.self {α : Type} {s : ByteArray} {r : Except Nat (α × Nat)} (h : Tr s.size s r r) {v : α} {a' : Nat} (e : r = .ok (v, a')) : a' ≤ 8 * s.size := by
  by_cases hc : a' ≤ 8 * s.size
  · exact hc
  · have := (h v a' e).2 rfl (by omega); rw [e] at this; cases this
theorem symsP_er {l1 l2 : List Int} {s : ByteArray} {most : Nat} : ∀ (g : Nat) (out : List Nat) (a : Nat), 8 * s.size < g + a → a ≤ 8 * s.size → Er (symsP l1 l2 s most g out a) := by
  intro g
  induction g with
  | zero => intro out a h1 h2; omega
  | succ g ih =>
    intro out a h1 h2
    refine nextP_er.bind ?_
    rintro ⟨sym, a1⟩ h
    have e1 := nextP_adv h
    have e2 := (nextP_tr (agree_self s) h2).self h
    unfold symStep
    simp only
    split
    · exact Er.ok
    · split
      · split
        · exact ih _ _ (by omega) e2
        · exact Er.error (by omega)
      · refine copyP_er.bind ?_
        rintro ⟨o, a2⟩ h
        have e3 := copyP_adv h
        have e4 := (copyP_tr (agree_self s) e2).self h
        exact ih _ _ (by simp only; omega) e4
theorem storeP_er {s : ByteArray} {most : Nat} {out : List Nat} {a : Nat} : Er (storeP s most out a) := by
  unfold storeP
  refine takeP_er.bind fun r1 _ => takeP_er.bind fun r2 _ => ?_
  unfold storeEnd; split
  · split
    · exact Er.error (by omega)
    · split
      · exact Er.ok
      · exact Er.error (by omega)
  · exact Er.error (by omega)
theorem oneP_er {s : ByteArray} {k : Nat} {L : List Nat} {a : Nat} : Er (oneP s k L a) := by
  unfold oneP; split
  · unfold againP; split
    · split
      · exact Er.error (by omega)
      · exact takeP_er.map
    · split
      · exact takeP_er.map
      · exact takeP_er.map
  · exact Er.ok
theorem rowP_er {l : List Int} {s : ByteArray} {many : Nat} : ∀ (f : Nat) (L : List Nat) (a : Nat), Er (rowP l s many f L a) := by
  intro f
  induction f with
  | zero => intro L a; exact Er.ok
  | succ f ih =>
    intro L a
    by_cases hc : L.length < many
    · rw [rowP_bind _ _ _ _ _ _ hc]
      refine nextP_er.bind fun r _ => oneP_er.bind fun q _ => ?_
      split
      · exact ih _ _
      · exact Er.error (by omega)
    · rw [rowP_end hc]; exact Er.ok
theorem firstP_er {s : ByteArray} : ∀ (m i : Nat) (L : List Nat) (a : Nat), Er (firstP s m i L a) := by
  intro m
  induction m with
  | zero => intro i L a; exact Er.ok
  | succ m ih => intro i L a; rw [firstP_bind]; exact takeP_er.bind fun r _ => ih _ _ _
theorem tablesP_er {s : ByteArray} {a : Nat} : Er (tablesP s a) := by
  unfold tablesP
  refine takeP_er.bind fun r1 _ => takeP_er.bind fun r2 _ => takeP_er.bind fun r3 _ => ?_
  unfold tabFirst; split
  · refine (firstP_er _ _ _ _).bind fun r4 _ => ?_
    unfold tabRow; split
    · refine (rowP_er _ _ _).bind fun r5 _ => ?_
      unfold tabEnd; split
      · split
        · exact Er.ok
        · exact Er.error (by omega)
      · exact Er.error (by omega)
    · exact Er.error (by omega)
  · exact Er.error (by omega)
theorem blockP_er {s : ByteArray} {most F : Nat} {out : List Nat} {a : Nat} (hF : 8 * s.size < F) (ha : a ≤ 8 * s.size) : Er (blockP s most F out a) := by
  unfold blockP
  refine takeP_er.bind ?_
  rintro ⟨l, a1⟩ h1
  have e1 := (takeP_tr (agree_self s) ha).self h1
  refine Er.bind ?_ fun _ _ => Er.ok
  refine takeP_er.bind ?_
  rintro ⟨k, a2⟩ h2
  have e2 := (takeP_tr (agree_self s) e1).self h2
  unfold kindP
  simp only
  split
  · exact storeP_er
  · split
    · exact symsP_er _ _ _ (by omega) e2
    · split
      · refine tablesP_er.bind ?_
        rintro ⟨q, a3⟩ h3
        exact symsP_er _ _ _ (by simp only; omega) ((tablesP_tr (agree_self s) e2).self h3)
      · exact Er.error (by omega)
theorem ofLoop_er {s : ByteArray} {most F : Nat} (hF : 8 * s.size < F) : ∀ (g : Nat) (out : List Nat) (a : Nat), 8 * s.size < g + a → a ≤ 8 * s.size → Er (ofLoop s most F g out a) := by
  intro g
  induction g with
  | zero => intro out a h1 h2; omega
  | succ g ih =>
    intro out a h1 h2
    refine (blockP_er hF h2).bind ?_
    rintro ⟨⟨l, o⟩, a1⟩ h
    have e1 := blockP_adv h
    have e2 := (blockP_tr (agree_self s) hF h2).self h
    unfold ofNext
    split
    · exact Er.ok
    · exact ih _ _ (by simp only; omega) e2
theorem ofP_er {s : ByteArray} {most : Int} : Er (ofP s most) := ofLoop_er (by omega) _ _ _ (by omega) (by omega)
end Go.Proofs.Ytcddlnmfdjfjfaa

/- Package inflate: what other room turns: plain. -/
import Derived.Test.YtcddlnmfdjfjfaaEnds2
namespace Go.Proofs.Ytcddlnmfdjfjfaa
open Go.RowKit
set_option linter.unusedVariables false

/-- What r makes, r' makes too, if there is room for it; else r' tells that there is none. -/
def Rm {α : Type} (len : α → Nat) (m : Nat) (r r' : Except Nat α) : Prop := ∀ v, r = .ok v → (len v ≤ m → r' = .ok v) ∧ (m < len v → r' = .error 4)
theorem Rm.err {α : Type} {len : α → Nat} {m c : Nat} {r' : Except Nat α} : Rm len m (.error c) r' := fun v h => by cases h
theorem Rm.pure {α : Type} {len : α → Nat} {m : Nat} {v : α} (h : len v ≤ m) : Rm len m (.ok v) (.ok v) := fun u e => by cases e; exact ⟨fun _ => rfl, fun h => by omega⟩
theorem Rm.same {α β : Type} {len : β → Nat} {m : Nat} {x : Except Nat α} {f f' : α → Except Nat β} (h : ∀ v, x = .ok v → Rm len m (f v) (f' v)) : Rm len m (x >>= f) (x >>= f') := by
  intro u e
  obtain ⟨v, h1, h2⟩ := bind_ok e
  rw [h1]
  exact h v h1 u h2
theorem Rm.bind {α β : Type} {len : α → Nat} {len' : β → Nat} {m : Nat} {x x' : Except Nat α} {f f' : α → Except Nat β} (hx : Rm len m x x') (hf : ∀ v, x = .ok v → len v ≤ m → Rm len' m (f v) (f' v))
    (hm : ∀ v u, x = .ok v → f v = .ok u → len v ≤ len' u) : Rm len' m (x >>= f) (x' >>= f') := by
  intro u e
  obtain ⟨v, h1, h2⟩ := bind_ok e
  have hle := hm v u h1 h2
  obtain ⟨e1, e2⟩ := hx v h1
  by_cases hc : len v ≤ m
  · rw [e1 hc]; exact hf v h1 hc u h2
  · refine ⟨fun h => by omega, fun _ => ?_⟩
    rw [e2 (by omega)]; rfl
def lenO (r : List Nat × Nat) : Nat := r.1.length
def lenB (r : (Bool × List Nat) × Nat) : Nat := r.1.2.length

theorem copyEnd_len {most long code a : Nat} {out : List Nat} {r u : List Nat × Nat} {q : Nat × Nat} (h : copyEnd most long out code a q = .ok u) : out.length ≤ lenO u := by
  unfold copyEnd at h
  split at h
  · cases h
  · split at h
    · split at h
      · cases h; unfold lenO; rw [length_copyN]; omega
      · cases h
    · cases h
theorem copyP_len {l2 : List Int} {s : ByteArray} {most sym : Nat} {out : List Nat} {a : Nat} {u : List Nat × Nat} (h : copyP l2 s most sym out a = .ok u) : out.length ≤ lenO u := by
  unfold copyP at h
  split at h
  · cases h
  · obtain ⟨r1, _, h⟩ := bind_ok h
    unfold copyLong at h
    split at h
    · cases h
    · obtain ⟨r2, _, h⟩ := bind_ok h
      unfold copyBack at h
      split at h
      · cases h
      · obtain ⟨r3, _, h⟩ := bind_ok h
        exact copyEnd_len (r := u) h
theorem copyP_rm {l2 : List Int} {s : ByteArray} {most m sym : Nat} {out : List Nat} {a : Nat} (hm : out.length ≤ m) : Rm lenO m (copyP l2 s most sym out a) (copyP l2 s m sym out a) := by
  unfold copyP
  split
  · exact Rm.err
  · refine Rm.same fun r1 _ => ?_
    unfold copyLong
    split
    · exact Rm.err
    · rename_i long _
      refine Rm.same fun r2 _ => ?_
      unfold copyBack
      split
      · exact Rm.err
      · refine Rm.same fun r3 _ => ?_
        unfold copyEnd
        split
        · exact Rm.err
        · split
          · split
            · intro u h
              cases h
              unfold lenO
              simp only [length_copyN]
              exact ⟨fun h => by rw [if_pos h], fun h => by rw [if_neg (by omega)]⟩
            · exact Rm.err
          · exact Rm.err
theorem symsP_len {l1 l2 : List Int} {s : ByteArray} {most : Nat} : ∀ (g : Nat) {out : List Nat} {a : Nat} {u : List Nat × Nat}, symsP l1 l2 s most g out a = .ok u → out.length ≤ lenO u := by
  intro g
  induction g with
  | zero => intro out a u h; cases h
  | succ g ih =>
    intro out a u h
    obtain ⟨r1, _, h⟩ := bind_ok h
    unfold symStep at h
    split at h
    · cases h; exact Nat.le_refl _
    · split at h
      · split at h
        · have := ih h; simp at this; omega
        · cases h
      · obtain ⟨r2, h1, h⟩ := bind_ok h
        have e1 := copyP_len h1
        have := ih h
        unfold lenO at e1
        omega
theorem symsP_rm {l1 l2 : List Int} {s : ByteArray} {most m : Nat} : ∀ (g : Nat) (out : List Nat) (a : Nat), out.length ≤ m → Rm lenO m (symsP l1 l2 s most g out a) (symsP l1 l2 s m g out a) := by
  intro g
  induction g with
  | zero => intro out a _; exact Rm.err
  | succ g ih =>
    intro out a hm
    refine Rm.same fun r1 _ => ?_
    unfold symStep
    split
    · exact Rm.pure hm
    · split
      · split
        · by_cases hc : out.length + 1 ≤ m
          · rw [if_pos hc]; exact ih _ _ (by simpa using hc)
          · rw [if_neg hc]
            intro u h
            have := symsP_len _ h
            simp at this
            exact ⟨fun h => by omega, fun _ => rfl⟩
        · exact Rm.err
      · exact (copyP_rm hm).bind (fun v h1 h2 => ih _ _ h2) (fun v u h1 h2 => symsP_len _ h2)
theorem storeP_len {s : ByteArray} {most : Nat} {out : List Nat} {a : Nat} {u : List Nat × Nat} (h : storeP s most out a = .ok u) : out.length ≤ lenO u := by
  obtain ⟨r1, _, h⟩ := bind_ok h
  obtain ⟨r2, _, h⟩ := bind_ok h
  unfold storeEnd at h
  split at h
  · split at h
    · cases h
    · split at h
      · cases h; unfold lenO; simp
      · cases h
  · cases h
theorem storeP_rm {s : ByteArray} {most m : Nat} {out : List Nat} {a : Nat} (hm : out.length ≤ m) : Rm lenO m (storeP s most out a) (storeP s m out a) := by
  unfold storeP
  refine Rm.same fun r1 _ => Rm.same fun r2 _ => ?_
  unfold storeEnd
  split
  · split
    · exact Rm.err
    · rename_i hb
      split
      · intro u h
        cases h
        have hl : (txStr s r2.2 false (r1.1 : Nat)).size = r1.1 := by
          unfold txStr
          rw [if_neg hb]
          simp [txBad] at hb
          rw [ByteArray.size_extract]
          omega
        unfold lenO
        simp only [List.length_append, length_bytesOf, hl]
        exact ⟨fun h => by rw [if_pos h], fun h => by rw [if_neg (by omega)]⟩
      · exact Rm.err
  · exact Rm.err
theorem kindP_len {s : ByteArray} {most F : Nat} {out : List Nat} {q : Nat × Nat} {u : List Nat × Nat} (h : kindP s most F out q = .ok u) : out.length ≤ lenO u := by
  unfold kindP at h
  split at h
  · exact storeP_len h
  · split at h
    · exact symsP_len _ h
    · split at h
      · obtain ⟨r1, _, h⟩ := bind_ok h
        exact symsP_len _ (show symsP (ints r1.1.1) (ints r1.1.2) s most F out r1.2 = .ok u from h)
      · cases h
theorem kindP_rm {s : ByteArray} {most m F : Nat} {out : List Nat} {q : Nat × Nat} (hm : out.length ≤ m) : Rm lenO m (kindP s most F out q) (kindP s m F out q) := by
  unfold kindP
  split
  · exact storeP_rm hm
  · split
    · exact symsP_rm _ _ _ hm
    · split
      · exact Rm.same fun r1 _ => symsP_rm _ _ _ hm
      · exact Rm.err
theorem blockP_rm {s : ByteArray} {most m F : Nat} {out : List Nat} {a : Nat} (hm : out.length ≤ m) : Rm lenB m (blockP s most F out a) (blockP s m F out a) := by
  unfold blockP
  refine Rm.same fun r1 _ => ?_
  refine Rm.bind (len := lenO) (Rm.same fun r2 _ => kindP_rm hm) (fun v _ hv => Rm.pure hv) ?_
  intro v u _ h
  cases h
  exact Nat.le_refl _
theorem blockP_len {s : ByteArray} {most F : Nat} {out : List Nat} {a : Nat} {u : (Bool × List Nat) × Nat} (h : blockP s most F out a = .ok u) : out.length ≤ lenB u := by
  obtain ⟨r1, _, h⟩ := bind_ok h
  obtain ⟨r2, h1, h2⟩ := bind_ok h
  obtain ⟨r3, _, h4⟩ := bind_ok h1
  have := kindP_len h4
  cases h2
  exact this
theorem ofLoop_len {s : ByteArray} {most F : Nat} : ∀ (g : Nat) {out : List Nat} {a : Nat} {u : List Nat × Nat}, ofLoop s most F g out a = .ok u → out.length ≤ lenO u := by
  intro g
  induction g with
  | zero => intro out a u h; cases h
  | succ g ih =>
    intro out a u h
    obtain ⟨r1, h1, h⟩ := bind_ok h
    have e1 := blockP_len h1
    unfold ofNext at h
    split at h
    · cases h; exact e1
    · have := ih h; unfold lenB at e1; omega
theorem ofLoop_rm {s : ByteArray} {most m F : Nat} : ∀ (g : Nat) (out : List Nat) (a : Nat), out.length ≤ m → Rm lenO m (ofLoop s most F g out a) (ofLoop s m F g out a) := by
  intro g
  induction g with
  | zero => intro out a _; exact Rm.err
  | succ g ih =>
    intro out a hm
    refine (blockP_rm hm).bind ?_ ?_
    · intro v _ hv
      unfold ofNext
      split
      · exact Rm.pure hv
      · exact ih _ _ hv
    · intro v u _ h
      unfold ofNext at h
      split at h
      · cases h; exact Nat.le_refl _
      · exact ofLoop_len _ h
theorem capI_of (m : Nat) (h : m ≤ 65000) : capI (m : Int) = m := by unfold capI; omega
theorem ofP_rm {s : ByteArray} {most : Int} {m : Nat} (hm : m ≤ 65000) : Rm lenO m (ofP s most) (ofP s (m : Int)) := by
  unfold ofP
  rw [capI_of m hm]
  exact ofLoop_rm _ _ _ (by simp)
/-- What is made has room, and ends in the bits. -/
theorem ofP_facts {s : ByteArray} {most : Nat} (hm : most ≤ 65000) {out : List Nat} {a : Nat} (h : ofP s (most : Int) = .ok (out, a)) : 0 < a ∧ a ≤ 8 * s.size ∧ out.length ≤ most := by
  refine ⟨ofLoop_adv _ h, ?_, ?_⟩
  · have := (ofP_tr (N := s.size) (s' := s) ⟨Nat.le_refl _, Nat.le_refl _, rfl⟩ (most : Int) out a h).2 rfl
    by_cases hc : a ≤ 8 * s.size
    · exact hc
    · have := this (by omega); rw [h] at this; cases this
  · have := (ofP_rm (s := s) (most := most) hm (out, a) h).2
    by_cases hc : out.length ≤ most
    · exact hc
    · have := this (by unfold lenO; simp only; omega); rw [h] at this; cases this
/-- With other bytes behind. -/
theorem ofP_more {s more : ByteArray} {most : Int} {out : List Nat} {a : Nat} (h : ofP s most = .ok (out, a)) (ha : a ≤ 8 * s.size) : ofP (s.extract 0 ((a + 7) / 8) ++ more) most = .ok (out, a) := by
  have hn : (a + 7) / 8 ≤ s.size := by omega
  refine (ofP_tr (N := (a + 7) / 8) ⟨hn, ?_, ?_⟩ most out a h).1 (by omega)
  · rw [ByteArray.size_append, ByteArray.size_extract]; omega
  · rw [bytesOf_append, bytesOf_extract _ _ _ hn, List.drop_zero, List.take_left']
    rw [List.length_take, length_bytesOf]; omega
/-- With a byte less. -/
theorem ofP_less {s : ByteArray} {most : Int} {out : List Nat} {a j : Nat} (h : ofP s most = .ok (out, a)) (ha : a ≤ 8 * s.size) (hj : j < (a + 7) / 8) : ofP (s.extract 0 j) most = .error 3 := by
  have hsz : (s.extract 0 j).size = j := by rw [ByteArray.size_extract]; omega
  refine (ofP_tr (N := j) ⟨by omega, by omega, ?_⟩ most out a h).2 hsz.symm (by omega)
  rw [bytesOf_extract _ _ _ (by omega), List.drop_zero, List.take_take, Nat.min_self]
end Go.Proofs.Ytcddlnmfdjfjfaa

/- Package inflate: what other bytes turn, continued: tables, stored blocks, blocks, all of them. -/
import Derived.Test.YtcddlnmfdjfjfaaEnds
namespace Go.Proofs.Ytcddlnmfdjfjfaa
open Go.RowKit
set_option linter.unusedVariables false

theorem Tr.pure {α : Type} {N : Nat} {s' : ByteArray} {v : α} {a : Nat} (ha : a ≤ 8 * N) : Tr N s' (.ok (v, a)) (.ok (v, a)) := by
  intro u a2 h
  cases h
  exact ⟨fun _ => rfl, fun _ h => by omega⟩
section
variable {N : Nat} {s s' : ByteArray} (hA : Agree N s s')
include hA
theorem againP_tr {sym : Nat} {L : List Nat} {a : Nat} (ha : a ≤ 8 * N) : Tr N s' (againP s sym L a) (againP s' sym L a) := by
  unfold againP
  split
  · split
    · exact Tr.err
    · exact (takeP_tr hA ha).map fun _ => rfl
  · split
    · exact (takeP_tr hA ha).map fun _ => rfl
    · exact (takeP_tr hA ha).map fun _ => rfl
theorem oneP_tr {k : Nat} {L : List Nat} {a : Nat} (ha : a ≤ 8 * N) : Tr N s' (oneP s k L a) (oneP s' k L a) := by
  unfold oneP
  split
  · exact againP_tr hA ha
  · exact Tr.pure ha
omit hA in
theorem rowP_bind (l : List Int) (t : ByteArray) (many f : Nat) (L : List Nat) (a : Nat) (h : L.length < many) : rowP l t many (f + 1) L a = nextP l t a >>= fun r => oneP t r.1 L r.2 >>= fun q => if q.1.1 ≤ many - L.length then rowP l t many f (L ++ List.replicate q.1.1 q.1.2) q.2 else .error 2 := by
  simp only [rowP]
  rw [if_pos h]
  cases nextP l t a with
  | error c => rfl
  | ok r =>
    show (match oneP t r.1 L r.2 with | .error c => _ | .ok q => _) = (oneP t r.1 L r.2 >>= _)
    cases oneP t r.1 L r.2 with
    | error c => rfl
    | ok q => rfl
theorem rowP_tr {l : List Int} {many : Nat} : ∀ (f : Nat) (L : List Nat) (a : Nat), a ≤ 8 * N → Tr N s' (rowP l s many f L a) (rowP l s' many f L a) := by
  intro f
  induction f with
  | zero => intro L a ha; exact Tr.pure ha
  | succ f ih =>
    intro L a ha
    by_cases hc : L.length < many
    · rw [rowP_bind _ _ _ _ _ _ hc, rowP_bind _ _ _ _ _ _ hc]
      refine (nextP_tr hA ha).bind ?_ ?_
      · intro k a1 _ ha1
        refine (oneP_tr hA ha1).bind ?_ ?_
        · intro q a2 _ ha2
          simp only
          split
          · exact ih _ _ ha2
          · exact Tr.err
        · intro q a2 u a3 h1 h2
          simp only at h2
          split at h2
          · exact rowP_adv _ h2
          · cases h2
      · intro k a1 u a3 h1 h2
        obtain ⟨⟨q, a2⟩, h3, h4⟩ := bind_ok h2
        have := oneP_adv h3
        simp only at h4
        split at h4
        · have := rowP_adv _ h4; simp only at *; omega
        · cases h4
    · rw [rowP_end hc, rowP_end hc]; exact Tr.pure ha
omit hA in
theorem firstP_bind (t : ByteArray) (m i : Nat) (L : List Nat) (a : Nat) : firstP t (m + 1) i L a = takeP t a 3 >>= fun r => firstP t m (i + 1) (L.set (orderL.getD i 0) r.1) r.2 := by
  simp only [firstP]
  cases takeP t a 3 <;> rfl
theorem firstP_tr : ∀ (m i : Nat) (L : List Nat) (a : Nat), a ≤ 8 * N → Tr N s' (firstP s m i L a) (firstP s' m i L a) := by
  intro m
  induction m with
  | zero => intro i L a ha; exact Tr.pure ha
  | succ m ih =>
    intro i L a ha
    rw [firstP_bind, firstP_bind]
    exact (takeP_tr hA ha).bind (fun v a1 _ ha1 => ih _ _ _ ha1) (fun v a1 u a2 _ h => firstP_adv _ h)
omit hA in
theorem tabEnd_tr {n : Nat} {L : List Nat} {a : Nat} (ha : a ≤ 8 * N) : Tr N s' (tabEnd n (L, a)) (tabEnd n (L, a)) := by
  unfold tabEnd
  split
  · split
    · exact Tr.pure ha
    · exact Tr.err
  · exact Tr.err
omit hA in
theorem tabEnd_adv {n : Nat} {L : List Nat} {a a' : Nat} {u : List Nat × List Nat} (h : tabEnd n (L, a) = .ok (u, a')) : a ≤ a' := by
  unfold tabEnd at h
  split at h
  · split at h
    · cases h; exact Nat.le_refl _
    · cases h
  · cases h
omit hA in
theorem tabRow_adv {t : ByteArray} {n m : Nat} {L : List Nat} {a a' : Nat} {u : List Nat × List Nat} (h : tabRow t n m (L, a) = .ok (u, a')) : a ≤ a' := by
  unfold tabRow at h
  split at h
  · obtain ⟨⟨q, a2⟩, h3, h4⟩ := bind_ok h
    have := rowP_adv _ h3
    have := tabEnd_adv h4
    simp only at *
    omega
  · cases h
omit hA in
theorem tabFirst_adv {t : ByteArray} {n m k a a' : Nat} {u : List Nat × List Nat} (h : tabFirst t n m k a = .ok (u, a')) : a ≤ a' := by
  unfold tabFirst at h
  split at h
  · obtain ⟨⟨q, a2⟩, h3, h4⟩ := bind_ok h
    have := firstP_adv _ h3
    have := tabRow_adv h4
    omega
  · cases h
theorem tablesP_tr {a : Nat} (ha : a ≤ 8 * N) : Tr N s' (tablesP s a) (tablesP s' a) := by
  unfold tablesP
  refine (takeP_tr hA ha).bind ?_ ?_
  · intro n a1 _ ha1
    refine (takeP_tr hA ha1).bind ?_ ?_
    · intro m a2 _ ha2
      refine (takeP_tr hA ha2).bind ?_ ?_
      · intro k a3 _ ha3
        unfold tabFirst
        simp only
        split
        · refine (firstP_tr hA _ _ _ _ ha3).bind ?_ ?_
          · intro L a4 _ ha4
            unfold tabRow
            simp only
            split
            · exact (rowP_tr hA _ _ _ ha4).bind (fun L' a5 _ ha5 => tabEnd_tr ha5) (fun L' a5 u a6 _ h => tabEnd_adv h)
            · exact Tr.err
          · intro L a4 u a5 _ h
            exact tabRow_adv h
        · exact Tr.err
      · intro k a3 u a4 _ h
        exact tabFirst_adv h
    · intro m a2 u a4 _ h
      obtain ⟨⟨q, a5⟩, h3, h4⟩ := bind_ok h
      have := takeP_adv h3
      have := tabFirst_adv h4
      simp only at *
      omega
  · intro n a1 u a4 _ h
    obtain ⟨⟨q, a5⟩, h3, h⟩ := bind_ok h
    obtain ⟨⟨q', a6⟩, h5, h6⟩ := bind_ok h
    have := takeP_adv h3
    have := takeP_adv h5
    have := tabFirst_adv h6
    simp only at *
    omega
omit hA in
theorem bytesOf_extract (s : ByteArray) (i j : Nat) (hj : j ≤ s.size) : bytesOf (s.extract i j) = ((bytesOf s).take j).drop i := by
  unfold bytesOf
  rw [ByteArray.data_extract]
  simp [List.map_take, List.map_drop, List.extract, List.drop_take]
theorem text_tr {a n : Nat} (h : (a + 7) / 8 + n ≤ N) : bytesOf (s.extract ((a + 7) / 8) ((a + 7) / 8 + n)) = bytesOf (s'.extract ((a + 7) / 8) ((a + 7) / 8 + n)) := by
  have hle := hA.le
  have hle' := hA.le'
  rw [bytesOf_extract _ _ _ (by omega), bytesOf_extract _ _ _ (by omega)]
  have e : ∀ l : List Nat, l.take ((a + 7) / 8 + n) = (l.take N).take ((a + 7) / 8 + n) := fun l => by rw [List.take_take, Nat.min_eq_left h]
  rw [e (bytesOf s), hA.eq, ← e]
theorem storeP_tr {most : Nat} {out : List Nat} {a : Nat} (ha : a ≤ 8 * N) : Tr N s' (storeP s most out a) (storeP s' most out a) := by
  have hle := hA.le
  have hle' := hA.le'
  unfold storeP
  refine (takeP_tr hA (by unfold alTo; simp; omega)).bind ?_ ?_
  · intro n a1 _ ha1
    refine (takeP_tr hA ha1).bind ?_ ?_
    · intro m a2 _ ha2
      intro u a3 h
      unfold storeEnd at h ⊢
      simp only at h ⊢
      split at h
      · rename_i hmn
        rw [if_pos hmn]
        split at h
        · cases h
        · rename_i hb
          have hb' : (a2 + 7) / 8 + n ≤ s.size := by simp [txBad] at hb; omega
          split at h
          · rename_i hr
            cases h
            have e1 : txTo s a2 false (n : Nat) = 8 * ((a2 + 7) / 8) + 8 * n := by unfold txTo; rw [if_neg hb]; simp
            have e2 : txStr s a2 false (n : Nat) = s.extract ((a2 + 7) / 8) ((a2 + 7) / 8 + n) := by unfold txStr; rw [if_neg hb]; simp
            rw [e1, e2]
            by_cases hN : (a2 + 7) / 8 + n ≤ s'.size
            · have hbb : txBad s' a2 false (n : Nat) = false := by simp [txBad]; omega
              have e3 : txTo s' a2 false (n : Nat) = 8 * ((a2 + 7) / 8) + 8 * n := by unfold txTo; rw [if_neg (by rw [hbb]; simp)]; simp
              have e4 : txStr s' a2 false (n : Nat) = s'.extract ((a2 + 7) / 8) ((a2 + 7) / 8 + n) := by unfold txStr; rw [if_neg (by rw [hbb]; simp)]; simp
              rw [hbb, if_neg (by simp), if_pos hr, e3, e4]
              exact ⟨fun h => by rw [text_tr hA (by omega)], fun hN h => by omega⟩
            · have hbb : txBad s' a2 false (n : Nat) = true := by simp [txBad]; omega
              rw [hbb, if_pos rfl]
              exact ⟨fun h => by omega, fun _ _ => rfl⟩
          · cases h
      · cases h
    · intro m a2 u a3 _ h
      unfold storeEnd at h
      split at h
      · split at h
        · cases h
        · rename_i hb
          split at h
          · cases h
            unfold txTo
            rw [if_neg hb]
            omega
          · cases h
      · cases h
  · intro n a1 u a3 _ h
    obtain ⟨⟨q, a5⟩, h3, h⟩ := bind_ok h
    have e1 := takeP_adv h3
    unfold storeEnd at h
    split at h
    · split at h
      · cases h
      · rename_i hb
        split at h
        · cases h
          unfold txTo
          rw [if_neg hb]
          simp only at *
          omega
        · cases h
    · cases h
theorem kindP_tr {most F F' k : Nat} {out : List Nat} {a : Nat} (hF : 8 * s'.size < F') (ha : a ≤ 8 * N) : Tr N s' (kindP s most F out (k, a)) (kindP s' most F' out (k, a)) := by
  unfold kindP
  simp only
  split
  · exact storeP_tr hA ha
  · split
    · exact symsP_tr hA _ _ _ _ (by omega) ha
    · split
      · exact (tablesP_tr hA ha).bind (fun q a1 _ ha1 => symsP_tr hA _ _ _ _ (by simp only; omega) ha1) (fun q a1 u a2 _ h => symsP_adv _ h)
      · exact Tr.err
theorem blockP_tr {most F F' : Nat} {out : List Nat} {a : Nat} (hF : 8 * s'.size < F') (ha : a ≤ 8 * N) : Tr N s' (blockP s most F out a) (blockP s' most F' out a) := by
  unfold blockP
  refine (takeP_tr hA ha).bind ?_ ?_
  · intro l a1 _ ha1
    refine Tr.bind ((takeP_tr hA ha1).bind (fun k a2 _ ha2 => kindP_tr hA hF ha2) (fun k a2 u a3 _ h => kindP_adv h)) (fun q a3 _ ha3 => Tr.pure ha3) ?_
    intro q a3 u a4 _ h
    cases h
    exact Nat.le_refl _
  · intro l a1 u a4 _ h
    obtain ⟨⟨q, a3⟩, h3, h4⟩ := bind_ok h
    obtain ⟨⟨k, a2⟩, h5, h6⟩ := bind_ok h3
    have := takeP_adv h5
    have := kindP_adv h6
    cases h4
    simp only at *
    omega
omit hA in
theorem ofLoop_adv {t : ByteArray} {most F : Nat} : ∀ (g : Nat) {out out' : List Nat} {a a' : Nat}, ofLoop t most F g out a = .ok (out', a') → a < a' := by
  intro g
  induction g with
  | zero => intro out out' a a' h; cases h
  | succ g ih =>
    intro out out' a a' h
    obtain ⟨⟨⟨l, o⟩, a1⟩, h1, h2⟩ := bind_ok h
    have := blockP_adv h1
    unfold ofNext at h2
    split at h2
    · cases h2; exact this
    · have := ih h2; simp only at *; omega
theorem ofLoop_tr {most F F' : Nat} (hF : 8 * s'.size < F') : ∀ (g g' : Nat) (out : List Nat) (a : Nat), 8 * s'.size < g' + a → a ≤ 8 * N → Tr N s' (ofLoop s most F g out a) (ofLoop s' most F' g' out a) := by
  have hle' := hA.le'
  intro g
  induction g with
  | zero => intro g' out a _ _; exact Tr.err
  | succ g ih =>
    intro g' out a hg ha
    obtain ⟨g', rfl⟩ : ∃ k, g' = k + 1 := ⟨g' - 1, by omega⟩
    refine (blockP_tr hA hF ha).bind ?_ ?_
    · intro q a1 h1 ha1
      obtain ⟨l, o⟩ := q
      have hadv := blockP_adv h1
      unfold ofNext
      simp only
      split
      · exact Tr.pure ha1
      · exact ih _ _ _ (by omega) ha1
    · intro q a1 u a2 _ h
      obtain ⟨l, o⟩ := q
      unfold ofNext at h
      split at h
      · cases h; exact Nat.le_refl _
      · exact Nat.le_of_lt (ofLoop_adv _ h)
theorem ofP_tr (most : Int) : Tr N s' (ofP s most) (ofP s' most) := ofLoop_tr hA (by omega) _ _ _ _ (by omega) (by omega)
end
end Go.Proofs.Ytcddlnmfdjfjfaa

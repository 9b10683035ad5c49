/- Package lz: what Match's tokens expand to, plain; what a round of its loop keeps. -/
import Derived.Test.YtdehkaknbmbieaaGreatQAO
import Derived.Test.YtdehkaknbmbieaaGreatQAP
import Derived.Test.YtdehkaknbmbieaaGreatQBI
namespace Go.Proofs.YtdehkaknbmbieaaGreat
set_option linter.unusedVariables false
set_option linter.unusedSimpArgs false
set_option linter.unusedSectionVars false
open Go.RowKit
set_option linter.unusedVariables false
set_option linter.unusedSimpArgs false

theorem exp_snoc_byte {l : List Tok} {bs : List Nat} {i : Nat} (he : expTo l [] = some (bs.take i)) (hi : i < bs.length) (hb : bs.length ≤ 65000) : expTo (l ++ [⟨bs[i], 0, 0⟩]) [] = some (bs.take (i + 1)) := by
  rw [expTo_append, he]
  show expTo [⟨bs[i], 0, 0⟩] (bs.take i) = _
  rw [expTo_cons, if_pos rfl, if_neg (by rw [List.length_take]; rintro (h | h); exact h rfl; omega), List.take_succ_eq_append_getElem hi]
  rfl
theorem SameB.less {S : ByteArray} {i b m m' : Nat} (h : SameB S i b m) (hm : m' ≤ m) : SameB S i b m' := by
  obtain ⟨x1, x2, x3, x4, x5⟩ := h
  exact ⟨x1, x2, by omega, by omega, fun k hk => x5 k (by omega)⟩
theorem copyN_take (S : ByteArray) (i b : Nat) : ∀ m, SameB S i b m → copyN ((bytesOf S).take i) b m = (bytesOf S).take (i + m)
  | 0, _ => rfl
  | m + 1, h => by
    have hl := length_bytesOf S
    obtain ⟨x1, x2, x3, x4, x5⟩ := h
    have e := x5 m (by omega) (by omega) (by omega)
    rw [copyN_succ, copyN_take S i b m (SameB.less ⟨x1, x2, x3, x4, x5⟩ (by omega))]
    have hlt : ((bytesOf S).take (i + m)).length = i + m := by rw [List.length_take]; omega
    have hi : i + m < (bytesOf S).length := by omega
    rw [hlt, ← Nat.add_assoc, List.take_succ_eq_append_getElem hi]
    congr 2
    rw [List.getD_eq_getElem?_getD, List.getElem?_take, if_pos (by omega), List.getElem?_eq_getElem (by omega), Option.getD_some, bytesOf_get S _ (by omega), bytesOf_get S _ (by omega), e]
theorem exp_snoc_copy {l : List Tok} {S : ByteArray} {i b m : Nat} (he : expTo l [] = some ((bytesOf S).take i)) (hS : S.size ≤ 65000) (hb : b ≤ 32768) (hm : 3 ≤ m) (h : SameB S i b m) : expTo (l ++ [⟨0, (m : Int), (b : Int)⟩]) [] = some ((bytesOf S).take (i + m)) := by
  have hl := length_bytesOf S
  have hc := copyN_take S i b m h
  obtain ⟨x1, x2, x3, x4, x5⟩ := h
  have hlt : ((bytesOf S).take i).length = i := by rw [List.length_take]; omega
  rw [expTo_append, he]
  show expTo [⟨0, (m : Int), (b : Int)⟩] ((bytesOf S).take i) = _
  rw [expTo_cons, if_neg (by show ¬ (m : Int) = 0; omega), if_neg (by unfold badCopy; rw [hlt]; dsimp only; omega)]
  show some _ = _
  rw [Int.toNat_natCast, Int.toNat_natCast, hc]
theorem ok_byte {x : Nat} (h : x < 256) : okTok ⟨x, 0, 0⟩ := .inl ⟨rfl, rfl, h⟩
theorem ok_copy {S : ByteArray} {i b m : Nat} (hb : b ≤ 32768) (hm : 3 ≤ m) (h : SameB S i b m) : okTok ⟨0, (m : Int), (b : Int)⟩ := by
  obtain ⟨x1, x2, x3, x4, x5⟩ := h
  exact .inr ⟨rfl, by show (3 : Int) ≤ m; omega, by show (m : Int) ≤ 258; omega, by show (1 : Int) ≤ b; omega, by show (b : Int) ≤ 32768; omega⟩
theorem ok_snoc {l : List Tok} {t : Tok} (h : ∀ t ∈ l, okTok t) (ht : okTok t) : ∀ u ∈ l ++ [t], okTok u := fun u hu => by
  rcases List.mem_append.1 hu with h' | h'
  · exact h u h'
  · simp at h'; subst h'; exact ht
/-- Between two rounds: p places are put, the tokens l make i bytes. -/
structure MatI (S : ByteArray) (w1 : World) (fb mb nb : Nat) (D : Int) (p i : Nat) (v o : Value) (n : Nat) (l : List Tok) (W : World) : Prop where
  fin : FinAt W fb mb S v p D
  row : Row W 49 3 o n (tcs l)
  len : l.length = n
  ok : ∀ t ∈ l, okTok t
  exp : expTo l [] = some ((bytesOf S).take i)
  le : n ≤ i
  vo : ∀ k, v.ownBlock = some k → w1.heap.size ≤ k
  oo : ∀ k, o.ownBlock = some k → w1.heap.size ≤ k
  bl : fb < w1.heap.size ∧ mb < w1.heap.size ∧ nb < w1.heap.size ∧ nb ≠ fb ∧ nb ≠ mb
  up : Upd [fb, mb, nb] w1 W
theorem Row.ne_cells {w : World} {e e' : TypeId} {size n : Nat} {v : Value} {xs cs : List Value} {b : Nat} (h : Row w e size v n xs) (hB : Blk w b cs e') (ht : e ≠ e') : v.ownBlock ≠ some b := fun hk => by
  rcases h.2 with ⟨rfl, _⟩ | ⟨g, cap, cur, rfl, hb, hh, _⟩
  · simp [Value.ownBlock] at hk
  · simp [Value.ownBlock] at hk
    subst hk
    unfold Blk at hB
    rw [hh] at hB
    simp at hB
    exact ht hB.2
theorem Row.ne_cells2 {w : World} {e e' : TypeId} {size size' n n' : Nat} {v v' : Value} {xs xs' : List Value} (h : Row w e size v n xs) (h' : Row w e' size' v' n' xs') (ht : e ≠ e') : ∀ k, v.ownBlock = some k → k ∉ v'.ownBlock.toList := fun k hk hm => by
  have hm' : v'.ownBlock = some k := by simpa using hm
  rcases h.2 with ⟨rfl, _⟩ | ⟨g, cap, cur, rfl, hb, hh, _⟩
  · simp [Value.ownBlock] at hk
  · rcases h'.2 with ⟨rfl, _⟩ | ⟨g2, cap2, cur2, rfl, hb2, hh2, _⟩
    · simp [Value.ownBlock] at hm'
    · simp [Value.ownBlock] at hk hm'
      subst hk hm'
      rw [hh] at hh2
      simp at hh2
      exact ht hh2.2
theorem FinAt.row {W : World} {fb mb : Nat} {S : ByteArray} {v : Value} {p : Nat} {D : Int} (h : FinAt W fb mb S v p D) : ∃ xs : List Int, Row W 3 1 v p (zvs xs) := by
  obtain ⟨xs, _, _, h⟩ := h.1.2.1
  exact ⟨xs, h⟩
section
variable {S : ByteArray} {w1 W W' : World} {fb mb nb : Nat} {D : Int} {p i : Nat} {v o : Value} {n : Nat} {l : List Tok}
theorem MatI.size (h : MatI S w1 fb mb nb D p i v o n l W) : w1.heap.size ≤ W.heap.size := h.up.size
theorem MatI.pure (h : MatI S w1 fb mb nb D p i v o n l W) (hu : Upd [] W W') : MatI S w1 fb mb nb D p i v o n l W' :=
  ⟨h.fin.pure hu, h.row.upd hu (by simp), h.len, h.ok, h.exp, h.le, h.vo, h.oo, h.bl, h.up.trans hu (fun k hk => by simp at hk)⟩
theorem MatI.nxt (h : MatI S w1 fb mb nb D p i v o n l W) (hu : Upd [nb] W W') : MatI S w1 fb mb nb D p i v o n l W' := by
  obtain ⟨b1, b2, b3, b4, b5⟩ := h.bl
  exact ⟨h.fin.upd hu (by simpa using b4.symm) (by simpa using b5.symm) (fun k hk hm => by have := h.vo k hk; simp at hm; omega), h.row.upd hu (fun k hk hm => by have := h.oo k hk; simp at hm; omega), h.len, h.ok, h.exp, h.le, h.vo, h.oo, h.bl, h.up.trans hu (fun k hk => .inl (by simp at hk; simp [hk]))⟩
theorem MatI.tok {tb : Nat} (h : MatI S w1 fb mb nb D p i v o n l W) (hu : Upd [tb] W W') (ht : w1.heap.size ≤ tb) (ho : ∀ k, o.ownBlock = some k → k ≠ tb) (hv : v.ownBlock ≠ some tb) : MatI S w1 fb mb nb D p i v o n l W' := by
  obtain ⟨b1, b2, b3, b4, b5⟩ := h.bl
  exact ⟨h.fin.upd hu (by simp; omega) (by simp; omega) (fun k hk hm => by simp at hm; subst hm; exact hv hk), h.row.upd hu (fun k hk hm => by simp at hm; exact ho k hk hm), h.len, h.ok, h.exp, h.le, h.vo, h.oo, h.bl, h.up.trans hu (fun k hk => .inr (by simp at hk; omega))⟩
theorem MatI.put {e : Ending} (h : MatI S w1 fb mb nb D p i v o n l W) (hP : PutP W fb mb S v p D e W') : e = .returned (.tuple #[]) ∧ ∃ v', MatI S w1 fb mb nb D (p + 1) i v' o n l W' ∧ Upd (fb :: mb :: v.ownBlock.toList) W W' := by
  obtain ⟨he, v', hF, hU, hL⟩ := hP
  obtain ⟨b1, b2, b3, b4, b5⟩ := h.bl
  obtain ⟨xs, hv⟩ := h.fin.row
  refine ⟨he, v', ⟨hF, h.row.upd hU (fun k hk hm => ?_), h.len, h.ok, h.exp, h.le, fun k hk => ?_, h.oo, h.bl, h.up.trans hU (fun k hk => ?_)⟩, hU⟩
  · have := h.oo k hk
    simp only [List.mem_cons] at hm
    rcases hm with hm | hm | hm
    · omega
    · omega
    · exact h.row.ne_cells2 hv (by decide) k hk hm
  · rcases hL with e | ⟨g, e, hg⟩
    · exact h.vo k (by rw [← e]; exact hk)
    · rw [hk] at e; cases e; have := h.size; omega
  · simp only [List.mem_cons] at hk
    rcases hk with rfl | rfl | hk
    · exact .inl (by simp)
    · exact .inl (by simp)
    · exact .inr (h.vo k (by simpa using hk))
/-- A token block that is apart stays through a put. -/
theorem MatI.far (h : MatI S w1 fb mb nb D p i v o n l W) {b : Nat} {cs : List Value} (hB : Blk W b cs 49) (hU : Upd (fb :: mb :: v.ownBlock.toList) W W') (hf : b = nb ∨ w1.heap.size ≤ b) : Blk W' b cs 49 := by
  obtain ⟨b1, b2, b3, b4, b5⟩ := h.bl
  obtain ⟨xs, hv⟩ := h.fin.row
  refine hB.upd hU (fun hm => ?_)
  simp only [List.mem_cons] at hm
  rcases hm with hm | hm | hm
  · rcases hf with rfl | hf
    · exact b4 hm
    · omega
  · rcases hf with rfl | hf
    · exact b5 hm
    · omega
  · exact hv.ne_cells hB (by decide) (by simpa using hm)
/-- A token more. -/
theorem MatI.app {o5 : Value} {w5 wa : World} {t : Tok} {i' : Nat} (h : MatI S w1 fb mb nb D p i v o n l W) (hA : Upd [] W wa) (hR5 : Row w5 49 3 o5 (n + 1) (tcs l ++ t.cs)) (hU5 : Upd o.ownBlock.toList wa w5) (hT5 : Later wa o o5)
    (ht : okTok t) (he : expTo (l ++ [t]) [] = some ((bytesOf S).take i')) (hi : i < i') : MatI S w1 fb mb nb D p i' v o5 (n + 1) (l ++ [t]) w5 := by
  obtain ⟨b1, b2, b3, b4, b5⟩ := h.bl
  have h5 : Upd o.ownBlock.toList W w5 := (hA.mono (fun k hk => by simp at hk)).then hU5
  obtain ⟨xs, hv⟩ := h.fin.row
  refine ⟨h.fin.upd h5 (fun hm => ?_) (fun hm => ?_) (fun k hk hm => ?_), by rw [tcs_append, tcs_single]; exact hR5, by rw [List.length_append, h.len]; rfl, ok_snoc h.ok ht, he, by have := h.le; omega, h.vo, fun k hk => ?_, h.bl, h.up.trans h5 (fun k hk => .inr (h.oo k (by simpa using hk)))⟩
  · have := h.oo fb (by simpa using hm); omega
  · have := h.oo mb (by simpa using hm); omega
  · exact hv.ne_cells2 h.row (by decide) k hk hm
  · rcases hT5 with e | ⟨g, e, hg⟩
    · exact h.oo k (by rw [← e]; exact hk)
    · rw [hk] at e; cases e; have := h.size; have := hA.size; omega
end
end Go.Proofs.YtdehkaknbmbieaaGreat

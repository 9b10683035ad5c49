/- Package extent: two sets at once; what sets of added spans have; a nil set. -/
import Derived.Test.YtibmhadnfggmlaaExtM
namespace Go.Proofs.Ytibmhadnfggmlaa
open Go.RowKit Go.Shelf
attribute [local go_sem] Oper.semAt_some

structure Two (w W : World) (ba : Nat) (va : Value) (la : List (Int × Int)) (bb : Nat) (vb : Value) (lb : List (Int × Int)) : Prop where
  a : NewSet w W ba va la
  b : NewSet w W bb vb lb
  ne : ba ≠ bb
  av : va.ownBlock ≠ some bb
  bv : vb.ownBlock ≠ some ba
  vv : ∀ g, va.ownBlock = some g → vb.ownBlock ≠ some g
theorem Two.stepB {w W W' : World} {ba bb : Nat} {va vb vb' : Value} {la lb lb' : List (Int × Int)} (h : Two w W ba va la bb vb lb) (hS : SetW W' bb vb' lb') (hU : Upd [bb] W W') (hN : Nw W vb vb') : Two w W' ba va la bb vb' lb' where
  a := ⟨h.a.set.upd hU (by simp; exact h.ne) (fun k hk => by simp; intro e; exact h.av (by rw [hk, e])), h.a.up.trans hU (fun k hk => by simp at hk; right; rw [hk]; exact h.b.gb), h.a.gb, h.a.gv⟩
  b := h.b.step hS hU hN
  ne := h.ne
  av := h.av
  bv := fun e => by
    rcases hN _ e with h1 | h1
    · exact h.bv h1
    · have := h.a.set.blk.lt; omega
  vv := fun g hg e => by
    rcases hN _ e with h1 | h1
    · exact h.vv g hg h1
    · have := h.a.set.row.lt g hg; omega
theorem Two.pure {w W W' : World} {ba bb : Nat} {va vb : Value} {la lb : List (Int × Int)} (h : Two w W ba va la bb vb lb) (hU : Upd [] W W') : Two w W' ba va la bb vb lb :=
  { h with a := h.a.pure hU, b := h.b.pure hU }
theorem Two.new {w W W' : World} {ba bb : Nat} {va vb : Value} {la lb : List (Int × Int)} (ha : NewSet w W ba va la) (hb : NewSet W W' bb vb lb) : Two w W' ba va la bb vb lb :=
  have hl := ha.set.blk.lt
  ⟨ha.pure hb.up, ⟨hb.set, ha.up.then hb.up, by have := hb.gb; have := ha.up.size; omega, fun g hg => by have := hb.gv g hg; have := ha.up.size; omega⟩,
    by have := hb.gb; omega, (fun e => by have := ha.set.row.lt _ e; have := hb.gb; omega), (fun e => by have := hb.gv _ e; omega), fun g hg e => by have := ha.set.row.lt g hg; have := hb.gv g e; omega⟩
theorem addsP_norm (f : Nat → Int × Int) : ∀ k, Norm (addsP f k)
  | 0 => trivial
  | k + 1 => by rw [addsP_succ]; exact addP_norm _ (addsP_norm f k)
theorem addsP_mem (f : Nat → Int × Int) : ∀ k p, memL (addsP f k) p ↔ ∃ i, i < k ∧ spanOk (f i) = true ∧ (f i).1 ≤ p ∧ p < (f i).2
  | 0, p => ⟨fun h => absurd h (memL_nil p), fun ⟨i, h, _⟩ => by omega⟩
  | k + 1, p => by
    rw [addsP_succ]
    have ih := addsP_mem f k p
    by_cases hx : spanOk (f k) = true
    · rw [(addP_spec (addsP_norm f k) hx).2, ih]
      constructor
      · rintro (⟨i, h1, h2⟩ | h)
        · exact ⟨i, by omega, h2⟩
        · exact ⟨k, by omega, hx, h⟩
      · rintro ⟨i, h1, h2, h3⟩
        by_cases e : i = k
        · subst e; exact .inr h3
        · exact .inl ⟨i, by omega, h2, h3⟩
    · have e : addP (addsP f k) (f k) = addsP f k := by unfold addP; rw [if_neg hx]
      rw [e, ih]
      constructor
      · rintro ⟨i, h1, h2⟩; exact ⟨i, by omega, h2⟩
      · rintro ⟨i, h1, h2, h3⟩
        have : i ≠ k := fun e => hx (by rw [← e]; exact h2)
        exact ⟨i, by omega, h2, h3⟩
/-- In whatever order spans are added, they come to the same. -/
theorem adds_rev (f : Nat → Int × Int) (n : Nat) : addsP f n = addsP (fun i => f (n - 1 - i)) n := by
  refine norm_unique (addsP_norm _ _) (addsP_norm _ _) fun p => ?_
  rw [addsP_mem, addsP_mem]
  constructor
  · rintro ⟨i, h1, h2⟩; exact ⟨n - 1 - i, by omega, by rw [show n - 1 - (n - 1 - i) = i by omega]; exact h2⟩
  · rintro ⟨i, h1, h2⟩; exact ⟨n - 1 - i, by omega, h2⟩
theorem norm_get {l : List (Int × Int)} (h : Norm l) (k : Nat) (h1 : k + 1 < l.length) : l[k].2 < l[k + 1].1 := by
  have e : l = l.take (k + 1) ++ l.drop (k + 1) := by simp
  have h2 : Norm (l.take (k + 1) ++ l.drop (k + 1)) := by rw [← e]; exact h
  refine (norm_append.1 h2).2.2 l[k] ?_ l[k + 1] ?_
  · exact List.mem_take_iff_getElem.2 ⟨k, by omega, rfl⟩
  · rw [List.drop_eq_getElem_cons h1]; exact List.mem_cons.2 (.inl rfl)
theorem norm_prev {l : List (Int × Int)} (h : Norm l) : ∀ (i : Nat) (h1 : i < l.length) (_ : 0 < i), l[i - 1].2 < l[i].1
  | 0, _, h2 => absurd h2 (by omega)
  | i + 1, h1, _ => norm_get h i h1
theorem norm_ok {l : List (Int × Int)} (h : Norm l) (k : Nat) (h1 : k < l.length) : spanOk l[k] = true := spanOk_iff.2 (norm_mem h (List.getElem_mem h1))
/-- What is behind Add is that nothing lacks. -/
theorem holes_none {l : List (Int × Int)} {x : Int × Int} (h : Norm l) (hx : spanOk x = true) : holesP (addP l x) x = [] := by
  obtain ⟨a1, a2⟩ := addP_spec h hx
  obtain ⟨h1, h2, _⟩ := holesP_spec a1 hx
  refine norm_unique h1 trivial fun p => ?_
  rw [h2, a2]
  constructor
  · rintro ⟨h3, h4⟩; exact absurd (Or.inr h3) h4
  · intro h; exact absurd h (memL_nil p)
theorem has_in {l : List (Int × Int)} {x : Int × Int} (h : Norm l) (hx : spanOk x = true) {p : Int} (h1 : x.1 ≤ p) (h2 : p < x.2) : hasP (addP l x) p = true := by
  obtain ⟨a1, a2⟩ := addP_spec h hx
  exact (hasP_iff a1).2 ((a2 p).2 (.inr ⟨h1, h2⟩))
theorem meets_cut {l : List (Int × Int)} {x : Int × Int} (h : Norm l) (hx : spanOk x = true) : meetsP (cutP l x) x = false := by
  obtain ⟨a1, a2⟩ := cutP_spec h hx
  cases hm : meetsP (cutP l x) x with
  | false => rfl
  | true =>
    obtain ⟨_, p, hp, hm2⟩ := (meetsP_iff a1).1 hm
    exact absurd hp ((a2 p).1 hm2).2
theorem holes_nil {x : Int × Int} (hx : spanOk x = true) : holesP [] x = [x] := by unfold holesP; rw [if_pos hx]; rfl
theorem setIn_nil (w : World) (n : Nat) : SetIn n w none [] := .inl ⟨rfl, rfl⟩
end Go.Proofs.Ytibmhadnfggmlaa

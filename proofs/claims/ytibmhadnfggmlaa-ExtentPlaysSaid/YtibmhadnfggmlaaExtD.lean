/- Package extent: Cut. -/
import Derived.Test.YtibmhadnfggmlaaExtC
namespace Go.Proofs.Ytibmhadnfggmlaa
open Go.RowKit Go.Shelf
attribute [local go_sem] Oper.semAt_some

theorem Upd.putObj {fp : List Nat} {a w : World} (h : Upd fp a w) {D : Nat} (hD : a.heap.size ≤ D) (o : Obj) : Upd fp a (w.putObj D o) := h.grown (grownBy_putObj' w D o) (fun k e => by cases e; exact .inr hD)
theorem Blk.putObj {w : World} {b : Nat} {cs : List Value} {t : TypeId} (h : Blk w b cs t) {D : Nat} {o : Obj} (hD : w.heap[D]? = some o) (ho : o.isCells = false) (o' : Obj) : Blk (w.putObj D o') b cs t :=
  h.grown (grownBy_putObj' w D o') (fun e => by cases e; have := h.isc o hD; rw [this] at ho; cases ho)
theorem Row.putObj {w : World} {e : TypeId} {size : Nat} {v : Value} {n : Nat} {xs : List Value} (h : Row w e size v n xs) {D : Nat} {o : Obj} (hD : w.heap[D]? = some o) (ho : o.isCells = false) (o' : Obj) : Row (w.putObj D o') e size v n xs :=
  h.own (B := 0) (grownBy_putObj' w D o') (fun r e => by cases e; exact ⟨Nat.zero_le _, o, hD, ho⟩)
theorem Blk.inj1 {w : World} {b : Nat} {u v : Value} {t t' : TypeId} (h : Blk w b [u] t) (h' : Blk w b [v] t') : u = v := by
  have c := h.cell 0 rfl
  have c' := h'.cell 0 rfl
  rw [c] at c'; exact Option.some.inj c'
/-- The set at block b. -/
structure SetW (w : World) (b : Nat) (v : Value) (l : List (Int × Int)) : Prop where
  blk : Blk w b [v] 58
  row : Row w 24 2 v l.length (flat l)
  far : v.ownBlock ≠ some b
theorem SetW.upd {w w' : World} {b : Nat} {v : Value} {l : List (Int × Int)} {fp : List Nat} (h : SetW w b v l) (hU : Upd fp w w') (h1 : b ∉ fp) (h2 : ∀ k, v.ownBlock = some k → k ∉ fp) : SetW w' b v l := ⟨h.blk.upd hU h1, h.row.upd hU h2, h.far⟩
theorem SetW.pure {w w' : World} {b : Nat} {v : Value} {l : List (Int × Int)} (h : SetW w b v l) (hU : Upd [] w w') : SetW w' b v l := h.upd hU (by simp) (by simp)
theorem SetW.inn {w : World} {b : Nat} {v : Value} {l : List (Int × Int)} (h : SetW w b v l) (hl : l.length ≤ 1000000) : SetIn w.heap.size w (some ⟨b, 0, none⟩) l :=
  .inr ⟨b, v, rfl, h.blk.lt, h.blk, h.row, fun g hg => ⟨h.row.lt g hg, fun e => h.far (by rw [hg, e])⟩, hl⟩
theorem cutOne_len (x y : Int × Int) : (cutOne x y).length ≤ 2 := by
  unfold cutOne; rw [List.length_append]; split <;> split <;> simp
theorem cuts_len (x : Int × Int) : ∀ l : List (Int × Int), (l.flatMap (cutOne x)).length ≤ 2 * l.length
  | [] => by simp
  | y :: l => by rw [List.flatMap_cons, List.length_append, List.length_cons]; have := cutOne_len x y; have := cuts_len x l; omega
theorem put_two (out : List (Int × Int)) (x y : Int × Int) : putP (putP out y.1 (min y.2 x.1)) (max y.1 x.2) y.2 = out ++ cutOne x y := by
  unfold putP cutOne; rw [List.append_assoc]
theorem cut_nil (x : Int × Int) (w : World) : Calls Try.prog 8 #[.pointer none, .agg #[.int .i64 x.1, .int .i64 x.2]] w fun e w' => e = .returned (.tuple #[]) ∧ Upd [] w w' := by
  go_enter Try.func8, Try.ntmps8
  go_wp2
  all_goals (refine bodyPost_ret (results_none rfl _ _ _) rfl ?_)
  exact ⟨rfl, (Upd.refl _ _).alloc _⟩
theorem cut_not (b : Nat) (x : Int × Int) (w : World) (hx : spanOk x = false) : Calls Try.prog 8 #[.pointer (some ⟨b, 0, none⟩), .agg #[.int .i64 x.1, .int .i64 x.2]] w fun e w' => e = .returned (.tuple #[]) ∧ Upd [] w w' := by
  have HX := Lib.hid hx
  clear hx
  go_enter Try.func8, Try.ntmps8
  go_wp2_with fail
  refine (right_any _ _ _).mono ?_
  rintro e w' ⟨rfl, hU⟩
  rw [HX.out]
  go_wp2
  all_goals (refine bodyPost_ret (results_none rfl _ _ _) rfl ?_)
  exact ⟨rfl, ((Upd.refl _ _).alloc _).then hU⟩
end Go.Proofs.Ytibmhadnfggmlaa

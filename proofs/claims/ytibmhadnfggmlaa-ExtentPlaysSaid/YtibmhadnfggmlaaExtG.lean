/- Package extent: Add. -/
import Derived.Test.YtibmhadnfggmlaaExtE
import Derived.Test.YtibmhadnfggmlaaExtF
namespace Go.Proofs.Ytibmhadnfggmlaa
open Go.RowKit Go.Shelf
attribute [local go_sem] Oper.semAt_some

theorem add_nil (x : Int × Int) (w : World) : Calls Try.prog 9 #[.pointer none, .agg #[.int .i64 x.1, .int .i64 x.2]] w fun e w' => e = .returned (.tuple #[]) ∧ Upd [] w w' := by
  go_enter Try.func9, Try.ntmps9
  go_wp2
  all_goals (refine bodyPost_ret (results_none rfl _ _ _) rfl ?_)
  exact ⟨rfl, (Upd.refl _ _).alloc _⟩
theorem add_not (b : Nat) (x : Int × Int) (w : World) (hx : spanOk x = false) : Calls Try.prog 9 #[.pointer (some ⟨b, 0, none⟩), .agg #[.int .i64 x.1, .int .i64 x.2]] w fun e w' => e = .returned (.tuple #[]) ∧ Upd [] w w' := by
  have HX := Lib.hid hx
  clear hx
  go_enter Try.func9, Try.ntmps9
  go_wp2_with fail
  refine (right_any _ _ _).mono ?_
  rintro e w' ⟨rfl, hU⟩
  rw [HX.out]
  go_wp2
  all_goals (refine bodyPost_ret (results_none rfl _ _ _) rfl ?_)
  exact ⟨rfl, ((Upd.refl _ _).alloc _).then hU⟩
/-- Add between two rounds: what is ahead, what is behind, and the span so far. -/
structure AddAt (n₀ : Nat) (W : World) (bx Ba Bb : Nat) (va vb : Value) (A : List (Int × Int)) (m : Int × Int) (B : List (Int × Int)) : Prop where
  ha : OutAt n₀ W Ba va A
  hb : OutAt n₀ W Bb vb B
  hx : Blk W bx [.int .i64 m.1, .int .i64 m.2] 24
  a1 : va.ownBlock ≠ some bx
  a2 : va.ownBlock ≠ some Bb
  b1 : vb.ownBlock ≠ some bx
  b2 : vb.ownBlock ≠ some Ba
  ab : ∀ g, va.ownBlock = some g → vb.ownBlock ≠ some g
  n1 : bx ≠ Ba
  n2 : bx ≠ Bb
  n3 : Ba ≠ Bb
  gx : n₀ ≤ bx
section
variable {n₀ : Nat} {W W' : World} {bx Ba Bb : Nat} {va vb v' : Value} {A B A' : List (Int × Int)} {m : Int × Int}
theorem AddAt.pushA (h : AddAt n₀ W bx Ba Bb va vb A m B) (hO : OutAt n₀ W' Ba v' A') (hU : Upd (outFp Ba va) W W') (hL : Later W va v') : AddAt n₀ W' bx Ba Bb v' vb A' m B where
  ha := hO
  hb := h.hb.upd hU (by simp only [outFp, List.mem_cons, not_or]; exact ⟨fun e => h.n3 e.symm, fun e => h.a2 (by simpa using e)⟩)
    (fun k hk => by simp only [outFp, List.mem_cons, not_or]; exact ⟨fun e => h.b2 (by rw [hk, e]), fun e => h.ab k (by simpa using e) hk⟩)
  hx := h.hx.upd hU (by simp only [outFp, List.mem_cons, not_or]; exact ⟨h.n1, fun e => h.a1 (by simpa using e)⟩)
  a1 := hL.ne h.hx.lt h.a1
  a2 := hL.ne h.hb.blk.lt h.a2
  b1 := h.b1
  b2 := h.b2
  ab := fun g hg hg2 => by
    rcases hL with e | ⟨g', e1, e2⟩
    · exact h.ab g (by rw [← e]; exact hg) hg2
    · have := h.hb.row.lt g hg2; rw [hg] at e1; simp at e1; omega
  n1 := h.n1
  n2 := h.n2
  n3 := h.n3
  gx := h.gx
theorem AddAt.pushB (h : AddAt n₀ W bx Ba Bb va vb A m B) (hO : OutAt n₀ W' Bb v' A') (hU : Upd (outFp Bb vb) W W') (hL : Later W vb v') : AddAt n₀ W' bx Ba Bb va v' A m A' where
  hb := hO
  ha := h.ha.upd hU (by simp only [outFp, List.mem_cons, not_or]; exact ⟨fun e => h.n3 e, fun e => h.b2 (by simpa using e)⟩)
    (fun k hk => by simp only [outFp, List.mem_cons, not_or]; exact ⟨fun e => h.a2 (by rw [hk, e]), fun e => h.ab k hk (by simpa using e)⟩)
  hx := h.hx.upd hU (by simp only [outFp, List.mem_cons, not_or]; exact ⟨h.n2, fun e => h.b1 (by simpa using e)⟩)
  b1 := hL.ne h.hx.lt h.b1
  b2 := hL.ne h.ha.blk.lt h.b2
  a1 := h.a1
  a2 := h.a2
  ab := fun g hg hg2 => by
    rcases hL with e | ⟨g', e1, e2⟩
    · exact h.ab g hg (by rw [← e]; exact hg2)
    · have := h.ha.row.lt g hg; rw [hg2] at e1; simp at e1; omega
  n1 := h.n1
  n2 := h.n2
  n3 := h.n3
  gx := h.gx
theorem AddAt.setX (h : AddAt n₀ W bx Ba Bb va vb A m B) (m' : Int × Int) (hx : Blk W' bx [.int .i64 m'.1, .int .i64 m'.2] 24) (hU : Upd [bx] W W') : AddAt n₀ W' bx Ba Bb va vb A m' B :=
  { h with
    ha := h.ha.upd hU (by simp; exact fun e => h.n1 e.symm) (fun k hk => by simp; intro e; exact h.a1 (by rw [hk, e]))
    hb := h.hb.upd hU (by simp; exact fun e => h.n2 e.symm) (fun k hk => by simp; intro e; exact h.b1 (by rw [hk, e]))
    hx := hx }
theorem AddAt.own {Bq : Nat} {row : Option Nat} (h : AddAt n₀ W bx Ba Bb va vb A m B) (hg : W.grownBy W' row) (hr : ∀ r, row = some r → Bq ≤ r ∧ ∃ o : Obj, W.heap[r]? = some o ∧ o.isCells = false) : AddAt n₀ W' bx Ba Bb va vb A m B :=
  { h with
    ha := OutAt.own_from _ _ _ _ _ () W W' row h.ha hg hr
    hb := OutAt.own_from _ _ _ _ _ () W W' row h.hb hg hr
    hx := blk_own _ _ (fun (_ : Unit) => _) _ () W W' row h.hx hg hr }
end
def AddRel (n₀ bx Ba Bb : Nat) (x : Int × Int) (pre : List (Int × Int)) (W : World) : Prop := ∃ va vb A m B, Hid ((A, m, B) = pre.foldl addStep ([], x, [])) ∧ AddAt n₀ W bx Ba Bb va vb A m B
theorem addStep_len (l : List (Int × Int)) : ∀ (s : List (Int × Int) × (Int × Int) × List (Int × Int)), (l.foldl addStep s).1.length + (l.foldl addStep s).2.2.length ≤ s.1.length + s.2.2.length + l.length := by
  induction l with
  | nil => intro s; simp
  | cons y l ih =>
    intro s
    rw [List.foldl_cons]
    have := ih (addStep s y)
    have h2 : (addStep s y).1.length + (addStep s y).2.2.length ≤ s.1.length + s.2.2.length + 1 := by
      unfold addStep; split
      · simp; omega
      · split
        · simp; omega
        · simp
    rw [List.length_cons]; omega
set_option maxRecDepth 100000 in
set_option maxHeartbeats 4000000 in
theorem add_yes (b : Nat) (v : Value) (l : List (Int × Int)) (x : Int × Int) (w : World) (hS : SetW w b v l) (hl : l.length ≤ 900000) (hx : spanOk x = true) :
    Calls Try.prog 9 #[.pointer (some ⟨b, 0, none⟩), .agg #[.int .i64 x.1, .int .i64 x.2]] w fun e w' => e = .returned (.tuple #[]) ∧
      ∃ v', SetW w' b v' (addP l x) ∧ Upd [b] w w' ∧ (∀ g, v'.ownBlock = some g → w.heap.size ≤ g) := by
  have HA : Hid (addP l x = (l.foldl addStep ([], x, [])).1 ++ [(l.foldl addStep ([], x, [])).2.1] ++ (l.foldl addStep ([], x, [])).2.2) := Lib.hid (by unfold addP; rw [if_pos hx])
  have HX := Lib.hid hx
  have HS := Lib.hid hS
  clear hx hS
  obtain ⟨i0, hi, hz0, hz1, hz2⟩ := info_parts infoSpan
  refine (callsIn_wide (n := 9)).1 ?_
  refine callsIn_of_wp_marks Try.func9 rfl trivial ?_ rfl
  simp only [Try.ntmps9, List.size_toArray, List.length_cons, List.length_nil, Nat.reduceAdd, Nat.reduceSub, Array.replicate_succ, Array.replicate_zero, List.push_toArray, List.append_toArray, List.nil_append, List.cons_append]
  gi_wp2_with fail
  refine ⟨trivial, (callsIn_wide.2 (right_any _ _ _)).mono ?_⟩
  rintro e w1 ⟨rfl, hU1⟩
  rw [HX.out]
  have hbx := (Blk.new w [.int .i64 x.1, .int .i64 x.2] 24).upd hU1 (by simp)
  have hU01 : Upd [] w w1 := ((Upd.refl [] w).alloc _).then hU1
  have hz1' : w.heap.size < w1.heap.size := by have := hU1.size; simp at this; omega
  have HBX := Lib.hid hbx
  clear hbx
  gi_wp2_with fail
  refine ⟨trivial, (callsIn_wide.2 (all_any _ _)).mono ?_⟩
  rintro e w5 ⟨rfl, rfl⟩
  gi_wp2_with fail
  have hA0 : AddAt w.heap.size (((w1.alloc (.cells #[.slice none 0 0] 34)).alloc (.cells #[.slice none 0 0] 34)).alloc (.cells #[.pointer (some ⟨b, 0, none⟩)] 27)) w.heap.size w1.heap.size (w1.heap.size + 1) (.slice none 0 0) (.slice none 0 0) [] x [] :=
    ⟨⟨((Blk.new w1 [.slice none 0 0] _).alloc _).alloc _, Row.nil _ _ _, by simp [Value.ownBlock], by omega⟩,
      ⟨by have := (Blk.new (w1.alloc (.cells #[.slice none 0 0] 34)) [.slice none 0 0] 34).alloc (.cells #[.pointer (some ⟨b, 0, none⟩)] 27); simpa using this, Row.nil _ _ _, by simp [Value.ownBlock], by omega⟩,
      ((HBX.out.alloc _).alloc _).alloc _, by simp [Value.ownBlock], by simp [Value.ownBlock], by simp [Value.ownBlock], by simp [Value.ownBlock], by simp [Value.ownBlock], by omega, by omega, by omega, by omega⟩
  have hS0 : Blk (((w1.alloc (.cells #[.slice none 0 0] 34)).alloc (.cells #[.slice none 0 0] 34)).alloc (.cells #[.pointer (some ⟨b, 0, none⟩)] 27)) (w1.heap.size + 1 + 1) [.pointer (some ⟨b, 0, none⟩)] 27 := by
    have := Blk.new ((w1.alloc (.cells #[.slice none 0 0] 34)).alloc (.cells #[.slice none 0 0] 34)) [.pointer (some ⟨b, 0, none⟩)] 27
    simpa using this
  have hU0 := ((hU01.alloc (.cells #[.slice none 0 0] 34)).alloc (.cells #[.slice none 0 0] 34)).alloc (.cells #[.pointer (some ⟨b, 0, none⟩)] 27)
  have hz0' : (((w1.alloc (.cells #[.slice none 0 0] 34)).alloc (.cells #[.slice none 0 0] 34)).alloc (.cells #[.pointer (some ⟨b, 0, none⟩)] 27)).heap.size = w1.heap.size + 3 := by simp
  revert hA0 hS0 hU0 hz0'
  generalize ((w1.alloc (.cells #[.slice none 0 0] 34)).alloc (.cells #[.slice none 0 0] 34)).alloc (.cells #[.pointer (some ⟨b, 0, none⟩)] 27) = W0
  intro hA0 hS0 hU0 hz0'
  have hSet0 : SetIn w.heap.size W0 (some ⟨b, 0, none⟩) l := (HS.out.inn (by omega)).below hU0.below
  refine loopSet (w1.heap.size + 1 + 1) w.heap.size (some ⟨b, 0, none⟩) l rfl rfl (by omega) (hS0.cell 0 rfl) hSet0
    (fun pre W => AddRel w.heap.size w.heap.size w1.heap.size (w1.heap.size + 1) x pre W ∧ Upd [] w W)
    (fun _ _ _ => False) ?own (fun _ _ _ _ _ hs _ _ => hs) ⟨⟨_, _, _, _, _, Lib.hid rfl, hA0⟩, hU0⟩ ?act
    (fun Bx W => ∃ va vb, Blk W w1.heap.size [va] 34 ∧ va.ownBlock ≠ some Bx ∧ Blk W (w1.heap.size + 1) [vb] 34 ∧ vb.ownBlock ≠ some Bx) ?X ?X0 ?assign ?body ?done ?stop
  case assign =>
    intro L y Bx W K hBx hK
    gi_wp2
    rw [← hBx]
    exact hK
  case own =>
    intro s A B row hs hg hr
    obtain ⟨⟨va, vb, A', m, B', h0, h1⟩, h5⟩ := hs
    exact ⟨⟨va, vb, A', m, B', h0, h1.own hg hr⟩, upd_own _ _ _ (by omega) () A B row h5 hg hr⟩
  case X =>
    intro Bx s A B row hs hg hr
    obtain ⟨va, vb, h1, h2, h3, h4⟩ := hs
    exact ⟨va, vb, blk_own _ _ (fun (_ : Unit) => _) _ () A B row h1 hg hr, h2, blk_own _ _ (fun (_ : Unit) => _) _ () A B row h3 hg hr, h4⟩
  case X0 =>
    rintro pre y W ⟨⟨va, vb, A', m, B', h0, h1⟩, _⟩ hsz
    exact ⟨va, vb, h1.ha.blk.alloc _, (fun e => by have := h1.ha.row.lt _ e; omega), h1.hb.blk.alloc _, (fun e => by have := h1.hb.row.lt _ e; omega)⟩
  case body =>
    rintro L pre y Bx W hBx hsz hy hpre hbx ⟨va', vb', hva, hna, hvb, hnb⟩ ⟨⟨va, vb, A, m, B, HE, hA⟩, hUW⟩ hlt
    obtain rfl : va' = va := Blk.inj1 hva hA.ha.blk
    obtain rfl : vb' = vb := Blk.inj1 hvb hA.hb.blk
    clear hva hvb hpre
    have hlen := addStep_len pre ([], x, [])
    rw [← HE.out] at hlen
    simp only [List.length_nil] at hlen
    have y0 := hbx.cell 0 rfl
    have y1 := hbx.cell 1 rfl
    have x0 := hA.hx.cell 0 rfl
    have x1 := hA.hx.cell 1 rfl
    have x2 := hA.hx.frz 0
    have x3 := hA.hx.frz 1
    have hs1 := hUW.size
    have ca := hA.ha.blk.cell 0 rfl
    have fa := hA.ha.blk.frz 0
    have cb := hA.hb.blk.cell 0 rfl
    have fb := hA.hb.blk.frz 0
    have step : ∀ s, addStep (A, m, B) y = s → Hid (s = (pre ++ [y]).foldl addStep ([], x, [])) := fun s hs => Lib.hid (by rw [List.foldl_append, ← HE.out]; exact hs.symm)
    by_cases h1 : y.2 < m.1
    · have HST := step (A ++ [y], m, B) (by unfold addStep; rw [if_pos h1])
      obtain ⟨ra, rc, rfl⟩ := hA.ha.row.form
      have HA := Lib.hid hA
      clear hA step
      gi_wp2_with (gi_at_builtin; refine wpListIn_app _ rfl _ _ 34 rfl 24 i0 _ 2 16 Try.underlying34 hi hz0 hz1 hz2 rfl (by omega) (.slice ra A.length rc) A.length _ rfl (HA.out.ha.row.alloc _) ⟨W.heap.size, 0, none⟩ 1 1 [.int .i64 y.1, .int .i64 y.2] rfl rfl (World.news_of_block (cs := #[.int .i64 y.1, .int .i64 y.2]) (t := 24) (fr := (0, 0)) (heap_alloc_new _ _)) (by simp [Value.oneCell']) (by unfold maxLen; omega) (by omega) ?_)
      rintro v9 w9 hR9 hU9 hT9
      obtain ⟨va9, vc9, rfl⟩ := hR9.form
      have hne : (Value.slice ra A.length rc).ownBlock ≠ some w1.heap.size := fun e => (HA.out.ha.own _ e).2 rfl
      have hB9 := (HA.out.ha.blk.alloc (Obj.cells #[.int .i64 y.1, .int .i64 y.2] 24)).upd hU9 (by simpa using hne)
      have k9 := hB9.cell 0 rfl
      have f9 := hB9.frz 0
      gi_wp2
      obtain ⟨p1, p2, p3⟩ := HA.out.ha.push (x := y) ((Upd.refl _ _).alloc _) hR9 hU9 hT9
      refine ⟨HA.out.ha.keeps p2 _, HA.out.ha.below p2, ⟨_, _, _, _, _, HST, HA.out.pushA p1 p2 p3⟩, hUW.trans p2 (fun k hk => ?_)⟩
      simp only [outFp, List.mem_cons] at hk
      rcases hk with rfl | hk
      · right; omega
      · right; exact (HA.out.ha.own k (by simpa using hk)).1
    · by_cases h2 : m.2 < y.1
      · have HST := step (A, m, B ++ [y]) (by unfold addStep; rw [if_neg h1, if_pos h2])
        obtain ⟨ra, rc, rfl⟩ := hA.hb.row.form
        have HA := Lib.hid hA
        clear hA step
        gi_wp2_with (gi_at_builtin; refine wpListIn_app _ rfl _ _ 34 rfl 24 i0 _ 2 16 Try.underlying34 hi hz0 hz1 hz2 rfl (by omega) (.slice ra B.length rc) B.length _ rfl (HA.out.hb.row.alloc _) ⟨W.heap.size, 0, none⟩ 1 1 [.int .i64 y.1, .int .i64 y.2] rfl rfl (World.news_of_block (cs := #[.int .i64 y.1, .int .i64 y.2]) (t := 24) (fr := (0, 0)) (heap_alloc_new _ _)) (by simp [Value.oneCell']) (by unfold maxLen; omega) (by omega) ?_)
        rintro v9 w9 hR9 hU9 hT9
        obtain ⟨va9, vc9, rfl⟩ := hR9.form
        have hne : (Value.slice ra B.length rc).ownBlock ≠ some (w1.heap.size + 1) := fun e => (HA.out.hb.own _ e).2 rfl
        have hB9 := (HA.out.hb.blk.alloc (Obj.cells #[.int .i64 y.1, .int .i64 y.2] 24)).upd hU9 (by simpa using hne)
        have k9 := hB9.cell 0 rfl
        have f9 := hB9.frz 0
        gi_wp2
        obtain ⟨p1, p2, p3⟩ := HA.out.hb.push (x := y) ((Upd.refl _ _).alloc _) hR9 hU9 hT9
        refine ⟨HA.out.hb.keeps p2 _, HA.out.hb.below p2, ⟨_, _, _, _, _, HST, HA.out.pushB p1 p2 p3⟩, hUW.trans p2 (fun k hk => ?_)⟩
        simp only [outFp, List.mem_cons] at hk
        rcases hk with rfl | hk
        · right; omega
        · right; exact (HA.out.hb.own k (by simpa using hk)).1
      · have HST := step (A, (min m.1 y.1, max m.2 y.2), B) (by unfold addStep; rw [if_neg h1, if_neg h2])
        have HA := Lib.hid hA
        clear hA step
        gi_wp2
        have hbk := (HA.out.hx.set 0 (.int .i64 (min m.1 y.1))).set 1 (.int .i64 (max m.2 y.2))
        have hup : Upd [w.heap.size] W ((W.setCell ⟨w.heap.size, 0, none⟩ (.int .i64 (min m.1 y.1))).setCell ⟨w.heap.size, 1, none⟩ (.int .i64 (max m.2 y.2))) := ((Upd.refl _ _).setCell (.inl (by simp)) _).setCell (.inl (by simp)) _
        refine ⟨hup.keeps (fun k hk _ => by simp at hk; subst hk; exact HA.out.hx.isc), hup.below' (by omega) (fun k hk => by simp at hk; omega), ⟨_, _, _, _, _, HST, HA.out.setX (min m.1 y.1, max m.2 y.2) hbk hup⟩, hUW.trans hup (fun k hk => by simp at hk; right; omega)⟩
  case done =>
    rintro D W hD ⟨⟨va, vb, A, m, B, HE, hA⟩, hUW⟩ hK
    have hlen := addStep_len l ([], x, [])
    rw [← HE.out] at hlen
    simp only [List.length_nil] at hlen
    have hAB : addP l x = A ++ [m] ++ B := by rw [HA.out, ← HE.out]
    have HAB := Lib.hid hAB
    clear hAB
    have hSW := HS.out.pure hUW
    have hs1 := hUW.size
    have x0 := hA.hx.cell 0 rfl
    have x1 := hA.hx.cell 1 rfl
    have ca := hA.ha.blk.cell 0 rfl
    have cb := hA.hb.blk.cell 0 rfl
    obtain ⟨ra, rca, rfl⟩ := hA.ha.row.form
    obtain ⟨rb, rcb, rfl⟩ := hA.hb.row.form
    have cb2 := (hA.hb.blk.alloc (.cells #[.int .i64 m.1, .int .i64 m.2] 24)).cell 0 rfl
    have hm1 := Row.new W [.int .i64 m.1, .int .i64 m.2] 24 1 2 (by unfold maxLen; omega) rfl
    have hU2 : Upd [] W ((W.alloc (.cells #[.int .i64 m.1, .int .i64 m.2] 24)).alloc (.cells #[.slice ra A.length rca, .slice (some ⟨W.heap.size, 0, none⟩) 1 1, .slice rb B.length rcb] 34)) := ((Upd.refl _ _).alloc _).alloc _
    have hBl := Blk.new (W.alloc (.cells #[.int .i64 m.1, .int .i64 m.2] 24)) [.slice ra A.length rca, .slice (some ⟨W.heap.size, 0, none⟩) 1 1, .slice rb B.length rcb] 34
    have hcc := concat_any _ [(.slice ra A.length rca, A), (.slice (some ⟨W.heap.size, 0, none⟩) 1 1, [m]), (.slice rb B.length rcb, B)] _ hBl (by
      intro q hq
      simp only [List.mem_cons, List.not_mem_nil, or_false] at hq
      rcases hq with rfl | rfl | rfl
      · exact hA.ha.row.upd hU2 (by simp)
      · exact hm1.alloc _
      · exact hA.hb.row.upd hU2 (by simp)) (by simp [tot]; omega) (by simp)
    have hcat : cat [(.slice ra A.length rca, A), (.slice (some ⟨W.heap.size, 0, none⟩) 1 1, [m]), (.slice rb B.length rcb, B)] = A ++ [m] ++ B := by simp [cat]
    rw [hcat] at hcc
    simp only [List.length_cons, List.length_nil, Nat.reduceAdd, World.size_alloc] at hcc
    have hbl := HS.out.blk.lt
    have HCC := Lib.hid hcc
    have HA' := Lib.hid hA
    clear hcc hA hBl hm1 hcat hU2
    gi_wp2_with fail
    refine ⟨trivial, (callsIn_wide.2 HCC.out).mono ?_⟩
    rintro e W2 ⟨v2, rfl, hR2, hU2, hg2⟩
    have hUA : Upd [] W W2 := (((Upd.refl [] W).alloc _).alloc _).then hU2
    have hSW2 := hSW.pure hUA
    have s0 := hSW2.blk.cell 0 rfl
    have s1 := hSW2.blk.frz 0
    have hs2 := hUA.size
    have hK2 := (hUA.block D (Array.getElem?_eq_some_iff.1 hK).1 (by simp)).trans hK
    simp only [List.length_append, List.length_cons, List.length_nil, Nat.zero_add, Nat.reduceAdd] at hR2
    obtain ⟨q, hq⟩ : ∃ q, A.length + 1 + B.length = q := ⟨_, rfl⟩
    have hql : (A ++ [m] ++ B).length = q := by simp; omega
    rw [hq] at hR2
    obtain ⟨va2, vc2, rfl⟩ := hR2.form
    have hK' := (KeepsOthers.setCell W2 ⟨b, 0, none⟩ (.slice va2 q vc2)).same D _ hK2 rfl
    have HK := Lib.hid hK'
    have HR2 := Lib.hid hR2
    have HQ := Lib.hid hql
    have hgg : ∀ g, (Value.slice va2 q vc2).ownBlock = some g → w.heap.size ≤ g := fun g hg => by
      have := hg2 g hg; omega
    have HG := Lib.hid hgg
    clear hK' hK hK2 hR2 hq hql hgg hg2 hU2 x0 x1 ca cb hlen
    gi_wp2
    refine ⟨by simp, .inl ⟨_, _, rfl, run_takeDeferred HK.out, ?_⟩⟩
    rw [HAB.out]
    refine ⟨_, results_none rfl _ _ _, rfl, .slice va2 q vc2, ⟨?_, ?_, ?_⟩, ?_, HG.out⟩
    · exact (hSW2.blk.set 0 _).putObj HK.out rfl _
    · have hfar : (Value.slice va2 q vc2).ownBlock ≠ some b := fun e => by have := HG.out b e; omega
      rw [HQ.out]
      exact (HR2.out.setFar (a := ⟨b, 0, none⟩) _ hfar).putObj HK.out rfl _
    · intro e; have := HG.out b e; omega
    · exact (((hUW.then hUA).mono (by simp)).setCell (.inl (by simp)) _).putObj (by omega) _
  case stop =>
    intro D c pre W _ _ h _
    exact h.elim
end Go.Proofs.Ytibmhadnfggmlaa

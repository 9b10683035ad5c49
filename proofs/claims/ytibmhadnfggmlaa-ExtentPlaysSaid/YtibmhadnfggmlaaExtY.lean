/- The law swinglelaw24.ExtentPlays: its walk. -/
import Derived.Test.YtibmhadnfggmlaaExtN
import Derived.Test.YtibmhadnfggmlaaExtS
import Derived.Test.YtibmhadnfggmlaaHeld
import Derived.Test.YtibmhadnfggmlaaFnEq
namespace Go.Proofs.Ytibmhadnfggmlaa
open Go.RowKit Go.Shelf
attribute [local go_sem] Oper.semAt_some
set_option linter.unusedVariables false
set_option linter.unusedSimpArgs false

/-- Steps that came in, cell by cell. -/
def StepsIn (w : World) (a : Option Addr) (len : Nat) (st : Nat → (Int × Int) × Bool) : Prop :=
  ∀ i, i < len → ∃ b off, a = some ⟨b, off, none⟩ ∧ w.cell? ⟨b, off + i * 3, none⟩ = some (.int .i64 (st i).1.1) ∧ w.cell? ⟨b, off + i * 3 + 1, none⟩ = some (.int .i64 (st i).1.2) ∧ w.cell? ⟨b, off + i * 3 + 2, none⟩ = some (.bool (st i).2)
theorem StepsIn.upd {w wr : World} {a : Option Addr} {len : Nat} {f : Nat → (Int × Int) × Bool} (h : StepsIn w a len f) (hU : Upd [] w wr) : StepsIn wr a len f := fun i hi => by
  obtain ⟨b, off, rfl, c0, c1, c2⟩ := h i hi
  have hb : b < w.heap.size := World.block_lt_of_cell? w _ c0
  exact ⟨b, off, rfl, (hU.at hb (by simp) _).trans c0, (hU.at hb (by simp) _).trans c1, (hU.at hb (by simp) _).trans c2⟩
def BRow (w : World) (g : Nat) (B : List Bool) : Prop := Row w 4 1 (.slice (some ⟨g, 0, none⟩) 201 201) 201 (B.map Value.bool)
theorem BRow.set {w : World} {g : Nat} {B : List Bool} (h : BRow w g B) (i : Nat) (b : Bool) : BRow (w.setCell ⟨g, i, none⟩ (.bool b)) g (B.set i b) := by
  unfold BRow at *; rw [List.map_set]; exact Row.set h i _
theorem BRow.upd {w w' : World} {g : Nat} {B : List Bool} {fp : List Nat} (h : BRow w g B) (hU : Upd fp w w') (hn : g ∉ fp) : BRow w' g B := Row.upd h hU (fun k hk => by simp [Value.ownBlock] at hk; subst hk; exact hn)
theorem BRow.lt {w : World} {g : Nat} {B : List Bool} (h : BRow w g B) : g < w.heap.size := Row.lt h g rfl
theorem BRow.cell {w : World} {g : Nat} {B : List Bool} (h : BRow w g B) (i : Nat) {b : Bool} (hb : B[i]? = some b) : w.cell? ⟨g, i, none⟩ = some (.bool b) := Row.cell h i (by rw [List.getElem?_map, hb]; rfl)
theorem BRow.frz {w : World} {g : Nat} {B : List Bool} (h : BRow w g B) (i : Nat) : w.frozen? ⟨g, i, none⟩ = false := Row.frz h i
/-- The set that is played on, and the places that are in it. -/
structure PL (w W : World) (bs : Nat) (v : Value) (L : List (Int × Int)) (g : Nat) (B : List Bool) : Prop where
  set : NewSet w W bs v L
  row : BRow W g B
  gg : w.heap.size ≤ g
  ne : g ≠ bs
  vg : v.ownBlock ≠ some g
theorem PL.pure {w W W' : World} {bs : Nat} {v : Value} {L : List (Int × Int)} {g : Nat} {B : List Bool} (h : PL w W bs v L g B) (hU : Upd [] W W') : PL w W' bs v L g B :=
  ⟨h.set.pure hU, h.row.upd hU (by simp), h.gg, h.ne, h.vg⟩
theorem PL.stepS {w W W' : World} {bs : Nat} {v v' : Value} {L L' : List (Int × Int)} {g : Nat} {B : List Bool} (h : PL w W bs v L g B) (hS : SetW W' bs v' L') (hU : Upd [bs] W W') (hN : Nw W v v') : PL w W' bs v' L' g B :=
  ⟨h.set.step hS hU hN, h.row.upd hU (by simp; exact h.ne), h.gg, h.ne, fun e => by
    rcases hN g e with h1 | h1
    · exact h.vg h1
    · have := h.row.lt; omega⟩
theorem PL.stepB {w W : World} {bs : Nat} {v : Value} {L : List (Int × Int)} {g : Nat} {B : List Bool} (h : PL w W bs v L g B) (i : Nat) (b : Bool) : PL w (W.setCell ⟨g, i, none⟩ (.bool b)) bs v L g (B.set i b) :=
  have hU : Upd [g] W (W.setCell ⟨g, i, none⟩ (.bool b)) := (Upd.refl _ _).setCell (.inl (by simp)) _
  ⟨⟨h.set.set.upd hU (by simp; exact fun e => h.ne e.symm) (fun k hk => by simp; intro e; exact h.vg (by rw [hk, e])), h.set.up.trans hU (fun k hk => by simp at hk; right; rw [hk]; exact h.gg), h.set.gb, h.set.gv⟩, h.row.set i b, h.gg, h.ne, h.vg⟩

theorem PL.far {w W W' : World} {bs : Nat} {v : Value} {L : List (Int × Int)} {g h : Nat} {B : List Bool} (hp : PL w W bs v L g B) (hU : Upd [h] W W') (h1 : h ≠ bs) (h2 : h ≠ g) (h3 : v.ownBlock ≠ some h) (h4 : w.heap.size ≤ h) : PL w W' bs v L g B :=
  ⟨⟨hp.set.set.upd hU (by simp; exact fun e => h1 e.symm) (fun k hk => by simp; intro e; exact h3 (by rw [hk, e])), hp.set.up.trans hU (fun k hk => by simp at hk; right; omega), hp.set.gb, hp.set.gv⟩, hp.row.upd hU (by simp; exact fun e => h2 e.symm), hp.gg, hp.ne, hp.vg⟩
/-- A part of a function that leaves with a mark, which doesn't panic. -/
theorem wp_calmM {P : Program} {c : Code} {K : Act → World → Prop} {Q : Exit → Act → World → Prop} {a : Act} {w : World} (h : c.wp P (Exit.then K fun _ _ _ => False) a w) : c.wp P (Exit.then K Q) a w :=
  Code.wp_mono (fun e a w h => by cases e <;> first | exact h | exact h.elim) h
theorem inBlock_two {id : Nat} {R : Exit → Act → World → Prop} {e : Exit} {a : Act} {W : World} (he : e = .normal ∨ e = .exit id) (h : Exit.inBlock id R .normal a W) : Exit.inBlock id R e a W := by
  rcases he with rfl | rfl
  · exact h
  · simpa [Exit.inBlock] using h
theorem wp_act {P : Program} {c : Code} {Q : Exit → Act → World → Prop} {a : Act} {w : World} (h : ∀ fr, fr = a → c.wp P Q fr w) : c.wp P Q a w := h a rfl
theorem Row.takeRow {w : World} {e : TypeId} {size : Nat} {a : Option Addr} {n c : Nat} {xs : List Value} (h : Row w e size (.slice a n c) n xs) (m : Nat) (hm : m ≤ n) : Row w e size (.slice a m c) m (xs.take (m * size)) := by
  refine ⟨by rw [List.length_take, h.1]; exact Nat.min_eq_left (Nat.mul_le_mul_right _ hm), ?_⟩
  rcases h.2 with ⟨h1, h2⟩ | ⟨g, cap, cur, h1, hb, hg, hc, hcm, hcs, ht⟩
  · cases h1
    obtain rfl : m = 0 := by omega
    exact .inl ⟨rfl, rfl⟩
  · cases h1
    refine .inr ⟨g, c, cur, rfl, hb, hg, by omega, hcm, hcs, ?_⟩
    rw [← ht, List.take_take, Nat.min_eq_left (Nat.mul_le_mul_right _ hm)]
theorem flat_take (l : List (Int × Int)) (m : Nat) (hm : m ≤ l.length) : (flat l).take (m * 2) = flat (l.take m) := by
  conv => lhs; rw [← List.take_append_drop m l, flat_append]
  rw [List.take_append_of_le_length (by rw [flat_len, List.length_take, Nat.min_eq_left hm]; exact Nat.le_refl _), List.take_of_length_le (by rw [flat_len, List.length_take, Nat.min_eq_left hm]; exact Nat.le_refl _)]
theorem infoBool : (Try.prog.info? 4).map (fun i => (i.zero, i.size, i.bytes)) = some (some (.bool false), 1, 1) := by kernel_rfl

set_option maxRecDepth 100000 in
set_option maxHeartbeats 25600000 in
theorem plays_walk (a : Option Addr) (len cap : Nat) (st : Nat → (Int × Int) × Bool) (x : Int × Int) (t0 t1 : Int) (w : World) (hcap : cap ≤ 9223372036854775807) (hlc : len ≤ cap) (hin : StepsIn w a len st) :
    Calls Try.prog 3 #[.slice a len cap, .agg #[.int .i64 x.1, .int .i64 x.2], .agg #[.int .i64 t0, .int .i64 t1]] w fun e w' => e = .returned (.bool true) ∧ Upd [] w w' := by
  have HI := Lib.hid hin
  clear hin
  obtain ⟨i0, hi, hz0, hz1, hz2⟩ := info_parts infoBool
  refine (callsIn_wide (n := 9)).1 ?_
  refine callsIn_of_wp_marks Try.func3 rfl trivial ?_ rfl
  simp only [Try.ntmps3, List.size_toArray, List.length_cons, List.length_nil, Nat.reduceAdd, Nat.reduceSub, Array.replicate_succ, Array.replicate_zero, List.push_toArray, List.append_toArray, List.nil_append, List.cons_append]
  refine wpIn_wide.2 ?_
  let QQ : Exit → Act → World → Prop := bodyPost Try.prog Try.f3 (fun _ _ => True)
  go_upto_region 1 with fail
  have hX := (Blk.new w [.int .i64 x.1, .int .i64 x.2] 24).alloc (.cells #[.int .i64 t0, .int .i64 t1] 25)
  have hT := Blk.new (w.alloc (.cells #[.int .i64 x.1, .int .i64 x.2] 24)) [.int .i64 t0, .int .i64 t1] 25
  have hU1 : Upd [] w ((w.alloc (.cells #[.int .i64 x.1, .int .i64 x.2] 24)).alloc (.cells #[.int .i64 t0, .int .i64 t1] 25)) := ((Upd.refl [] w).alloc _).alloc _
  rw [World.size_alloc] at hT
  have HX := Lib.hid hX
  have HT := Lib.hid hT
  have HU1 := Lib.hid hU1
  clear hX hT hU1
  change Code.wp _ _ _ _ ((w.alloc (.cells #[.int .i64 x.1, .int .i64 x.2] 24)).alloc (.cells #[.int .i64 t0, .int .i64 t1] 25))
  generalize (w.alloc (.cells #[.int .i64 x.1, .int .i64 x.2] 24)).alloc (.cells #[.int .i64 t0, .int .i64 t1] 25) = w1 at *
  obtain ⟨M, hM⟩ : ∃ M, max t1 0 = M := ⟨_, rfl⟩
  have hM0 : 0 ≤ M := by omega
  have HM := Lib.hid hM
  clear hM
  go_cut [7, 8] (fun s7 s8 w2 => s7 = .int .i64 t0 ∧ s8 = .pointer (some ⟨w1.heap.size, 0, none⟩) ∧ Blk w2 w1.heap.size [.int .i64 M] 3 ∧ Upd [] w1 w2)
  case first =>
    refine wp_calmM ?_
    refine wp_region_held_drew (S := fun w' => Upd [] w1 w') (by kernel_rfl) (Upd.refl _ _).drew (fun hHeld => ?_)
    change wpAnyH _ _ _ _ _ 8 #[false, false, false, false, false, false, false, false] _ _
    refine heldTake (i := 0) (d := some 23) (v := ?v0_1) rfl rfl (by kernel_rfl) (by kernel_rfl) (by kernel_rfl) (fun _ _ _ h => h) (by rfl) ?hy0_1 (by assumption) ?r0_1
    case hy0_1 => (intro w hSw; (try dsimp only at hSw); go_simp; try with_reducible rfl)
    try simp only [Act.put, List.setIfInBounds_toArray, List.set_cons_zero, List.set_cons_succ]
    change wpAnyH _ _ _ _ _ 7 #[true, false, false, false, false, false, false, false] _ _
    refine heldTake (i := 1) (d := some 24) (v := ?v1_2) rfl rfl (by kernel_rfl) (by kernel_rfl) (by kernel_rfl) (fun _ _ _ h => h) (by rfl) ?hy1_2 (by assumption) ?r1_2
    case hy1_2 => (intro w hSw; have q0 := (HT.out.upd hSw (by simp)).cell 0 rfl; have q1 := (HT.out.upd hSw (by simp)).cell 1 rfl; go_simp; try with_reducible rfl)
    try simp only [Act.put, List.setIfInBounds_toArray, List.set_cons_zero, List.set_cons_succ]
    change wpAnyH _ _ _ _ _ 6 #[true, true, false, false, false, false, false, false] _ _
    refine heldTake (i := 2) (d := some 25) (v := ?v2_3) rfl rfl (by kernel_rfl) (by kernel_rfl) (by kernel_rfl) (fun _ _ _ h => h) (by rfl) ?hy2_3 (by assumption) ?r2_3
    case hy2_3 => (intro w hSw; (try dsimp only at hSw); go_simp; try with_reducible rfl)
    try simp only [Act.put, List.setIfInBounds_toArray, List.set_cons_zero, List.set_cons_succ]
    change wpAnyH _ _ _ _ _ 5 #[true, true, true, false, false, false, false, false] _ _
    refine heldTake (i := 3) (d := some 26) (v := ?v3_4) rfl rfl (by kernel_rfl) (by kernel_rfl) (by kernel_rfl) (fun _ _ _ h => h) (by rfl) ?hy3_4 (by assumption) ?r3_4
    case hy3_4 => (intro w hSw; have q0 := (HT.out.upd hSw (by simp)).cell 0 rfl; have q1 := (HT.out.upd hSw (by simp)).cell 1 rfl; go_simp; try with_reducible rfl)
    try simp only [Act.put, List.setIfInBounds_toArray, List.set_cons_zero, List.set_cons_succ]
    change wpAnyH _ _ _ _ _ 4 #[true, true, true, true, false, false, false, false] _ _
    refine heldTake (i := 4) (d := some 27) (v := (.int .i64 M)) rfl rfl (by kernel_rfl) (by kernel_rfl) (by kernel_rfl) (fun _ _ _ h => h) (by rfl) ?hy4_5 (by assumption) ?r4_5
    case hy4_5 => (intro w hSw; go_simp; try rw [HM.out])
    try simp only [Act.put, List.setIfInBounds_toArray, List.set_cons_zero, List.set_cons_succ]
    change wpAnyH _ _ _ _ _ 3 #[true, true, true, true, true, false, false, false] _ _
    refine wpAnyH_ready (rs := [5]) (by kernel_rfl) (by simp) ?_
    refine AllReadyH.cons rfl (fun K hK => ?_) AllReadyH.nil
    go_simp
    have HMN := Blk.new w1.drew [.int .i64 0] 3
    have m0 := HMN.cell 0 rfl
    have m1 := HMN.frz 0
    have hS5 := hHeld.alloc (.cells #[.int .i64 0] 3)
    refine hK.out _ _ hS5 (fun hHeld => ?_)
    clear hK K
    try simp only [Act.put, List.setIfInBounds_toArray, List.set_cons_zero, List.set_cons_succ]
    change wpAnyH _ _ _ _ _ 2 #[true, true, true, true, true, true, false, false] _ _
    refine heldTake (i := 6) (d := some 7) (v := ?v6_7) rfl rfl (by kernel_rfl) (by kernel_rfl) (by kernel_rfl) (fun _ _ _ h => h) (by rfl) ?hy6_7 (by assumption) ?r6_7
    case hy6_7 => (intro w hSw; (try dsimp only at hSw); go_simp; try with_reducible rfl)
    try simp only [Act.put, List.setIfInBounds_toArray, List.set_cons_zero, List.set_cons_succ]
    change wpAnyH _ _ _ _ _ 1 #[true, true, true, true, true, true, true, false] _ _
    refine wpAnyH_ready (rs := [7]) (by kernel_rfl) (by simp) ?_
    refine AllReadyH.cons rfl (fun K hK => ?_) AllReadyH.nil
    go_simp
    have hS7 := ((Upd.refl [] w1).alloc (.cells #[.int .i64 M] 3)).drew
    refine hK.out _ _ hS7 (fun hHeld => ?_)
    clear hK K
    try simp only [Act.put, List.setIfInBounds_toArray, List.set_cons_zero, List.set_cons_succ]
    change wpAnyH _ _ _ _ _ 0 #[true, true, true, true, true, true, true, true] _ _
    refine wpAnyH_done (by kernel_rfl) ?_ 0
    go_wp2
    go_meet
    exact ⟨rfl, rfl, (Blk.new w1 [.int .i64 M] 3).drew, hS7⟩
  case rest =>
    obtain ⟨rfl, rfl, hMB, hU12⟩ := hcut
    have HXr := Lib.hid (HX.out.upd hU12 (by simp))
    have HMB := Lib.hid hMB
    have HUr := Lib.hid (HU1.out.then hU12)
    clear HX HT HU1 hMB hU12 HM
    by_cases hbig : 30 < len ∨ 200 < x.2
    · have x1 := HXr.out.cell 1 rfl
      rcases (by omega : (30 < (len : Int)) ∨ ((len : Int) ≤ 30 ∧ 200 < x.2)) with hq | ⟨hq, hq2⟩
      all_goals
        clear hbig
        go_wp2_with fail
        refine (lives24 _).mono ?_
        rintro e w' ⟨rfl, hU⟩
        go_wp2
        exact ⟨_, results_tmp rfl _ _ _, rfl, HUr.out.then hU⟩
    · have hz : (len : Int) ≤ 30 := by omega
      have hx2 : x.2 ≤ 200 := by omega
      clear hbig
      have x1 := HXr.out.cell 1 rfl
      go_wp2_with fail
      generalize wc = w2 at *
      have hnew := new_any none 0 0 (fun _ => (0, 0)) w2 (by omega) (by omega) (by omega) (fun i hi => by omega)
      refine hnew.mono ?_
      rintro e w3 ⟨bs, v0, rfl, hN0⟩
      have hN : NewSet w2 w3 bs v0 [] := hN0
      have HN := Lib.hid hN
      clear hnew hN0 hN x1
      go_wp2_with (refine wpList_mk _ rfl _ _ 29 rfl 4 i0 _ Try.underlying29 hi hz0 hz1 rfl .i64 .i64 _ _ 201 rfl rfl rfl rfl (by rw [hz2]; omega) (by unfold maxLen; omega) ?_; intro w4 hR4 hU4 hs4)
      have hPL0 : PL w2 w4 bs v0 [] w3.heap.size (List.replicate 201 false) := ⟨HN.out.pure hU4, by unfold BRow; rw [List.map_replicate]; exact hR4, HN.out.up.size, by have := HN.out.set.blk.lt; omega, fun e => by have := HN.out.set.row.lt _ e; omega⟩
      have HPL0 := Lib.hid hPL0
      have HPI0 := Lib.hid playInv_nil
      clear hPL0 hR4 hU4 hs4 HN
      generalize w3.heap.size = gi at *
      generalize List.replicate 201 false = B0 at HPL0 HPI0
      go_loopg [41] len (fun g s41 wr => ∃ k : Nat, ∃ v L B, k ≤ len ∧ g = len - k ∧ s41 = .int .i64 (k : Nat) ∧ Hid (PlayInv L B k) ∧ Hid (PL w2 wr bs v L gi B))
      case atStart => exact ⟨0, v0, [], B0, by omega, rfl, rfl, HPI0, HPL0⟩
      case round =>
        obtain ⟨k, v, L, B, hk, rfl, rfl, HPI, HPL⟩ := hrel
        clear HPL0 HPI0
        by_cases hc : k < len
        · have hcz : (k : Int) < (len : Int) := by omega
          have hUwr := HUr.out.then HPL.out.set.up
          obtain ⟨b, off, rfl, c0, c1, c2⟩ := (HI.out.upd hUwr) k hc
          obtain ⟨s, hs⟩ : ∃ s, st k = s := ⟨_, rfl⟩
          rw [hs] at c0 c1 c2
          clear hs
          obtain ⟨⟨p1, p2⟩, c⟩ := s
          dsimp only at c0 c1 c2
          have HUwr := Lib.hid hUwr
          clear hUwr
          by_cases hp : p2 ≤ 200
          · go_upto_if 51 with fail
            have hPk := (HPL.out.pure ((Upd.refl [] wr).alloc (.cells #[.int .i64 p1, .int .i64 p2, .bool c] 31)))
            have hbp := Blk.new wr [.int .i64 p1, .int .i64 p2, .bool c] 31
            have HPk := Lib.hid hPk
            have HBP := Lib.hid hbp
            have hlt1 := HPL.out.row.lt
            have hlt2 := HPL.out.set.set.blk.lt
            have hLl := HPI.out.le
            clear hPk hbp c0 c1 c2 HPL HUwr
            change Code.wp _ _ _ _ (wr.alloc (.cells #[.int .i64 p1, .int .i64 p2, .bool c] 31))
            generalize wr.alloc (.cells #[.int .i64 p1, .int .i64 p2, .bool c] 31) = w5 at *
            obtain ⟨bp, hbpe⟩ : ∃ bp, wr.heap.size = bp := ⟨_, rfl⟩
            rw [hbpe] at HBP hlt1 hlt2 ⊢
            clear hbpe
            go_cut [] (fun w6 => ∃ v', Hid (PL w2 w6 bs v' (stepL L ((p1, p2), c)) gi B) ∧ Hid (Blk w6 bp [.int .i64 p1, .int .i64 p2, .bool c] 31))
            case first =>
              have d0 := HBP.out.cell 0 rfl
              have d1 := HBP.out.cell 1 rfl
              cases c with
              | true =>
                go_wp2_with fail
                refine (cut_any bs v L (p1, p2) _ HPk.out.set.set (by omega)).mono ?_
                rintro e w6 ⟨rfl, v', h1, h2, h3⟩
                go_wp2
                go_meet
                exact ⟨v', Lib.hid (HPk.out.stepS h1 h2 h3), Lib.hid (HBP.out.upd h2 (by simp; omega))⟩
              | false =>
                go_wp2_with fail
                refine (add_any bs v L (p1, p2) _ HPk.out.set.set (by omega)).mono ?_
                rintro e w6 ⟨rfl, v', h1, h2, h3⟩
                go_wp2
                go_meet
                exact ⟨v', Lib.hid (HPk.out.stepS h1 h2 h3), Lib.hid (HBP.out.upd h2 (by simp; omega))⟩
            case rest =>
              obtain ⟨v', HP6, HB6⟩ := hcut
              clear HPk HBP
              have hBl := HPI.out.len
              have HIL := Lib.hid (show (inStep ((p1, p2), c) B).length = B.length from inStep_len _ _)
              have HIG := Lib.hid (fun i (h : i < B.length) => inStep_get ((p1, p2), c) B i h)
              have HST := Lib.hid (HPI.out.step ((p1, p2), c) hp)
              obtain ⟨C, hC⟩ : ∃ C, inStep ((p1, p2), c) B = C := ⟨_, rfl⟩
              obtain ⟨L', hL'⟩ : ∃ L', stepL L ((p1, p2), c) = L' := ⟨_, rfl⟩
              rw [hC] at HIL HIG HST
              rw [hL'] at HST HP6
              have HBL := Lib.hid hBl
              clear hC hL' hBl HPI hLl
              go_wp2
              go_loopg [62] 201 (fun g s62 wr => ∃ i : Nat, i ≤ 201 ∧ g = 201 - i ∧ s62 = .int .i64 (i : Nat) ∧ Hid (PL w2 wr bs v' L' gi (mixG C B i)) ∧ Hid (Blk wr bp [.int .i64 p1, .int .i64 p2, .bool c] 31))
              case atStart => exact ⟨0, by omega, rfl, rfl, by rw [mixG_zero]; exact HP6, HB6⟩
              case round =>
                obtain ⟨i, hi2, rfl, rfl, HPi, HBi⟩ := hrel
                clear HP6 HB6
                by_cases hi3 : i < 201
                · have hi3z : (i : Int) < 201 := by omega
                  have d0 := HBi.out.cell 0 rfl
                  have d1 := HBi.out.cell 1 rfl
                  go_wp2_with fail
                  refine (in_any p1 p2 (i : Int) _).mono ?_
                  rintro e w7 ⟨rfl, hU7⟩
                  have HP7 := Lib.hid (HPi.out.pure hU7)
                  have HB7 := Lib.hid (HBi.out.upd hU7 (by simp))
                  have HMI : ∀ j, (mixG C B i)[j]? = if j < i then C[j]? else B[j]? := fun j => mixG_get C B i j HIL.out (by rw [HIL.out, HBL.out]; omega)
                  have HGI := HIG.out i (by rw [HBL.out]; omega)
                  clear d0 d1 HPi HBi hU7
                  cases hin : inB (p1, p2) (i : Int) with
                  | true =>
                    have hgi : C[i]? = some (!c) := by rw [HGI, hin]; rfl
                    have hset := mixG_set C B i (!c) HIL.out (by rw [HIL.out, HBL.out]; omega) hgi
                    have hmc : (mixG C B i)[i]? = some (B[i]'(by rw [HBL.out]; omega)) := by rw [HMI, if_neg (by omega), List.getElem?_eq_getElem]
                    have r0 := HP7.out.row.cell i hmc
                    have r1 := HP7.out.row.frz i
                    have d2 := HB7.out.cell 2 rfl
                    have HSET := Lib.hid hset
                    clear hgi hset hmc HMI HGI hin
                    go_wp2
                    go_roundg (201 - (i + 1))
                    all_goals first
                      | omega
                      | exact ⟨i + 1, by omega, rfl, by go_num, Lib.hid (by rw [← HSET.out]; exact HP7.out.stepB i (!c)), Lib.hid (HB7.out.setFar _ (by simp; omega))⟩
                  | false =>
                    have hno := mixG_no C B i HIL.out (by rw [HIL.out, HBL.out]; omega) (by rw [HGI, hin, List.getElem?_eq_getElem (by rw [HBL.out]; omega)]; rfl)
                    rw [hno] at HP7
                    clear hno HMI HGI hin
                    go_wp2
                    go_roundg (201 - (i + 1))
                    all_goals first
                      | omega
                      | exact ⟨i + 1, by omega, rfl, by go_num, HP7, HB7⟩
                · obtain rfl : i = 201 := by omega
                  rw [mixG_end C B 201 (by rw [HIL.out, HBL.out]) HBL.out] at HPi
                  go_wp2
                  go_roundg (len - (k + 1))
                  all_goals first
                    | omega
                    | exact ⟨k + 1, v', L', C, by omega, rfl, by go_num, HST, HPi⟩
          · have hp' : 200 < p2 := by omega
            clear hp
            go_wp2_with fail
            refine (lives24 _).mono ?_
            rintro e w' ⟨rfl, hU⟩
            go_wp2
            exact ⟨_, results_tmp rfl _ _ _, rfl, (HUwr.out.alloc _).then hU⟩
        · obtain rfl : k = len := by omega
          clear HI
          go_wp2_with (refine wpList_mk _ rfl _ _ 29 rfl 4 i0 _ Try.underlying29 hi hz0 hz1 rfl .i64 .i64 _ _ 201 rfl rfl rfl rfl (by rw [hz2]; omega) (by unfold maxLen; omega) ?_; intro w5 hR5 hU5 hs5)
          have HH0 : Hid (BRow w5 wr.heap.size (List.replicate 201 false)) := Lib.hid (by unfold BRow; rw [List.map_replicate]; exact hR5)
          have hgh1 : wr.heap.size ≠ bs := by have := HPL.out.set.set.blk.lt; omega
          have hgh2 : wr.heap.size ≠ gi := by have := HPL.out.row.lt; omega
          have hgh3 : v.ownBlock ≠ some wr.heap.size := fun e => by have := HPL.out.set.set.row.lt _ e; omega
          have hgh4 : w2.heap.size ≤ wr.heap.size := HPL.out.set.up.size
          have HP5 := Lib.hid (HPL.out.pure hU5)
          clear HPL hR5 hU5 hs5
          generalize wr.heap.size = gh at *
          obtain ⟨Z, hZ⟩ : ∃ Z, List.replicate 201 false = Z := ⟨_, rfl⟩
          rw [hZ] at HH0
          have HZ := Lib.hid (show Z.length = 201 ∧ ∀ i, i < 201 → Z[i]? = some false by rw [← hZ]; exact ⟨List.length_replicate, fun i h => by rw [List.getElem?_replicate, if_pos h]⟩)
          have HL := Lib.hid (show (holeB x B).length = 201 by rw [holeB_len]; exact HPI.out.len)
          have HBL := Lib.hid HPI.out.len
          have HHG := Lib.hid (fun i (h : i < B.length) => holeB_get x B i h)
          obtain ⟨H, hH⟩ : ∃ H, holeB x B = H := ⟨_, rfl⟩
          rw [hH] at HL HHG
          have HHE := Lib.hid hH
          clear hZ hH
          go_wp2
          go_loopg [15, 16, 80] 201 (fun g s15 s16 s80 wr => ∃ i : Nat, i ≤ 201 ∧ g = 201 - i ∧ s15 = .int .i64 ((B.take i).countP id : Nat) ∧ s16 = .bool (meetB x B i) ∧ s80 = .int .i64 (i : Nat) ∧ Hid (PL w2 wr bs v L gi B) ∧ Hid (BRow wr gh (mixG H Z i)))
          case atStart => exact ⟨0, by omega, rfl, rfl, rfl, rfl, HP5, by rw [mixG_zero]; exact HH0⟩
          case round =>
            obtain ⟨i, hi2, rfl, rfl, rfl, rfl, HPi, HHi⟩ := hrel
            clear HP5 HH0
            have hx0 := (HXr.out.upd HPi.out.set.up (by simp)).cell 0 rfl
            have hx1 := (HXr.out.upd HPi.out.set.up (by simp)).cell 1 rfl
            by_cases hi3 : i < 201
            · have hi3z : (i : Int) < 201 := by omega
              have hib : i < B.length := by rw [HBL.out]; exact hi3
              have HMI : (mixG H Z i)[i]? = some false := by rw [mixG_get H Z i i (by rw [HL.out, HZ.out.1]) (by rw [HL.out]; omega), if_neg (by omega)]; exact HZ.out.2 i hi3
              have HCNT := Lib.hid (count_succ B i hib)
              have HMEET := Lib.hid (meetB_succ x B i)
              have HGI := HHG.out i hib
              have hgd : B.getD i false = B[i] := by rw [List.getD_eq_getElem?_getD, List.getElem?_eq_getElem hib]; rfl
              rw [hgd] at HMEET
              have hbb : B[i]? = some B[i] := List.getElem?_eq_getElem hib
              have hTl : (B.take i).countP id ≤ 201 := by have := List.countP_le_length (p := id) (l := B.take i); rw [List.length_take] at this; omega
              have HMS : ∀ b, H[i]? = some b → (mixG H Z i).set i b = mixG H Z (i + 1) := fun b hb => mixG_set H Z i b (by rw [HL.out, HZ.out.1]) (by rw [HL.out]; omega) hb
              obtain ⟨T, hT⟩ : ∃ T, (B.take i).countP id = T := ⟨_, rfl⟩
              rw [hT] at HCNT hTl ⊢
              clear hT hgd
              obtain ⟨b, hb⟩ : ∃ b, B[i] = b := ⟨_, rfl⟩
              rw [hb] at HCNT HMEET HGI hbb
              clear hb hib
              obtain ⟨β, hβ⟩ : ∃ β, inB x (i : Int) = β := ⟨_, rfl⟩
              rw [hβ] at HMEET HGI
              have HBV := Lib.hid hβ
              clear hβ
              generalize meetB x B i = m at *
              have r0 := HPi.out.row.cell i hbb
              cases b with
              | true =>
                cases β with
                | true =>
                  cases m with
                  | true =>
                    go_wp2_with fail
                    refine (in_any x.1 x.2 (i : Int) _).mono ?_
                    rintro e w7 ⟨rfl, hU7⟩
                    rw [show inB (x.1, x.2) (i : Int) = true from HBV.out]
                    have HP7 := Lib.hid (HPi.out.pure hU7)
                    have HH7 := Lib.hid (HHi.out.upd hU7 (by simp))
                    have r7 := HP7.out.row.cell i hbb
                    have q0 := HH7.out.cell i HMI
                    have q1 := HH7.out.frz i
                    have hU8 : Upd [gh] w7 (w7.setCell ⟨gh, i, none⟩ (.bool false)) := (Upd.refl _ _).setCell (.inl (by simp)) _
                    have HP8 := Lib.hid (HP7.out.far hU8 hgh1 hgh2 hgh3 hgh4)
                    have y0 := (HXr.out.upd HP8.out.set.up (by simp)).cell 0 rfl
                    have y1 := (HXr.out.upd HP8.out.set.up (by simp)).cell 1 rfl
                    have HH8 := Lib.hid (HH7.out.set i false)
                    rw [HMS false HGI] at HH8
                    have r8 := HP8.out.row.cell i hbb
                    have HGI2 := Lib.hid HGI
                    have HMI2 := Lib.hid HMI
                    have HMS2 := Lib.hid HMS
                    clear hU7 hU8 HGI HMI HMS r0 hx0 hx1 HPi HHi
                    go_wp2
                    go_roundg (201 - (i + 1))
                    all_goals first
                      | omega
                      | exact ⟨i + 1, by omega, rfl, by rw [HCNT.out]; go_num, by rw [HMEET.out]; rfl, by go_num, HP8, HH8⟩
                  | false =>
                    go_wp2_with fail
                    refine (in_any x.1 x.2 (i : Int) _).mono ?_
                    rintro e w7 ⟨rfl, hU7⟩
                    rw [show inB (x.1, x.2) (i : Int) = true from HBV.out]
                    have HP7 := Lib.hid (HPi.out.pure hU7)
                    have HH7 := Lib.hid (HHi.out.upd hU7 (by simp))
                    have r7 := HP7.out.row.cell i hbb
                    have q0 := HH7.out.cell i HMI
                    have q1 := HH7.out.frz i
                    have hU8 : Upd [gh] w7 (w7.setCell ⟨gh, i, none⟩ (.bool false)) := (Upd.refl _ _).setCell (.inl (by simp)) _
                    have HP8 := Lib.hid (HP7.out.far hU8 hgh1 hgh2 hgh3 hgh4)
                    have y0 := (HXr.out.upd HP8.out.set.up (by simp)).cell 0 rfl
                    have y1 := (HXr.out.upd HP8.out.set.up (by simp)).cell 1 rfl
                    have HH8 := Lib.hid (HH7.out.set i false)
                    rw [HMS false HGI] at HH8
                    have r8 := HP8.out.row.cell i hbb
                    have HGI2 := Lib.hid HGI
                    have HMI2 := Lib.hid HMI
                    have HMS2 := Lib.hid HMS
                    clear hU7 hU8 HGI HMI HMS r0 hx0 hx1 HPi HHi
                    go_wp2_with fail
                    refine (in_any x.1 x.2 (i : Int) _).mono ?_
                    rintro e w9 ⟨rfl, hU9⟩
                    rw [show inB (x.1, x.2) (i : Int) = true from HBV.out]
                    have HP9 := Lib.hid (HP8.out.pure hU9)
                    have HH9 := Lib.hid (HH8.out.upd hU9 (by simp))
                    have r9 := HP9.out.row.cell i hbb
                    go_wp2
                    go_roundg (201 - (i + 1))
                    all_goals first
                      | omega
                      | exact ⟨i + 1, by omega, rfl, by rw [HCNT.out]; go_num, by rw [HMEET.out]; rfl, by go_num, HP9, HH9⟩
                | false =>
                  cases m with
                  | true =>
                    go_wp2_with fail
                    refine (in_any x.1 x.2 (i : Int) _).mono ?_
                    rintro e w7 ⟨rfl, hU7⟩
                    rw [show inB (x.1, x.2) (i : Int) = false from HBV.out]
                    have HP7 := Lib.hid (HPi.out.pure hU7)
                    have HH7 := Lib.hid (HHi.out.upd hU7 (by simp))
                    have r7 := HP7.out.row.cell i hbb
                    have q0 := HH7.out.cell i HMI
                    have q1 := HH7.out.frz i
                    have hU8 : Upd [gh] w7 (w7.setCell ⟨gh, i, none⟩ (.bool false)) := (Upd.refl _ _).setCell (.inl (by simp)) _
                    have HP8 := Lib.hid (HP7.out.far hU8 hgh1 hgh2 hgh3 hgh4)
                    have y0 := (HXr.out.upd HP8.out.set.up (by simp)).cell 0 rfl
                    have y1 := (HXr.out.upd HP8.out.set.up (by simp)).cell 1 rfl
                    have HH8 := Lib.hid (HH7.out.set i false)
                    rw [HMS false HGI] at HH8
                    have r8 := HP8.out.row.cell i hbb
                    have HGI2 := Lib.hid HGI
                    have HMI2 := Lib.hid HMI
                    have HMS2 := Lib.hid HMS
                    clear hU7 hU8 HGI HMI HMS r0 hx0 hx1 HPi HHi
                    go_wp2
                    go_roundg (201 - (i + 1))
                    all_goals first
                      | omega
                      | exact ⟨i + 1, by omega, rfl, by rw [HCNT.out]; go_num, by rw [HMEET.out]; rfl, by go_num, HP8, HH8⟩
                  | false =>
                    go_wp2_with fail
                    refine (in_any x.1 x.2 (i : Int) _).mono ?_
                    rintro e w7 ⟨rfl, hU7⟩
                    rw [show inB (x.1, x.2) (i : Int) = false from HBV.out]
                    have HP7 := Lib.hid (HPi.out.pure hU7)
                    have HH7 := Lib.hid (HHi.out.upd hU7 (by simp))
                    have r7 := HP7.out.row.cell i hbb
                    have q0 := HH7.out.cell i HMI
                    have q1 := HH7.out.frz i
                    have hU8 : Upd [gh] w7 (w7.setCell ⟨gh, i, none⟩ (.bool false)) := (Upd.refl _ _).setCell (.inl (by simp)) _
                    have HP8 := Lib.hid (HP7.out.far hU8 hgh1 hgh2 hgh3 hgh4)
                    have y0 := (HXr.out.upd HP8.out.set.up (by simp)).cell 0 rfl
                    have y1 := (HXr.out.upd HP8.out.set.up (by simp)).cell 1 rfl
                    have HH8 := Lib.hid (HH7.out.set i false)
                    rw [HMS false HGI] at HH8
                    have r8 := HP8.out.row.cell i hbb
                    have HGI2 := Lib.hid HGI
                    have HMI2 := Lib.hid HMI
                    have HMS2 := Lib.hid HMS
                    clear hU7 hU8 HGI HMI HMS r0 hx0 hx1 HPi HHi
                    go_wp2_with fail
                    refine (in_any x.1 x.2 (i : Int) _).mono ?_
                    rintro e w9 ⟨rfl, hU9⟩
                    rw [show inB (x.1, x.2) (i : Int) = false from HBV.out]
                    have HP9 := Lib.hid (HP8.out.pure hU9)
                    have HH9 := Lib.hid (HH8.out.upd hU9 (by simp))
                    have r9 := HP9.out.row.cell i hbb
                    go_wp2
                    go_roundg (201 - (i + 1))
                    all_goals first
                      | omega
                      | exact ⟨i + 1, by omega, rfl, by rw [HCNT.out]; go_num, by rw [HMEET.out]; rfl, by go_num, HP9, HH9⟩
              | false =>
                cases β with
                | true =>
                  cases m with
                  | true =>
                    go_wp2_with fail
                    refine (in_any x.1 x.2 (i : Int) _).mono ?_
                    rintro e w7 ⟨rfl, hU7⟩
                    rw [show inB (x.1, x.2) (i : Int) = true from HBV.out]
                    have HP7 := Lib.hid (HPi.out.pure hU7)
                    have HH7 := Lib.hid (HHi.out.upd hU7 (by simp))
                    have r7 := HP7.out.row.cell i hbb
                    have q0 := HH7.out.cell i HMI
                    have q1 := HH7.out.frz i
                    have hU8 : Upd [gh] w7 (w7.setCell ⟨gh, i, none⟩ (.bool true)) := (Upd.refl _ _).setCell (.inl (by simp)) _
                    have HP8 := Lib.hid (HP7.out.far hU8 hgh1 hgh2 hgh3 hgh4)
                    have y0 := (HXr.out.upd HP8.out.set.up (by simp)).cell 0 rfl
                    have y1 := (HXr.out.upd HP8.out.set.up (by simp)).cell 1 rfl
                    have HH8 := Lib.hid (HH7.out.set i true)
                    rw [HMS true HGI] at HH8
                    have r8 := HP8.out.row.cell i hbb
                    have HGI2 := Lib.hid HGI
                    have HMI2 := Lib.hid HMI
                    have HMS2 := Lib.hid HMS
                    clear hU7 hU8 HGI HMI HMS r0 hx0 hx1 HPi HHi
                    go_wp2
                    go_roundg (201 - (i + 1))
                    all_goals first
                      | omega
                      | exact ⟨i + 1, by omega, rfl, by rw [HCNT.out]; go_num, by rw [HMEET.out]; rfl, by go_num, HP8, HH8⟩
                  | false =>
                    go_wp2_with fail
                    refine (in_any x.1 x.2 (i : Int) _).mono ?_
                    rintro e w7 ⟨rfl, hU7⟩
                    rw [show inB (x.1, x.2) (i : Int) = true from HBV.out]
                    have HP7 := Lib.hid (HPi.out.pure hU7)
                    have HH7 := Lib.hid (HHi.out.upd hU7 (by simp))
                    have r7 := HP7.out.row.cell i hbb
                    have q0 := HH7.out.cell i HMI
                    have q1 := HH7.out.frz i
                    have hU8 : Upd [gh] w7 (w7.setCell ⟨gh, i, none⟩ (.bool true)) := (Upd.refl _ _).setCell (.inl (by simp)) _
                    have HP8 := Lib.hid (HP7.out.far hU8 hgh1 hgh2 hgh3 hgh4)
                    have y0 := (HXr.out.upd HP8.out.set.up (by simp)).cell 0 rfl
                    have y1 := (HXr.out.upd HP8.out.set.up (by simp)).cell 1 rfl
                    have HH8 := Lib.hid (HH7.out.set i true)
                    rw [HMS true HGI] at HH8
                    have r8 := HP8.out.row.cell i hbb
                    have HGI2 := Lib.hid HGI
                    have HMI2 := Lib.hid HMI
                    have HMS2 := Lib.hid HMS
                    clear hU7 hU8 HGI HMI HMS r0 hx0 hx1 HPi HHi
                    go_wp2_with fail
                    refine (in_any x.1 x.2 (i : Int) _).mono ?_
                    rintro e w9 ⟨rfl, hU9⟩
                    rw [show inB (x.1, x.2) (i : Int) = true from HBV.out]
                    have HP9 := Lib.hid (HP8.out.pure hU9)
                    have HH9 := Lib.hid (HH8.out.upd hU9 (by simp))
                    have r9 := HP9.out.row.cell i hbb
                    go_wp2
                    go_roundg (201 - (i + 1))
                    all_goals first
                      | omega
                      | exact ⟨i + 1, by omega, rfl, by rw [HCNT.out]; go_num, by rw [HMEET.out]; rfl, by go_num, HP9, HH9⟩
                | false =>
                  cases m with
                  | true =>
                    go_wp2_with fail
                    refine (in_any x.1 x.2 (i : Int) _).mono ?_
                    rintro e w7 ⟨rfl, hU7⟩
                    rw [show inB (x.1, x.2) (i : Int) = false from HBV.out]
                    have HP7 := Lib.hid (HPi.out.pure hU7)
                    have HH7 := Lib.hid (HHi.out.upd hU7 (by simp))
                    have r7 := HP7.out.row.cell i hbb
                    have q0 := HH7.out.cell i HMI
                    have q1 := HH7.out.frz i
                    have hU8 : Upd [gh] w7 (w7.setCell ⟨gh, i, none⟩ (.bool false)) := (Upd.refl _ _).setCell (.inl (by simp)) _
                    have HP8 := Lib.hid (HP7.out.far hU8 hgh1 hgh2 hgh3 hgh4)
                    have y0 := (HXr.out.upd HP8.out.set.up (by simp)).cell 0 rfl
                    have y1 := (HXr.out.upd HP8.out.set.up (by simp)).cell 1 rfl
                    have HH8 := Lib.hid (HH7.out.set i false)
                    rw [HMS false HGI] at HH8
                    have r8 := HP8.out.row.cell i hbb
                    have HGI2 := Lib.hid HGI
                    have HMI2 := Lib.hid HMI
                    have HMS2 := Lib.hid HMS
                    clear hU7 hU8 HGI HMI HMS r0 hx0 hx1 HPi HHi
                    go_wp2
                    go_roundg (201 - (i + 1))
                    all_goals first
                      | omega
                      | exact ⟨i + 1, by omega, rfl, by rw [HCNT.out]; go_num, by rw [HMEET.out]; rfl, by go_num, HP8, HH8⟩
                  | false =>
                    go_wp2_with fail
                    refine (in_any x.1 x.2 (i : Int) _).mono ?_
                    rintro e w7 ⟨rfl, hU7⟩
                    rw [show inB (x.1, x.2) (i : Int) = false from HBV.out]
                    have HP7 := Lib.hid (HPi.out.pure hU7)
                    have HH7 := Lib.hid (HHi.out.upd hU7 (by simp))
                    have r7 := HP7.out.row.cell i hbb
                    have q0 := HH7.out.cell i HMI
                    have q1 := HH7.out.frz i
                    have hU8 : Upd [gh] w7 (w7.setCell ⟨gh, i, none⟩ (.bool false)) := (Upd.refl _ _).setCell (.inl (by simp)) _
                    have HP8 := Lib.hid (HP7.out.far hU8 hgh1 hgh2 hgh3 hgh4)
                    have y0 := (HXr.out.upd HP8.out.set.up (by simp)).cell 0 rfl
                    have y1 := (HXr.out.upd HP8.out.set.up (by simp)).cell 1 rfl
                    have HH8 := Lib.hid (HH7.out.set i false)
                    rw [HMS false HGI] at HH8
                    have r8 := HP8.out.row.cell i hbb
                    have HGI2 := Lib.hid HGI
                    have HMI2 := Lib.hid HMI
                    have HMS2 := Lib.hid HMS
                    clear hU7 hU8 HGI HMI HMS r0 hx0 hx1 HPi HHi
                    go_wp2_with fail
                    refine (in_any x.1 x.2 (i : Int) _).mono ?_
                    rintro e w9 ⟨rfl, hU9⟩
                    rw [show inB (x.1, x.2) (i : Int) = false from HBV.out]
                    have HP9 := Lib.hid (HP8.out.pure hU9)
                    have HH9 := Lib.hid (HH8.out.upd hU9 (by simp))
                    have r9 := HP9.out.row.cell i hbb
                    go_wp2
                    go_roundg (201 - (i + 1))
                    all_goals first
                      | omega
                      | exact ⟨i + 1, by omega, rfl, by rw [HCNT.out]; go_num, by rw [HMEET.out]; rfl, by go_num, HP9, HH9⟩
            · obtain rfl : i = 201 := by omega
              rw [show B.take 201 = B from List.take_of_length_le (by rw [HBL.out]; omega)]
              rw [mixG_end H Z 201 HL.out HZ.out.1] at HHi
              have hsp := rspans_any gi B wr (by rw [HBL.out]; exact HPi.out.row) (by rw [HBL.out]; omega)
              rw [HBL.out, HPI.out.spans] at hsp
              have HSP := Lib.hid hsp
              clear hsp hx0 hx1
              obtain ⟨T, hT⟩ : ∃ T, B.countP id = T := ⟨_, rfl⟩
              have HTT := Lib.hid hT
              rw [hT]
              clear hT
              obtain ⟨mt, hmt⟩ : ∃ mt, meetB x B 201 = mt := ⟨_, rfl⟩
              have HMT := Lib.hid hmt
              rw [hmt]
              clear hmt
              go_wp2_with fail
              refine HSP.out.mono ?_
              rintro e w10 ⟨vw, rfl, hRw, hU10, hgw⟩
              obtain ⟨rw1, rcw, rfl⟩ := hRw.form
              have HP10 := Lib.hid (HPi.out.pure hU10)
              have HH10 := Lib.hid (HHi.out.upd hU10 (by simp))
              have HRW := Lib.hid hRw
              clear HPi HHi HSP hRw hU10 hgw
              go_wp2_with fail
              refine (all_any _ _).mono ?_
              rintro e w11 ⟨rfl, rfl⟩
              have hfe := fun w' => run_eql_seq (.func 31) #[] #[.pointer (some ⟨w10.heap.size, 0, none⟩)] w'
              go_wp2_with fail
              have hO0 : OutAt (w10.heap.size + 1) ((w10.alloc (.cells #[.pointer (some ⟨bs, 0, none⟩)] 27)).alloc (.cells #[.slice none 0 0] 34)) (w10.heap.size + 1) (.slice none 0 0) [] :=
                ⟨by have := Blk.new (w10.alloc (.cells #[.pointer (some ⟨bs, 0, none⟩)] 27)) [.slice none 0 0] 34
                    simpa using this, Row.nil _ _ _, by simp [Value.ownBlock], Nat.le_refl _⟩
              have hBs := (Blk.new w10 [.pointer (some ⟨bs, 0, none⟩)] 27).alloc (.cells #[.slice none 0 0] 34)
              have hUA : Upd [] w10 ((w10.alloc (.cells #[.pointer (some ⟨bs, 0, none⟩)] 27)).alloc (.cells #[.slice none 0 0] 34)) := ((Upd.refl [] w10).alloc _).alloc _
              have hzA : ((w10.alloc (.cells #[.pointer (some ⟨bs, 0, none⟩)] 27)).alloc (.cells #[.slice none 0 0] 34)).heap.size = w10.heap.size + 2 := by simp
              have hLl := HPI.out.le
              have hSet := ((HP10.out.set.inn (by omega)).below hUA.below).mono (n' := w10.heap.size + 1) (by omega)
              have HM10 := Lib.hid (HMB.out.upd HP10.out.set.up (by simp))
              obtain ⟨KK, hKK⟩ : ∃ KK : Nat, M % 20 = (KK : Int) := ⟨(M % 20).toNat, by omega⟩
              have HKK := Lib.hid hKK
              clear hKK hfe HMB
              revert hO0 hBs hUA hzA hSet
              generalize (w10.alloc (.cells #[.pointer (some ⟨bs, 0, none⟩)] 27)).alloc (.cells #[.slice none 0 0] 34) = W0
              intro hO0 hBs hUA hzA hSet
              obtain ⟨j0, hj1, hj2, hj3⟩ := info_parts infoSpan
              refine wp_act ?_
              intro fr hfr
              refine Code.wp_mono (Q := fun e a' W => (e = .normal ∨ e = .exit 6) ∧ ∃ D vg got, a' = { fr with defers := { target := .collected D, args := #[] } :: fr.defers } ∧ W0.heap.size ≤ D ∧ W.heap[D]? = some (.deferred (some [])) ∧ Hid (got = L.take KK) ∧ OutAt (w10.heap.size + 1) W (w10.heap.size + 1) vg got ∧ Upd [] w10 W) ?cont ((wpIn_wide (n := 9)).1 ?main)
              case main =>
                refine loopSet w10.heap.size (w10.heap.size + 1) (some ⟨bs, 0, none⟩) L (by rw [hfr]; rfl) rfl (by omega) (hBs.cell 0 rfl) hSet
                  (fun pre W => (∃ v, OutAt (w10.heap.size + 1) W (w10.heap.size + 1) v pre) ∧ Hid (pre.length ≤ KK) ∧ Upd [] w10 W)
                  (fun c pre W => (c = .exit 6) ∧ (∃ p' y v, pre = p' ++ [y] ∧ p'.length = KK ∧ OutAt (w10.heap.size + 1) W (w10.heap.size + 1) v p') ∧ Upd [] w10 W)
                  ?own ?ownx ⟨⟨_, hO0⟩, Lib.hid (by simp), hUA⟩ ?act
                  (fun Bx W => ∃ v', Blk W (w10.heap.size + 1) [v'] 34 ∧ v'.ownBlock ≠ some Bx) ?X ?X0 ?assign ?body ?done ?stop
                case assign =>
                  intro L1 y Bx W K hBx hK
                  subst hfr
                  gi_wp2
                  rw [← hBx]
                  exact hK
                case own =>
                  intro s A B' row hs hg hr
                  obtain ⟨⟨v', h1⟩, h2, h5⟩ := hs
                  exact ⟨⟨v', OutAt.own_from _ _ _ _ _ () A B' row h1 hg hr⟩, h2, upd_own _ _ _ (by omega) () A B' row h5 hg hr⟩
                case ownx =>
                  intro c s A B' row hs hg hr
                  obtain ⟨h0, ⟨p', y, v', h1, h2, h3⟩, h5⟩ := hs
                  exact ⟨h0, ⟨p', y, v', h1, h2, OutAt.own_from _ _ _ _ _ () A B' row h3 hg hr⟩, upd_own _ _ _ (by omega) () A B' row h5 hg hr⟩
                case X =>
                  intro Bx s A B' row hs hg hr
                  obtain ⟨v', h1, h2⟩ := hs
                  exact ⟨v', blk_own _ _ (fun (_ : Unit) => _) _ () A B' row h1 hg hr, h2⟩
                case X0 =>
                  rintro pre y W ⟨⟨v', h1⟩, _⟩ hsz
                  exact ⟨v', h1.blk.alloc _, fun e => by have := h1.row.lt _ e; omega⟩
                case body =>
                  rintro L1 pre y Bx W hBx hsz hy hpre hbx ⟨vv, hvv, hnx⟩ ⟨⟨v1, hO⟩, hpl, hUW⟩ hlt
                  subst hfr
                  have y0 := hbx.cell 0 rfl
                  have y1 := hbx.cell 1 rfl
                  have m0 := (HM10.out.upd hUW (by simp)).cell 0 rfl
                  have c0 := hO.blk.cell 0 rfl
                  have f0 := hO.blk.frz 0
                  obtain ⟨ra, rc, rfl⟩ := hO.row.form
                  have HO := Lib.hid hO
                  have hmod := HKK.out
                  clear hO hvv hpre
                  by_cases hkk : KK ≤ pre.length
                  · have hkz : (KK : Int) ≤ (pre.length : Int) := by omega
                    gi_wp2
                    have := hpl.out
                    exact ⟨KeepsFrom.refl _ _, rfl, ⟨pre, y, _, rfl, by omega, HO.out⟩, hUW⟩
                  · have hkz : (pre.length : Int) < (KK : Int) := by omega
                    have hk2 : pre.length < KK := by omega
                    gi_wp2_with (gi_at_builtin; refine wpListIn_app _ rfl _ _ 34 rfl 24 j0 _ 2 16 Try.underlying34 hj1 hj2 hj3.1 hj3.2 rfl (by omega) (.slice ra pre.length rc) pre.length _ rfl (HO.out.row.alloc _) ⟨W.heap.size, 0, none⟩ 1 1 [.int .i64 y.1, .int .i64 y.2] rfl rfl (World.news_of_block (cs := #[.int .i64 y.1, .int .i64 y.2]) (t := 24) (fr := (0, 0)) (heap_alloc_new _ _)) (by simp [Value.oneCell']) (by unfold maxLen; omega) (by omega) ?_)
                    rintro v9 w9 hR9 hU9 hT9
                    obtain ⟨va9, vc9, rfl⟩ := hR9.form
                    have hne : (Value.slice ra pre.length rc).ownBlock ≠ some (w10.heap.size + 1) := fun e => (HO.out.own _ e).2 rfl
                    have hB9 := (HO.out.blk.alloc (Obj.cells #[.int .i64 y.1, .int .i64 y.2] 24)).upd hU9 (by simpa using hne)
                    have k9 := hB9.cell 0 rfl
                    have f9 := hB9.frz 0
                    gi_wp2
                    obtain ⟨p1, p2, p3⟩ := HO.out.push (x := y) ((Upd.refl _ _).alloc _) hR9 hU9 hT9
                    refine ⟨HO.out.keeps p2 _, HO.out.below p2, ⟨_, p1⟩, Lib.hid (by simp; omega), hUW.trans p2 (fun k hk => ?_)⟩
                    simp only [outFp, List.mem_cons] at hk
                    rcases hk with rfl | hk
                    · right; omega
                    · right; have := (HO.out.own k (by simpa using hk)).1; omega
                case done =>
                  rintro D W hD ⟨⟨v', hO⟩, hpl, hUW⟩ hK
                  exact ⟨.inl rfl, D, v', L, rfl, hD, hK, Lib.hid (List.take_of_length_le hpl.out).symm, hO, hUW⟩
                case stop =>
                  rintro D c pre W hD hpre ⟨rfl, ⟨p', y, v', rfl, hpl, hO⟩, hUW⟩ hK
                  refine wpIn_exit ?_
                  refine ⟨.inr rfl, D, v', p', rfl, hD, hK, Lib.hid ?_, hO, hUW⟩
                  obtain ⟨r, hr⟩ := hpre
                  rw [← hr, List.append_assoc, ← hpl, List.take_left]
              case cont =>
                rintro e a' wz ⟨he, D, vg, got, rfl, hD, hDk, HG, hOg, hUz⟩
                subst hfr
                have HPz := Lib.hid (HP10.out.pure hUz)
                have HHz := Lib.hid (HH10.out.upd hUz (by simp))
                have HRz := Lib.hid (HRW.out.upd hUz (by simp))
                have HMz := Lib.hid (HM10.out.upd hUz (by simp))
                have HXz := Lib.hid (HXr.out.upd HPz.out.set.up (by simp))
                have HOz := Lib.hid hOg
                have HUz := Lib.hid (HUr.out.then HPz.out.set.up)
                have HDz := Lib.hid hDk
                have hDlt : w.heap.size ≤ D := by have := HUz.out.size; have := hUz.size; have := HPz.out.set.up.size; have := HP10.out.set.up.size; have := HUr.out.size; omega
                have HHAS := Lib.hid (HPI.out.has t0)
                clear HP10 HH10 HRW HM10 hUz hOg hDk hSet hBs hO0
                generalize hhv : hasP L t0 = hv at *
                refine inBlock_two he ?_
                clear he
                go_upto_region 40 with fail
                go_cut [22] (fun s22 wx => s22 = .bool hv ∧ wx = wz)
                case first =>
                  rcases (by omega : (0 ≤ t0 ∧ t0 < 201) ∨ (0 ≤ t0 ∧ 201 ≤ t0) ∨ t0 < 0) with ⟨g1, g2⟩ | ⟨g1, g2⟩ | g1
                  · obtain ⟨i, rfl⟩ : ∃ i : Nat, t0 = (i : Int) := ⟨t0.toNat, by omega⟩
                    have hi5 : i < 201 := by omega
                    obtain ⟨b, hb⟩ : ∃ b, B[i]? = some b := ⟨B[i]'(by rw [HBL.out]; exact hi5), List.getElem?_eq_getElem _⟩
                    have r0 := HPz.out.row.cell i hb
                    have hvb : hv = b := by rw [HHAS.out, Int.toNat_natCast, hb]; cases b <;> simp
                    have HVB := Lib.hid hvb
                    clear hvb hb
                    cases b
                    all_goals
                      go_wp2
                      go_meet
                      exact ⟨by rw [HVB.out], rfl⟩
                  · have HVB : Hid (hv = false) := Lib.hid (by
                      rw [HHAS.out]
                      apply decide_eq_false
                      rintro ⟨_, h2⟩
                      rw [List.getElem?_eq_none (by rw [HBL.out]; omega)] at h2
                      cases h2)
                    go_wp2
                    go_meet
                    exact ⟨by rw [HVB.out], rfl⟩
                  · have HVB : Hid (hv = false) := Lib.hid (by
                      rw [HHAS.out]
                      apply decide_eq_false
                      rintro ⟨h1, _⟩
                      omega)
                    go_wp2
                    go_meet
                    exact ⟨by rw [HVB.out], rfl⟩
                case rest =>
                  obtain ⟨rfl, rfl⟩ := hcut
                  have hLl := HPI.out.le
                  obtain ⟨rg, rgc, rfl⟩ := HOz.out.row.form
                  have HSET := Lib.hid (fun w' (hU' : Upd [] wc w') => (HPz.out.set.pure hU').inn (by omega))
                  have hgl : got.length ≤ L.length := by rw [HG.out, List.length_take]; omega
                  obtain ⟨m, hm⟩ : ∃ m, min L.length KK = m := ⟨_, rfl⟩
                  have hmL : m ≤ L.length := by omega
                  have HTK := Lib.hid (HRz.out.takeRow m hmL)
                  rw [flat_take L m hmL] at HTK
                  have hmt : L.take KK = L.take m := by
                    rw [← hm]
                    by_cases hq : L.length ≤ KK
                    · rw [Nat.min_eq_left hq, List.take_of_length_le hq, List.take_of_length_le (Nat.le_refl _)]
                    · rw [Nat.min_eq_right (by omega)]
                  have hgm : got = L.take m := by rw [HG.out, hmt]
                  have htl : (L.take m).length = m := by rw [List.length_take]; omega
                  have HMN := Lib.hid (show min (L.length : Int) (KK : Int) = (m : Int) by omega)
                  have HRC : Hid (m ≤ rcw ∧ L.length ≤ rcw) := Lib.hid (by
                    have hqq := HRz.out.2
                    rcases hqq with ⟨h1, h2⟩ | ⟨g, cap', cur, h1, hb, hg, hc, _⟩
                    · injection h1 with e1 e2 e3; omega
                    · injection h1 with e1 e2 e3; omega)
                  have HGM := Lib.hid hgm
                  have HTL := Lib.hid htl
                  clear hgm htl hmt hm hgl
                  have HTT2 := Lib.hid (show totW L = (T : Int) by rw [HPI.out.total, HTT.out])
                  have HMT2 := Lib.hid (show meetsP L x = mt by rw [HPI.out.meets x hx2, HMT.out])
                  have HHO2 := Lib.hid (show holesP L x = spansOf H by rw [HPI.out.holes x hx2, HHE.out])
                  have hhl : (spansOf H).length ≤ 1000 := by
                    rw [← HHO2.out]
                    by_cases hq : spanOk x = true
                    · have := (cutsP_norm L [x] (norm_one (spanOk_iff.1 hq))).2
                      unfold holesP; rw [if_pos hq]; simp only [List.length_cons, List.length_nil] at this; omega
                    · unfold holesP; rw [if_neg hq]; simp
                  obtain ⟨sp, hsp⟩ : ∃ sp, spanOk x = sp := ⟨_, rfl⟩
                  have HSP := Lib.hid hsp
                  clear hsp
                  have hDlt2 : D < wc.heap.size := (Array.getElem?_eq_some_iff.1 HDz.out).1
                  go_upto_region 41 with fail
                  refine wp_calmM ?_
                  refine wp_region_held_drew (S := fun w' => Upd [] wc w') (by kernel_rfl) (Upd.refl _ _).drew (fun hHeld => ?_)
                  change wpAnyH _ _ _ _ _ 54 #[false, false, false, false, false, false, false, false, false, false, false, false, false, false, false, false, false, false, false, false, false, false, false, false, false, false, false, false, false, false, false, false, false, false, false, false, false, false, false, false, false, false, false, false, false, false, false, false, false, false, false, false, false, false] _ _
                  refine heldTake (i := 0) (d := some 144) (v := ?v0_9) rfl rfl (by kernel_rfl) (by kernel_rfl) (by kernel_rfl) (fun _ _ _ h => h) (by rfl) ?hy0_9 (by assumption) ?r0_9
                  case hy0_9 => (intro w hSw; (try dsimp only at hSw); go_simp; try with_reducible rfl)
                  try simp only [Act.put, List.setIfInBounds_toArray, List.set_cons_zero, List.set_cons_succ]
                  change wpAnyH _ _ _ _ _ 53 #[true, false, false, false, false, false, false, false, false, false, false, false, false, false, false, false, false, false, false, false, false, false, false, false, false, false, false, false, false, false, false, false, false, false, false, false, false, false, false, false, false, false, false, false, false, false, false, false, false, false, false, false, false, false] _ _
                  refine heldTake (i := 2) (d := some 146) (v := ?v2_10) rfl rfl (by kernel_rfl) (by kernel_rfl) (by kernel_rfl) (fun _ _ _ h => h) (by rfl) ?hy2_10 (by assumption) ?r2_10
                  case hy2_10 => (intro w hSw; (try dsimp only at hSw); go_simp; try with_reducible rfl)
                  try simp only [Act.put, List.setIfInBounds_toArray, List.set_cons_zero, List.set_cons_succ]
                  change wpAnyH _ _ _ _ _ 52 #[true, false, true, false, false, false, false, false, false, false, false, false, false, false, false, false, false, false, false, false, false, false, false, false, false, false, false, false, false, false, false, false, false, false, false, false, false, false, false, false, false, false, false, false, false, false, false, false, false, false, false, false, false, false] _ _
                  refine wpAnyH_ready (rs := [1]) (by kernel_rfl) (by simp) ?_
                  refine AllReadyH.cons rfl (fun K hK => ?_) AllReadyH.nil
                  go_simp
                  go_at_call 14
                  refine (spans_any (some ⟨bs, 0, none⟩) L _ (HSET.out _ hHeld)).mono ?_
                  rintro e v1 ⟨s1, rfl, hR1, hV1, hg1⟩
                  obtain ⟨r1, rc1, rfl⟩ := hR1.form
                  have hS1 : Upd [] wc v1 := hHeld.then hV1
                  go_wp2
                  refine hK.out _ _ hS1 (fun hHeld => ?_)
                  clear hK K
                  try simp only [Act.put, List.setIfInBounds_toArray, List.set_cons_zero, List.set_cons_succ]
                  change wpAnyH _ _ _ _ _ 51 #[true, true, true, false, false, false, false, false, false, false, false, false, false, false, false, false, false, false, false, false, false, false, false, false, false, false, false, false, false, false, false, false, false, false, false, false, false, false, false, false, false, false, false, false, false, false, false, false, false, false, false, false, false, false] _ _
                  refine wpAnyH_ready (rs := [3]) (by kernel_rfl) (by simp) ?_
                  refine AllReadyH.cons rfl (fun K hK => ?_) AllReadyH.nil
                  go_simp
                  go_at_call 13
                  refine (same_any _ _ L L _ hR1 (HRz.out.upd hHeld (by simp)) (by omega) (by omega)).mono ?_
                  rintro e v3 ⟨rfl, hV3⟩
                  rw [show decide (L = L) = true by simp]
                  have hS3 : Upd [] wc v3 := hHeld.then hV3
                  go_wp2
                  refine hK.out _ _ hS3 (fun hHeld => ?_)
                  clear hK K
                  try simp only [Act.put, List.setIfInBounds_toArray, List.set_cons_zero, List.set_cons_succ]
                  change wpAnyH _ _ _ _ _ 50 #[true, true, true, true, false, false, false, false, false, false, false, false, false, false, false, false, false, false, false, false, false, false, false, false, false, false, false, false, false, false, false, false, false, false, false, false, false, false, false, false, false, false, false, false, false, false, false, false, false, false, false, false, false, false] _ _
                  refine heldTake (i := 4) (d := some 148) (v := ?v4_13) rfl rfl (by kernel_rfl) (by kernel_rfl) (by kernel_rfl) (fun _ _ _ h => h) (by rfl) ?hy4_13 (by assumption) ?r4_13
                  case hy4_13 => (intro w hSw; (try dsimp only at hSw); go_simp; try with_reducible rfl)
                  try simp only [Act.put, List.setIfInBounds_toArray, List.set_cons_zero, List.set_cons_succ]
                  change wpAnyH _ _ _ _ _ 49 #[true, true, true, true, true, false, false, false, false, false, false, false, false, false, false, false, false, false, false, false, false, false, false, false, false, false, false, false, false, false, false, false, false, false, false, false, false, false, false, false, false, false, false, false, false, false, false, false, false, false, false, false, false, false] _ _
                  refine heldTake (i := 5) (d := some 149) (v := ?v5_14) rfl rfl (by kernel_rfl) (by kernel_rfl) (by kernel_rfl) (fun _ _ _ h => h) (by rfl) ?hy5_14 (by assumption) ?r5_14
                  case hy5_14 => (intro w hSw; have q0 := (HOz.out.blk.upd hSw (by simp)).cell 0 rfl; go_simp; try with_reducible rfl)
                  try simp only [Act.put, List.setIfInBounds_toArray, List.set_cons_zero, List.set_cons_succ]
                  change wpAnyH _ _ _ _ _ 48 #[true, true, true, true, true, true, false, false, false, false, false, false, false, false, false, false, false, false, false, false, false, false, false, false, false, false, false, false, false, false, false, false, false, false, false, false, false, false, false, false, false, false, false, false, false, false, false, false, false, false, false, false, false, false] _ _
                  refine heldTake (i := 6) (d := some 150) (v := ?v6_15) rfl rfl (by kernel_rfl) (by kernel_rfl) (by kernel_rfl) (fun _ _ _ h => h) (by rfl) ?hy6_15 (by assumption) ?r6_15
                  case hy6_15 => (intro w hSw; (try dsimp only at hSw); go_simp; try with_reducible rfl)
                  try simp only [Act.put, List.setIfInBounds_toArray, List.set_cons_zero, List.set_cons_succ]
                  change wpAnyH _ _ _ _ _ 47 #[true, true, true, true, true, true, true, false, false, false, false, false, false, false, false, false, false, false, false, false, false, false, false, false, false, false, false, false, false, false, false, false, false, false, false, false, false, false, false, false, false, false, false, false, false, false, false, false, false, false, false, false, false, false] _ _
                  refine heldTake (i := 7) (d := some 151) (v := ?v7_16) rfl rfl (by kernel_rfl) (by kernel_rfl) (by kernel_rfl) (fun _ _ _ h => h) (by rfl) ?hy7_16 (by assumption) ?r7_16
                  case hy7_16 => (intro w hSw; (try dsimp only at hSw); go_simp; try with_reducible rfl)
                  try simp only [Act.put, List.setIfInBounds_toArray, List.set_cons_zero, List.set_cons_succ]
                  change wpAnyH _ _ _ _ _ 46 #[true, true, true, true, true, true, true, true, false, false, false, false, false, false, false, false, false, false, false, false, false, false, false, false, false, false, false, false, false, false, false, false, false, false, false, false, false, false, false, false, false, false, false, false, false, false, false, false, false, false, false, false, false, false] _ _
                  refine heldTake (i := 8) (d := some 152) (v := ?v8_17) rfl rfl (by kernel_rfl) (by kernel_rfl) (by kernel_rfl) (fun _ _ _ h => h) (by rfl) ?hy8_17 (by assumption) ?r8_17
                  case hy8_17 => (intro w hSw; (try dsimp only at hSw); go_simp; try with_reducible rfl)
                  try simp only [Act.put, List.setIfInBounds_toArray, List.set_cons_zero, List.set_cons_succ]
                  change wpAnyH _ _ _ _ _ 45 #[true, true, true, true, true, true, true, true, true, false, false, false, false, false, false, false, false, false, false, false, false, false, false, false, false, false, false, false, false, false, false, false, false, false, false, false, false, false, false, false, false, false, false, false, false, false, false, false, false, false, false, false, false, false] _ _
                  refine heldTake (i := 9) (d := some 153) (v := ?v9_18) rfl rfl (by kernel_rfl) (by kernel_rfl) (by kernel_rfl) (fun _ _ _ h => h) (by rfl) ?hy9_18 (by assumption) ?r9_18
                  case hy9_18 => (intro w hSw; have q0 := (HMz.out.upd hSw (by simp)).cell 0 rfl; go_simp; try with_reducible rfl)
                  try simp only [Act.put, List.setIfInBounds_toArray, List.set_cons_zero, List.set_cons_succ]
                  change wpAnyH _ _ _ _ _ 44 #[true, true, true, true, true, true, true, true, true, true, false, false, false, false, false, false, false, false, false, false, false, false, false, false, false, false, false, false, false, false, false, false, false, false, false, false, false, false, false, false, false, false, false, false, false, false, false, false, false, false, false, false, false, false] _ _
                  refine heldTake (i := 10) (d := some 154) (v := (.int .i64 (KK : Int))) rfl rfl (by kernel_rfl) (by kernel_rfl) (by kernel_rfl) (fun _ _ _ h => h) (by rfl) ?hy10_19 (by assumption) ?r10_19
                  case hy10_19 => (intro w hSw; have q0 := HKK.out; go_simp; rw [Int.tmod_eq_emod_of_nonneg hM0]; exact q0)
                  try simp only [Act.put, List.setIfInBounds_toArray, List.set_cons_zero, List.set_cons_succ]
                  change wpAnyH _ _ _ _ _ 43 #[true, true, true, true, true, true, true, true, true, true, true, false, false, false, false, false, false, false, false, false, false, false, false, false, false, false, false, false, false, false, false, false, false, false, false, false, false, false, false, false, false, false, false, false, false, false, false, false, false, false, false, false, false, false] _ _
                  refine heldTake (i := 11) (d := some 155) (v := (.int .i64 (m : Int))) rfl rfl (by kernel_rfl) (by kernel_rfl) (by kernel_rfl) (fun _ _ _ h => h) (by rfl) ?hy11_20 (by assumption) ?r11_20
                  case hy11_20 => (intro w hSw; have q0 := HMN.out; go_simp)
                  try simp only [Act.put, List.setIfInBounds_toArray, List.set_cons_zero, List.set_cons_succ]
                  change wpAnyH _ _ _ _ _ 42 #[true, true, true, true, true, true, true, true, true, true, true, true, false, false, false, false, false, false, false, false, false, false, false, false, false, false, false, false, false, false, false, false, false, false, false, false, false, false, false, false, false, false, false, false, false, false, false, false, false, false, false, false, false, false] _ _
                  refine heldTake (i := 12) (d := some 156) (v := (.slice rw1 m rcw)) rfl rfl (by kernel_rfl) (by kernel_rfl) (by kernel_rfl) (fun _ _ _ h => h) (by rfl) ?hy12_21 (by assumption) ?r12_21
                  case hy12_21 => (intro w hSw; obtain ⟨q0, q1⟩ := HRC.out; go_simp)
                  try simp only [Act.put, List.setIfInBounds_toArray, List.set_cons_zero, List.set_cons_succ]
                  change wpAnyH _ _ _ _ _ 41 #[true, true, true, true, true, true, true, true, true, true, true, true, true, false, false, false, false, false, false, false, false, false, false, false, false, false, false, false, false, false, false, false, false, false, false, false, false, false, false, false, false, false, false, false, false, false, false, false, false, false, false, false, false, false] _ _
                  refine wpAnyH_ready (rs := [13]) (by kernel_rfl) (by simp) ?_
                  refine AllReadyH.cons rfl (fun K hK => ?_) AllReadyH.nil
                  go_simp
                  go_at_call 13
                  refine (same_any (.slice rg got.length rgc) (.slice rw1 m rcw) got (L.take m) _ (HOz.out.row.upd hHeld (by simp)) (by rw [HTL.out]; exact HTK.out.upd hHeld (by simp)) (by rw [HGM.out, HTL.out]; omega) (by rw [HTL.out]; omega)).mono ?_
                  rintro e v13 ⟨rfl, hV13⟩
                  rw [show decide (got = L.take m) = true from decide_eq_true HGM.out]
                  have hS13 : Upd [] wc v13 := hHeld.then hV13
                  go_wp2
                  refine hK.out _ _ hS13 (fun hHeld => ?_)
                  clear hK K
                  try simp only [Act.put, List.setIfInBounds_toArray, List.set_cons_zero, List.set_cons_succ]
                  change wpAnyH _ _ _ _ _ 40 #[true, true, true, true, true, true, true, true, true, true, true, true, true, true, false, false, false, false, false, false, false, false, false, false, false, false, false, false, false, false, false, false, false, false, false, false, false, false, false, false, false, false, false, false, false, false, false, false, false, false, false, false, false, false] _ _
                  refine heldTake (i := 14) (d := some 158) (v := ?v14_23) rfl rfl (by kernel_rfl) (by kernel_rfl) (by kernel_rfl) (fun _ _ _ h => h) (by rfl) ?hy14_23 (by assumption) ?r14_23
                  case hy14_23 => (intro w hSw; (try dsimp only at hSw); go_simp; try with_reducible rfl)
                  try simp only [Act.put, List.setIfInBounds_toArray, List.set_cons_zero, List.set_cons_succ]
                  change wpAnyH _ _ _ _ _ 39 #[true, true, true, true, true, true, true, true, true, true, true, true, true, true, true, false, false, false, false, false, false, false, false, false, false, false, false, false, false, false, false, false, false, false, false, false, false, false, false, false, false, false, false, false, false, false, false, false, false, false, false, false, false, false] _ _
                  refine heldTake (i := 15) (d := some 159) (v := ?v15_24) rfl rfl (by kernel_rfl) (by kernel_rfl) (by kernel_rfl) (fun _ _ _ h => h) (by rfl) ?hy15_24 (by assumption) ?r15_24
                  case hy15_24 => (intro w hSw; (try dsimp only at hSw); go_simp; try with_reducible rfl)
                  try simp only [Act.put, List.setIfInBounds_toArray, List.set_cons_zero, List.set_cons_succ]
                  change wpAnyH _ _ _ _ _ 38 #[true, true, true, true, true, true, true, true, true, true, true, true, true, true, true, true, false, false, false, false, false, false, false, false, false, false, false, false, false, false, false, false, false, false, false, false, false, false, false, false, false, false, false, false, false, false, false, false, false, false, false, false, false, false] _ _
                  refine heldTake (i := 16) (d := some 160) (v := ?v16_25) rfl rfl (by kernel_rfl) (by kernel_rfl) (by kernel_rfl) (fun _ _ _ h => h) (by rfl) ?hy16_25 (by assumption) ?r16_25
                  case hy16_25 => (intro w hSw; (try dsimp only at hSw); go_simp; try with_reducible rfl)
                  try simp only [Act.put, List.setIfInBounds_toArray, List.set_cons_zero, List.set_cons_succ]
                  change wpAnyH _ _ _ _ _ 37 #[true, true, true, true, true, true, true, true, true, true, true, true, true, true, true, true, true, false, false, false, false, false, false, false, false, false, false, false, false, false, false, false, false, false, false, false, false, false, false, false, false, false, false, false, false, false, false, false, false, false, false, false, false, false] _ _
                  refine heldTake (i := 17) (d := some 161) (v := ?v17_26) rfl rfl (by kernel_rfl) (by kernel_rfl) (by kernel_rfl) (fun _ _ _ h => h) (by rfl) ?hy17_26 (by assumption) ?r17_26
                  case hy17_26 => (intro w hSw; have q0 := (HXz.out.upd hSw (by simp)).cell 0 rfl; have q1 := (HXz.out.upd hSw (by simp)).cell 1 rfl; go_simp; try with_reducible rfl)
                  try simp only [Act.put, List.setIfInBounds_toArray, List.set_cons_zero, List.set_cons_succ]
                  change wpAnyH _ _ _ _ _ 36 #[true, true, true, true, true, true, true, true, true, true, true, true, true, true, true, true, true, true, false, false, false, false, false, false, false, false, false, false, false, false, false, false, false, false, false, false, false, false, false, false, false, false, false, false, false, false, false, false, false, false, false, false, false, false] _ _
                  refine heldTake (i := 19) (d := some 163) (v := ?v19_27) rfl rfl (by kernel_rfl) (by kernel_rfl) (by kernel_rfl) (fun _ _ _ h => h) (by rfl) ?hy19_27 (by assumption) ?r19_27
                  case hy19_27 => (intro w hSw; (try dsimp only at hSw); go_simp; try with_reducible rfl)
                  try simp only [Act.put, List.setIfInBounds_toArray, List.set_cons_zero, List.set_cons_succ]
                  change wpAnyH _ _ _ _ _ 35 #[true, true, true, true, true, true, true, true, true, true, true, true, true, true, true, true, true, true, false, true, false, false, false, false, false, false, false, false, false, false, false, false, false, false, false, false, false, false, false, false, false, false, false, false, false, false, false, false, false, false, false, false, false, false] _ _
                  refine wpAnyH_ready (rs := [18]) (by kernel_rfl) (by simp) ?_
                  refine AllReadyH.cons rfl (fun K hK => ?_) AllReadyH.nil
                  go_simp
                  go_at_call 15
                  refine (holes_any (some ⟨bs, 0, none⟩) L x _ (HSET.out _ hHeld) (by omega)).mono ?_
                  rintro e v18 ⟨s18, rfl, hR18, hV18, hg18⟩
                  obtain ⟨r18, rc18, rfl⟩ := hR18.form
                  rw [HHO2.out] at hR18 ⊢
                  have hS18 : Upd [] wc v18 := hHeld.then hV18
                  go_wp2
                  refine hK.out _ _ hS18 (fun hHeld => ?_)
                  clear hK K
                  try simp only [Act.put, List.setIfInBounds_toArray, List.set_cons_zero, List.set_cons_succ]
                  change wpAnyH _ _ _ _ _ 34 #[true, true, true, true, true, true, true, true, true, true, true, true, true, true, true, true, true, true, true, true, false, false, false, false, false, false, false, false, false, false, false, false, false, false, false, false, false, false, false, false, false, false, false, false, false, false, false, false, false, false, false, false, false, false] _ _
                  refine wpAnyH_ready (rs := [20]) (by kernel_rfl) (by simp) ?_
                  refine AllReadyH.cons rfl (fun K hK => ?_) AllReadyH.nil
                  go_simp
                  go_at_call 11
                  refine ((show Calls Try.prog 11 #[.slice (some ⟨gh, 0, none⟩) 201 201] _ _ from by have q := rspans_any gh H _ (by rw [HL.out]; exact (HHz.out.upd hHeld (by simp))) (by rw [HL.out]; omega); rw [HL.out] at q; exact q)).mono ?_
                  rintro e v20 ⟨s20, rfl, hR20, hV20, hg20⟩
                  obtain ⟨r20, rc20, rfl⟩ := hR20.form
                  have hS20 : Upd [] wc v20 := hHeld.then hV20
                  go_wp2
                  refine hK.out _ _ hS20 (fun hHeld => ?_)
                  clear hK K
                  try simp only [Act.put, List.setIfInBounds_toArray, List.set_cons_zero, List.set_cons_succ]
                  change wpAnyH _ _ _ _ _ 33 #[true, true, true, true, true, true, true, true, true, true, true, true, true, true, true, true, true, true, true, true, true, false, false, false, false, false, false, false, false, false, false, false, false, false, false, false, false, false, false, false, false, false, false, false, false, false, false, false, false, false, false, false, false, false] _ _
                  refine wpAnyH_ready (rs := [21]) (by kernel_rfl) (by simp) ?_
                  refine AllReadyH.cons rfl (fun K hK => ?_) AllReadyH.nil
                  go_simp
                  go_at_call 13
                  refine (same_any _ _ (spansOf H) (spansOf H) _ (hR18.upd hV20 (by simp)) hR20 (by omega) (by omega)).mono ?_
                  rintro e v21 ⟨rfl, hV21⟩
                  rw [show decide (spansOf H = spansOf H) = true by simp]
                  have hS21 : Upd [] wc v21 := hHeld.then hV21
                  go_wp2
                  refine hK.out _ _ hS21 (fun hHeld => ?_)
                  clear hK K
                  try simp only [Act.put, List.setIfInBounds_toArray, List.set_cons_zero, List.set_cons_succ]
                  change wpAnyH _ _ _ _ _ 32 #[true, true, true, true, true, true, true, true, true, true, true, true, true, true, true, true, true, true, true, true, true, true, false, false, false, false, false, false, false, false, false, false, false, false, false, false, false, false, false, false, false, false, false, false, false, false, false, false, false, false, false, false, false, false] _ _
                  refine heldTake (i := 22) (d := some 166) (v := ?v22_31) rfl rfl (by kernel_rfl) (by kernel_rfl) (by kernel_rfl) (fun _ _ _ h => h) (by rfl) ?hy22_31 (by assumption) ?r22_31
                  case hy22_31 => (intro w hSw; (try dsimp only at hSw); go_simp; try with_reducible rfl)
                  try simp only [Act.put, List.setIfInBounds_toArray, List.set_cons_zero, List.set_cons_succ]
                  change wpAnyH _ _ _ _ _ 31 #[true, true, true, true, true, true, true, true, true, true, true, true, true, true, true, true, true, true, true, true, true, true, true, false, false, false, false, false, false, false, false, false, false, false, false, false, false, false, false, false, false, false, false, false, false, false, false, false, false, false, false, false, false, false] _ _
                  refine heldTake (i := 23) (d := some 167) (v := ?v23_32) rfl rfl (by kernel_rfl) (by kernel_rfl) (by kernel_rfl) (fun _ _ _ h => h) (by rfl) ?hy23_32 (by assumption) ?r23_32
                  case hy23_32 => (intro w hSw; (try dsimp only at hSw); go_simp; try with_reducible rfl)
                  try simp only [Act.put, List.setIfInBounds_toArray, List.set_cons_zero, List.set_cons_succ]
                  change wpAnyH _ _ _ _ _ 30 #[true, true, true, true, true, true, true, true, true, true, true, true, true, true, true, true, true, true, true, true, true, true, true, true, false, false, false, false, false, false, false, false, false, false, false, false, false, false, false, false, false, false, false, false, false, false, false, false, false, false, false, false, false, false] _ _
                  refine heldTake (i := 24) (d := some 168) (v := ?v24_33) rfl rfl (by kernel_rfl) (by kernel_rfl) (by kernel_rfl) (fun _ _ _ h => h) (by rfl) ?hy24_33 (by assumption) ?r24_33
                  case hy24_33 => (intro w hSw; (try dsimp only at hSw); go_simp; try with_reducible rfl)
                  try simp only [Act.put, List.setIfInBounds_toArray, List.set_cons_zero, List.set_cons_succ]
                  change wpAnyH _ _ _ _ _ 29 #[true, true, true, true, true, true, true, true, true, true, true, true, true, true, true, true, true, true, true, true, true, true, true, true, true, false, false, false, false, false, false, false, false, false, false, false, false, false, false, false, false, false, false, false, false, false, false, false, false, false, false, false, false, false] _ _
                  refine heldTake (i := 26) (d := some 170) (v := ?v26_34) rfl rfl (by kernel_rfl) (by kernel_rfl) (by kernel_rfl) (fun _ _ _ h => h) (by rfl) ?hy26_34 (by assumption) ?r26_34
                  case hy26_34 => (intro w hSw; (try dsimp only at hSw); go_simp; try with_reducible rfl)
                  try simp only [Act.put, List.setIfInBounds_toArray, List.set_cons_zero, List.set_cons_succ]
                  change wpAnyH _ _ _ _ _ 28 #[true, true, true, true, true, true, true, true, true, true, true, true, true, true, true, true, true, true, true, true, true, true, true, true, true, false, true, false, false, false, false, false, false, false, false, false, false, false, false, false, false, false, false, false, false, false, false, false, false, false, false, false, false, false] _ _
                  refine wpAnyH_ready (rs := [25]) (by kernel_rfl) (by simp) ?_
                  refine AllReadyH.cons rfl (fun K hK => ?_) AllReadyH.nil
                  go_simp
                  go_at_call 16
                  refine (total_any (some ⟨bs, 0, none⟩) L _ (HSET.out _ hHeld)).mono ?_
                  rintro e v25 ⟨rfl, hV25⟩
                  rw [HTT2.out]
                  have hS25 : Upd [] wc v25 := hHeld.then hV25
                  go_wp2
                  refine hK.out _ _ hS25 (fun hHeld => ?_)
                  clear hK K
                  try simp only [Act.put, List.setIfInBounds_toArray, List.set_cons_zero, List.set_cons_succ]
                  change wpAnyH _ _ _ _ _ 27 #[true, true, true, true, true, true, true, true, true, true, true, true, true, true, true, true, true, true, true, true, true, true, true, true, true, true, true, false, false, false, false, false, false, false, false, false, false, false, false, false, false, false, false, false, false, false, false, false, false, false, false, false, false, false] _ _
                  refine heldTake (i := 27) (d := some 171) (v := ?v27_36) rfl rfl (by kernel_rfl) (by kernel_rfl) (by kernel_rfl) (fun _ _ _ h => h) (by rfl) ?hy27_36 (by assumption) ?r27_36
                  case hy27_36 => (intro w hSw; (try dsimp only at hSw); go_simp; try with_reducible rfl)
                  try simp only [Act.put, List.setIfInBounds_toArray, List.set_cons_zero, List.set_cons_succ]
                  change wpAnyH _ _ _ _ _ 26 #[true, true, true, true, true, true, true, true, true, true, true, true, true, true, true, true, true, true, true, true, true, true, true, true, true, true, true, true, false, false, false, false, false, false, false, false, false, false, false, false, false, false, false, false, false, false, false, false, false, false, false, false, false, false] _ _
                  refine heldTake (i := 28) (d := some 172) (v := ?v28_37) rfl rfl (by kernel_rfl) (by kernel_rfl) (by kernel_rfl) (fun _ _ _ h => h) (by rfl) ?hy28_37 (by assumption) ?r28_37
                  case hy28_37 => (intro w hSw; (try dsimp only at hSw); go_simp; try with_reducible rfl)
                  try simp only [Act.put, List.setIfInBounds_toArray, List.set_cons_zero, List.set_cons_succ]
                  change wpAnyH _ _ _ _ _ 25 #[true, true, true, true, true, true, true, true, true, true, true, true, true, true, true, true, true, true, true, true, true, true, true, true, true, true, true, true, true, false, false, false, false, false, false, false, false, false, false, false, false, false, false, false, false, false, false, false, false, false, false, false, false, false] _ _
                  refine heldTake (i := 29) (d := some 173) (v := ?v29_38) rfl rfl (by kernel_rfl) (by kernel_rfl) (by kernel_rfl) (fun _ _ _ h => h) (by rfl) ?hy29_38 (by assumption) ?r29_38
                  case hy29_38 => (intro w hSw; (try dsimp only at hSw); go_simp; try with_reducible rfl)
                  try simp only [Act.put, List.setIfInBounds_toArray, List.set_cons_zero, List.set_cons_succ]
                  change wpAnyH _ _ _ _ _ 24 #[true, true, true, true, true, true, true, true, true, true, true, true, true, true, true, true, true, true, true, true, true, true, true, true, true, true, true, true, true, true, false, false, false, false, false, false, false, false, false, false, false, false, false, false, false, false, false, false, false, false, false, false, false, false] _ _
                  refine heldTake (i := 30) (d := some 174) (v := ?v30_39) rfl rfl (by kernel_rfl) (by kernel_rfl) (by kernel_rfl) (fun _ _ _ h => h) (by rfl) ?hy30_39 (by assumption) ?r30_39
                  case hy30_39 => (intro w hSw; (try dsimp only at hSw); go_simp; try with_reducible rfl)
                  try simp only [Act.put, List.setIfInBounds_toArray, List.set_cons_zero, List.set_cons_succ]
                  change wpAnyH _ _ _ _ _ 23 #[true, true, true, true, true, true, true, true, true, true, true, true, true, true, true, true, true, true, true, true, true, true, true, true, true, true, true, true, true, true, true, false, false, false, false, false, false, false, false, false, false, false, false, false, false, false, false, false, false, false, false, false, false, false] _ _
                  refine heldTake (i := 31) (d := some 175) (v := ?v31_40) rfl rfl (by kernel_rfl) (by kernel_rfl) (by kernel_rfl) (fun _ _ _ h => h) (by rfl) ?hy31_40 (by assumption) ?r31_40
                  case hy31_40 => (intro w hSw; (try dsimp only at hSw); go_simp; try with_reducible rfl)
                  try simp only [Act.put, List.setIfInBounds_toArray, List.set_cons_zero, List.set_cons_succ]
                  change wpAnyH _ _ _ _ _ 22 #[true, true, true, true, true, true, true, true, true, true, true, true, true, true, true, true, true, true, true, true, true, true, true, true, true, true, true, true, true, true, true, true, false, false, false, false, false, false, false, false, false, false, false, false, false, false, false, false, false, false, false, false, false, false] _ _
                  refine heldTake (i := 33) (d := some 177) (v := ?v33_41) rfl rfl (by kernel_rfl) (by kernel_rfl) (by kernel_rfl) (fun _ _ _ h => h) (by rfl) ?hy33_41 (by assumption) ?r33_41
                  case hy33_41 => (intro w hSw; (try dsimp only at hSw); go_simp; try with_reducible rfl)
                  try simp only [Act.put, List.setIfInBounds_toArray, List.set_cons_zero, List.set_cons_succ]
                  change wpAnyH _ _ _ _ _ 21 #[true, true, true, true, true, true, true, true, true, true, true, true, true, true, true, true, true, true, true, true, true, true, true, true, true, true, true, true, true, true, true, true, false, true, false, false, false, false, false, false, false, false, false, false, false, false, false, false, false, false, false, false, false, false] _ _
                  refine wpAnyH_ready (rs := [32]) (by kernel_rfl) (by simp) ?_
                  refine AllReadyH.cons rfl (fun K hK => ?_) AllReadyH.nil
                  go_simp
                  go_at_call 17
                  refine (has_any (some ⟨bs, 0, none⟩) L t0 _ (HSET.out _ hHeld)).mono ?_
                  rintro e v32 ⟨rfl, hV32⟩
                  rw [hhv]
                  have hS32 : Upd [] wc v32 := hHeld.then hV32
                  go_wp2
                  refine hK.out _ _ hS32 (fun hHeld => ?_)
                  clear hK K
                  try simp only [Act.put, List.setIfInBounds_toArray, List.set_cons_zero, List.set_cons_succ]
                  change wpAnyH _ _ _ _ _ 20 #[true, true, true, true, true, true, true, true, true, true, true, true, true, true, true, true, true, true, true, true, true, true, true, true, true, true, true, true, true, true, true, true, true, true, false, false, false, false, false, false, false, false, false, false, false, false, false, false, false, false, false, false, false, false] _ _
                  refine heldTake (i := 34) (d := some 178) (v := ?v34_43) rfl rfl (by kernel_rfl) (by kernel_rfl) (by kernel_rfl) (fun _ _ _ h => h) (by rfl) ?hy34_43 (by assumption) ?r34_43
                  case hy34_43 => (intro w hSw; (try dsimp only at hSw); go_simp; try with_reducible rfl)
                  try simp only [Act.put, List.setIfInBounds_toArray, List.set_cons_zero, List.set_cons_succ]
                  change wpAnyH _ _ _ _ _ 19 #[true, true, true, true, true, true, true, true, true, true, true, true, true, true, true, true, true, true, true, true, true, true, true, true, true, true, true, true, true, true, true, true, true, true, true, false, false, false, false, false, false, false, false, false, false, false, false, false, false, false, false, false, false, false] _ _
                  refine heldTake (i := 35) (d := some 179) (v := ?v35_44) rfl rfl (by kernel_rfl) (by kernel_rfl) (by kernel_rfl) (fun _ _ _ h => h) (by rfl) ?hy35_44 (by assumption) ?r35_44
                  case hy35_44 => (intro w hSw; (try dsimp only at hSw); go_simp; try with_reducible rfl)
                  try simp only [Act.put, List.setIfInBounds_toArray, List.set_cons_zero, List.set_cons_succ]
                  change wpAnyH _ _ _ _ _ 18 #[true, true, true, true, true, true, true, true, true, true, true, true, true, true, true, true, true, true, true, true, true, true, true, true, true, true, true, true, true, true, true, true, true, true, true, true, false, false, false, false, false, false, false, false, false, false, false, false, false, false, false, false, false, false] _ _
                  refine heldTake (i := 36) (d := some 180) (v := ?v36_45) rfl rfl (by kernel_rfl) (by kernel_rfl) (by kernel_rfl) (fun _ _ _ h => h) (by rfl) ?hy36_45 (by assumption) ?r36_45
                  case hy36_45 => (intro w hSw; (try dsimp only at hSw); go_simp; try with_reducible rfl)
                  try simp only [Act.put, List.setIfInBounds_toArray, List.set_cons_zero, List.set_cons_succ]
                  change wpAnyH _ _ _ _ _ 17 #[true, true, true, true, true, true, true, true, true, true, true, true, true, true, true, true, true, true, true, true, true, true, true, true, true, true, true, true, true, true, true, true, true, true, true, true, true, false, false, false, false, false, false, false, false, false, false, false, false, false, false, false, false, false] _ _
                  refine heldTake (i := 37) (d := some 181) (v := ?v37_46) rfl rfl (by kernel_rfl) (by kernel_rfl) (by kernel_rfl) (fun _ _ _ h => h) (by rfl) ?hy37_46 (by assumption) ?r37_46
                  case hy37_46 => (intro w hSw; (try dsimp only at hSw); go_simp; try with_reducible rfl)
                  try simp only [Act.put, List.setIfInBounds_toArray, List.set_cons_zero, List.set_cons_succ]
                  change wpAnyH _ _ _ _ _ 16 #[true, true, true, true, true, true, true, true, true, true, true, true, true, true, true, true, true, true, true, true, true, true, true, true, true, true, true, true, true, true, true, true, true, true, true, true, true, true, false, false, false, false, false, false, false, false, false, false, false, false, false, false, false, false] _ _
                  refine heldTake (i := 38) (d := some 182) (v := ?v38_47) rfl rfl (by kernel_rfl) (by kernel_rfl) (by kernel_rfl) (fun _ _ _ h => h) (by rfl) ?hy38_47 (by assumption) ?r38_47
                  case hy38_47 => (intro w hSw; have q0 := (HXz.out.upd hSw (by simp)).cell 0 rfl; have q1 := (HXz.out.upd hSw (by simp)).cell 1 rfl; go_simp; try with_reducible rfl)
                  try simp only [Act.put, List.setIfInBounds_toArray, List.set_cons_zero, List.set_cons_succ]
                  change wpAnyH _ _ _ _ _ 15 #[true, true, true, true, true, true, true, true, true, true, true, true, true, true, true, true, true, true, true, true, true, true, true, true, true, true, true, true, true, true, true, true, true, true, true, true, true, true, true, false, false, false, false, false, false, false, false, false, false, false, false, false, false, false] _ _
                  refine heldTake (i := 40) (d := some 184) (v := ?v40_48) rfl rfl (by kernel_rfl) (by kernel_rfl) (by kernel_rfl) (fun _ _ _ h => h) (by rfl) ?hy40_48 (by assumption) ?r40_48
                  case hy40_48 => (intro w hSw; (try dsimp only at hSw); go_simp; try with_reducible rfl)
                  try simp only [Act.put, List.setIfInBounds_toArray, List.set_cons_zero, List.set_cons_succ]
                  change wpAnyH _ _ _ _ _ 14 #[true, true, true, true, true, true, true, true, true, true, true, true, true, true, true, true, true, true, true, true, true, true, true, true, true, true, true, true, true, true, true, true, true, true, true, true, true, true, true, false, true, false, false, false, false, false, false, false, false, false, false, false, false, false] _ _
                  refine wpAnyH_ready (rs := [39]) (by kernel_rfl) (by simp) ?_
                  refine AllReadyH.cons rfl (fun K hK => ?_) AllReadyH.nil
                  go_simp
                  go_at_call 18
                  refine (meets_any (some ⟨bs, 0, none⟩) L x _ (HSET.out _ hHeld)).mono ?_
                  rintro e v39 ⟨rfl, hV39⟩
                  rw [HMT2.out]
                  have hS39 : Upd [] wc v39 := hHeld.then hV39
                  go_wp2
                  refine hK.out _ _ hS39 (fun hHeld => ?_)
                  clear hK K
                  try simp only [Act.put, List.setIfInBounds_toArray, List.set_cons_zero, List.set_cons_succ]
                  change wpAnyH _ _ _ _ _ 13 #[true, true, true, true, true, true, true, true, true, true, true, true, true, true, true, true, true, true, true, true, true, true, true, true, true, true, true, true, true, true, true, true, true, true, true, true, true, true, true, true, true, false, false, false, false, false, false, false, false, false, false, false, false, false] _ _
                  refine heldTake (i := 41) (d := some 185) (v := ?v41_50) rfl rfl (by kernel_rfl) (by kernel_rfl) (by kernel_rfl) (fun _ _ _ h => h) (by rfl) ?hy41_50 (by assumption) ?r41_50
                  case hy41_50 => (intro w hSw; (try dsimp only at hSw); go_simp; try with_reducible rfl)
                  try simp only [Act.put, List.setIfInBounds_toArray, List.set_cons_zero, List.set_cons_succ]
                  change wpAnyH _ _ _ _ _ 12 #[true, true, true, true, true, true, true, true, true, true, true, true, true, true, true, true, true, true, true, true, true, true, true, true, true, true, true, true, true, true, true, true, true, true, true, true, true, true, true, true, true, true, false, false, false, false, false, false, false, false, false, false, false, false] _ _
                  refine heldTake (i := 42) (d := some 186) (v := ?v42_51) rfl rfl (by kernel_rfl) (by kernel_rfl) (by kernel_rfl) (fun _ _ _ h => h) (by rfl) ?hy42_51 (by assumption) ?r42_51
                  case hy42_51 => (intro w hSw; (try dsimp only at hSw); go_simp; try with_reducible rfl)
                  try simp only [Act.put, List.setIfInBounds_toArray, List.set_cons_zero, List.set_cons_succ]
                  change wpAnyH _ _ _ _ _ 11 #[true, true, true, true, true, true, true, true, true, true, true, true, true, true, true, true, true, true, true, true, true, true, true, true, true, true, true, true, true, true, true, true, true, true, true, true, true, true, true, true, true, true, true, false, false, false, false, false, false, false, false, false, false, false] _ _
                  refine heldTake (i := 43) (d := some 187) (v := ?v43_52) rfl rfl (by kernel_rfl) (by kernel_rfl) (by kernel_rfl) (fun _ _ _ h => h) (by rfl) ?hy43_52 (by assumption) ?r43_52
                  case hy43_52 => (intro w hSw; (try dsimp only at hSw); go_simp; try with_reducible rfl)
                  try simp only [Act.put, List.setIfInBounds_toArray, List.set_cons_zero, List.set_cons_succ]
                  change wpAnyH _ _ _ _ _ 10 #[true, true, true, true, true, true, true, true, true, true, true, true, true, true, true, true, true, true, true, true, true, true, true, true, true, true, true, true, true, true, true, true, true, true, true, true, true, true, true, true, true, true, true, true, false, false, false, false, false, false, false, false, false, false] _ _
                  refine heldTake (i := 44) (d := some 188) (v := ?v44_53) rfl rfl (by kernel_rfl) (by kernel_rfl) (by kernel_rfl) (fun _ _ _ h => h) (by rfl) ?hy44_53 (by assumption) ?r44_53
                  case hy44_53 => (intro w hSw; have q0 := (HXz.out.upd hSw (by simp)).cell 0 rfl; have q1 := (HXz.out.upd hSw (by simp)).cell 1 rfl; go_simp; try with_reducible rfl)
                  try simp only [Act.put, List.setIfInBounds_toArray, List.set_cons_zero, List.set_cons_succ]
                  change wpAnyH _ _ _ _ _ 9 #[true, true, true, true, true, true, true, true, true, true, true, true, true, true, true, true, true, true, true, true, true, true, true, true, true, true, true, true, true, true, true, true, true, true, true, true, true, true, true, true, true, true, true, true, true, false, false, false, false, false, false, false, false, false] _ _
                  refine heldTake (i := 46) (d := some 190) (v := ?v46_54) rfl rfl (by kernel_rfl) (by kernel_rfl) (by kernel_rfl) (fun _ _ _ h => h) (by rfl) ?hy46_54 (by assumption) ?r46_54
                  case hy46_54 => (intro w hSw; have q0 := (HXz.out.upd hSw (by simp)).cell 0 rfl; have q1 := (HXz.out.upd hSw (by simp)).cell 1 rfl; go_simp; try with_reducible rfl)
                  try simp only [Act.put, List.setIfInBounds_toArray, List.set_cons_zero, List.set_cons_succ]
                  change wpAnyH _ _ _ _ _ 8 #[true, true, true, true, true, true, true, true, true, true, true, true, true, true, true, true, true, true, true, true, true, true, true, true, true, true, true, true, true, true, true, true, true, true, true, true, true, true, true, true, true, true, true, true, true, false, true, false, false, false, false, false, false, false] _ _
                  refine wpAnyH_ready (rs := [45]) (by kernel_rfl) (by simp) ?_
                  refine AllReadyH.cons rfl (fun K hK => ?_) AllReadyH.nil
                  go_simp
                  go_at_call 19
                  refine (right_any _ _ _).mono ?_
                  rintro e v45 ⟨rfl, hV45⟩
                  rw [show spanOk (x.1, x.2) = sp from HSP.out]
                  have hS45 : Upd [] wc v45 := hHeld.then hV45
                  go_wp2
                  refine hK.out _ _ hS45 (fun hHeld => ?_)
                  clear hK K
                  try simp only [Act.put, List.setIfInBounds_toArray, List.set_cons_zero, List.set_cons_succ]
                  change wpAnyH _ _ _ _ _ 7 #[true, true, true, true, true, true, true, true, true, true, true, true, true, true, true, true, true, true, true, true, true, true, true, true, true, true, true, true, true, true, true, true, true, true, true, true, true, true, true, true, true, true, true, true, true, true, true, false, false, false, false, false, false, false] _ _
                  refine wpAnyH_ready (rs := [47]) (by kernel_rfl) (by simp) ?_
                  refine AllReadyH.cons rfl (fun K hK => ?_) AllReadyH.nil
                  go_simp
                  go_at_call 20
                  refine (rright_any _ _ _).mono ?_
                  rintro e v47 ⟨rfl, hV47⟩
                  rw [show spanOk (x.1, x.2) = sp from HSP.out]
                  have hS47 : Upd [] wc v47 := hHeld.then hV47
                  go_wp2
                  refine hK.out _ _ hS47 (fun hHeld => ?_)
                  clear hK K
                  try simp only [Act.put, List.setIfInBounds_toArray, List.set_cons_zero, List.set_cons_succ]
                  change wpAnyH _ _ _ _ _ 6 #[true, true, true, true, true, true, true, true, true, true, true, true, true, true, true, true, true, true, true, true, true, true, true, true, true, true, true, true, true, true, true, true, true, true, true, true, true, true, true, true, true, true, true, true, true, true, true, true, false, false, false, false, false, false] _ _
                  refine heldTake (i := 48) (d := some 192) (v := ?v48_57) rfl rfl (by kernel_rfl) (by kernel_rfl) (by kernel_rfl) (fun _ _ _ h => h) (by rfl) ?hy48_57 (by assumption) ?r48_57
                  case hy48_57 => (intro w hSw; (try dsimp only at hSw); go_simp; try with_reducible rfl)
                  try simp only [Act.put, List.setIfInBounds_toArray, List.set_cons_zero, List.set_cons_succ]
                  change wpAnyH _ _ _ _ _ 5 #[true, true, true, true, true, true, true, true, true, true, true, true, true, true, true, true, true, true, true, true, true, true, true, true, true, true, true, true, true, true, true, true, true, true, true, true, true, true, true, true, true, true, true, true, true, true, true, true, true, false, false, false, false, false] _ _
                  refine heldTake (i := 49) (d := some 193) (v := ?v49_58) rfl rfl (by kernel_rfl) (by kernel_rfl) (by kernel_rfl) (fun _ _ _ h => h) (by rfl) ?hy49_58 (by assumption) ?r49_58
                  case hy49_58 => (intro w hSw; (try dsimp only at hSw); go_simp; try with_reducible rfl)
                  try simp only [Act.put, List.setIfInBounds_toArray, List.set_cons_zero, List.set_cons_succ]
                  change wpAnyH _ _ _ _ _ 4 #[true, true, true, true, true, true, true, true, true, true, true, true, true, true, true, true, true, true, true, true, true, true, true, true, true, true, true, true, true, true, true, true, true, true, true, true, true, true, true, true, true, true, true, true, true, true, true, true, true, true, false, false, false, false] _ _
                  refine heldTake (i := 50) (d := some 194) (v := ?v50_59) rfl rfl (by kernel_rfl) (by kernel_rfl) (by kernel_rfl) (fun _ _ _ h => h) (by rfl) ?hy50_59 (by assumption) ?r50_59
                  case hy50_59 => (intro w hSw; (try dsimp only at hSw); go_simp; try with_reducible rfl)
                  try simp only [Act.put, List.setIfInBounds_toArray, List.set_cons_zero, List.set_cons_succ]
                  change wpAnyH _ _ _ _ _ 3 #[true, true, true, true, true, true, true, true, true, true, true, true, true, true, true, true, true, true, true, true, true, true, true, true, true, true, true, true, true, true, true, true, true, true, true, true, true, true, true, true, true, true, true, true, true, true, true, true, true, true, true, false, false, false] _ _
                  refine wpAnyH_ready (rs := [51]) (by kernel_rfl) (by simp) ?_
                  refine AllReadyH.cons rfl (fun K hK => ?_) AllReadyH.nil
                  go_simp
                  go_at_call 6
                  refine (lives24 _).mono ?_
                  rintro e v51 ⟨rfl, hV51⟩
                  have hS51 : Upd [] wc v51 := hHeld.then hV51
                  go_wp2
                  refine hK.out _ _ hS51 (fun hHeld => ?_)
                  clear hK K
                  try simp only [Act.put, List.setIfInBounds_toArray, List.set_cons_zero, List.set_cons_succ]
                  change wpAnyH _ _ _ _ _ 2 #[true, true, true, true, true, true, true, true, true, true, true, true, true, true, true, true, true, true, true, true, true, true, true, true, true, true, true, true, true, true, true, true, true, true, true, true, true, true, true, true, true, true, true, true, true, true, true, true, true, true, true, true, false, false] _ _
                  refine heldTake (i := 52) (d := some 196) (v := ?v52_61) rfl rfl (by kernel_rfl) (by kernel_rfl) (by kernel_rfl) (fun _ _ _ h => h) (by rfl) ?hy52_61 (by assumption) ?r52_61
                  case hy52_61 => (intro w hSw; (try dsimp only at hSw); go_simp; try with_reducible rfl)
                  try simp only [Act.put, List.setIfInBounds_toArray, List.set_cons_zero, List.set_cons_succ]
                  change wpAnyH _ _ _ _ _ 1 #[true, true, true, true, true, true, true, true, true, true, true, true, true, true, true, true, true, true, true, true, true, true, true, true, true, true, true, true, true, true, true, true, true, true, true, true, true, true, true, true, true, true, true, true, true, true, true, true, true, true, true, true, true, false] _ _
                  refine heldTake (i := 53) (d := some 6) (v := ?v53_62) rfl rfl (by kernel_rfl) (by kernel_rfl) (by kernel_rfl) (fun _ _ _ h => h) (by rfl) ?hy53_62 (by assumption) ?r53_62
                  case hy53_62 => (intro w hSw; (try dsimp only at hSw); go_simp; try with_reducible rfl)
                  try simp only [Act.put, List.setIfInBounds_toArray, List.set_cons_zero, List.set_cons_succ]
                  change wpAnyH _ _ _ _ _ 0 #[true, true, true, true, true, true, true, true, true, true, true, true, true, true, true, true, true, true, true, true, true, true, true, true, true, true, true, true, true, true, true, true, true, true, true, true, true, true, true, true, true, true, true, true, true, true, true, true, true, true, true, true, true, true] _ _
                  refine wpAnyH_done (by kernel_rfl) ?_ 0
                  go_wp2
                  have hk9 := (hS51.block D hDlt2 (by simp)).trans HDz.out
                  refine ⟨by simp, .inl ⟨_, _, rfl, run_takeDeferred hk9, ?_⟩⟩
                  exact ⟨_, results_tmp rfl _ _ _, rfl, (HUz.out.then hS51).putObj hDlt _⟩
end Go.Proofs.Ytibmhadnfggmlaa

/- Package extent: Add, Cut at a set (whatever the span); New, Holes. -/
import Derived.Test.YtibmhadnfggmlaaExtI
namespace Go.Proofs.Ytibmhadnfggmlaa
open Go.RowKit Go.Shelf
attribute [local go_sem] Oper.semAt_some

theorem cut_len0 (x : Int × Int) : ∀ l : List (Int × Int), Norm l → (∀ z ∈ l, x.1 ≤ z.1) → (l.flatMap (cutOne x)).length ≤ l.length
  | [], _, _ => by simp
  | y :: l, h, hz => by
    rw [List.flatMap_cons, List.length_append, List.length_cons]
    have ih := cut_len0 x l h.2.2 (fun z hz' => hz z (by simp [hz']))
    have h1 := hz y (by simp)
    have h2 : (cutOne x y).length ≤ 1 := by
      unfold cutOne; rw [if_neg (by omega), List.nil_append]; split <;> simp
    omega
theorem cut_len (x : Int × Int) (hx : x.1 < x.2) : ∀ l : List (Int × Int), Norm l → (l.flatMap (cutOne x)).length ≤ l.length + 1
  | [], _ => by simp
  | y :: l, h => by
    rw [List.flatMap_cons, List.length_append, List.length_cons]
    have ih := cut_len x hx l h.2.2
    by_cases h2 : max y.1 x.2 < y.2
    · have := cut_len0 x l h.2.2 (fun z hz => by have := h.2.1 z hz; omega)
      have := cutOne_len x y
      omega
    · have h1 : (cutOne x y).length ≤ 1 := by
        unfold cutOne; rw [if_neg h2, List.append_nil]; split <;> simp
      omega
theorem cutP_len {x : Int × Int} {l : List (Int × Int)} (h : Norm l) : (cutP l x).length ≤ l.length + 1 := by
  unfold cutP
  split
  · rename_i hx; exact cut_len x (spanOk_iff.1 hx).2.1 l h
  · omega
theorem addP_len (x : Int × Int) (l : List (Int × Int)) : (addP l x).length ≤ l.length + 1 := by
  unfold addP
  split
  · have := addStep_len l ([], x, [])
    simp only [List.length_append, List.length_cons, List.length_nil] at *
    omega
  · omega
theorem addP_nil {x : Int × Int} (h : spanOk x = true) : addP [] x = [x] := by unfold addP; rw [if_pos h]; rfl
/-- The row's block is the same one, or a new one. -/
def Nw (w : World) (v v' : Value) : Prop := ∀ g, v'.ownBlock = some g → v.ownBlock = some g ∨ w.heap.size ≤ g
theorem add_any (b : Nat) (v : Value) (l : List (Int × Int)) (x : Int × Int) (w : World) (hS : SetW w b v l) (hl : l.length ≤ 900000) :
    Calls Try.prog 9 #[.pointer (some ⟨b, 0, none⟩), .agg #[.int .i64 x.1, .int .i64 x.2]] w fun e w' => e = .returned (.tuple #[]) ∧
      ∃ v', SetW w' b v' (addP l x) ∧ Upd [b] w w' ∧ Nw w v v' := by
  by_cases hx : spanOk x = true
  · refine (add_yes b v l x w hS hl hx).mono ?_
    rintro e w' ⟨he, v', h1, h2, h3⟩
    exact ⟨he, v', h1, h2, fun g hg => .inr (h3 g hg)⟩
  · refine (add_not b x w (by simpa using hx)).mono ?_
    rintro e w' ⟨he, hU⟩
    refine ⟨he, v, ?_, hU.mono (by simp), fun g hg => .inl hg⟩
    unfold addP; rw [if_neg hx]; exact hS.pure hU
theorem cut_any (b : Nat) (v : Value) (l : List (Int × Int)) (x : Int × Int) (w : World) (hS : SetW w b v l) (hl : l.length ≤ 900000) :
    Calls Try.prog 8 #[.pointer (some ⟨b, 0, none⟩), .agg #[.int .i64 x.1, .int .i64 x.2]] w fun e w' => e = .returned (.tuple #[]) ∧
      ∃ v', SetW w' b v' (cutP l x) ∧ Upd [b] w w' ∧ Nw w v v' := by
  by_cases hx : spanOk x = true
  · refine (cut_yes b v l x w hS hl hx).mono ?_
    rintro e w' ⟨he, v', h1, h2, h3⟩
    refine ⟨he, v', ?_, h2, fun g hg => .inr (h3 g hg)⟩
    unfold cutP; rw [if_pos hx]; exact h1
  · refine (cut_not b x w (by simpa using hx)).mono ?_
    rintro e w' ⟨he, hU⟩
    refine ⟨he, v, ?_, hU.mono (by simp), fun g hg => .inl hg⟩
    unfold cutP; rw [if_neg hx]; exact hS.pure hU
/-- Spans that came in a slice, cell by cell. -/
def SpansIn (w : World) (a : Option Addr) (len : Nat) (f : Nat → Int × Int) : Prop :=
  ∀ i, i < len → ∃ b off, a = some ⟨b, off, none⟩ ∧ w.cell? ⟨b, off + i * 2, none⟩ = some (.int .i64 (f i).1) ∧ w.cell? ⟨b, off + i * 2 + 1, none⟩ = some (.int .i64 (f i).2)
theorem SpansIn.upd {w wr : World} {a : Option Addr} {len : Nat} {f : Nat → Int × Int} (h : SpansIn w a len f) (hU : Upd [] w wr) : SpansIn wr a len f := fun i hi => by
  obtain ⟨b, off, rfl, c0, c1⟩ := h i hi
  have hb : b < w.heap.size := World.block_lt_of_cell? w _ c0
  exact ⟨b, off, rfl, (hU.at hb (by simp) _).trans c0, (hU.at hb (by simp) _).trans c1⟩
/-- A set of the call's own: its block, and its row's, are new ones. -/
structure NewSet (w w' : World) (b : Nat) (v : Value) (l : List (Int × Int)) : Prop where
  set : SetW w' b v l
  up : Upd [] w w'
  gb : w.heap.size ≤ b
  gv : ∀ g, v.ownBlock = some g → w.heap.size ≤ g
theorem NewSet.step {w w' w'' : World} {b : Nat} {v v' : Value} {l l' : List (Int × Int)} (h : NewSet w w' b v l) (hS : SetW w'' b v' l') (hU : Upd [b] w' w'') (hN : Nw w' v v') : NewSet w w'' b v' l' :=
  ⟨hS, h.up.trans hU (fun k hk => by simp at hk; right; rw [hk]; exact h.gb), h.gb, fun g hg => by
    rcases hN g hg with h1 | h1
    · exact h.gv g h1
    · have := h.up.size; omega⟩
theorem NewSet.pure {w w' w'' : World} {b : Nat} {v : Value} {l : List (Int × Int)} (h : NewSet w w' b v l) (hU : Upd [] w' w'') : NewSet w w'' b v l := ⟨h.set.pure hU, h.up.then hU, h.gb, h.gv⟩
theorem NewSet.inn {w w' : World} {b : Nat} {v : Value} {l : List (Int × Int)} (h : NewSet w w' b v l) (hl : l.length ≤ 1000000) : SetIn w'.heap.size w' (some ⟨b, 0, none⟩) l := h.set.inn hl
def addsP (f : Nat → Int × Int) (k : Nat) : List (Int × Int) := ((List.range k).map f).foldl addP []
theorem addsP_succ (f : Nat → Int × Int) (k : Nat) : addsP f (k + 1) = addP (addsP f k) (f k) := by unfold addsP; rw [List.range_succ, List.map_append, List.foldl_append]; rfl
theorem addsP_len (f : Nat → Int × Int) : ∀ k, (addsP f k).length ≤ k
  | 0 => by simp [addsP]
  | k + 1 => by rw [addsP_succ]; have := addP_len (f k) (addsP f k); have := addsP_len f k; omega
set_option maxHeartbeats 1000000 in
theorem new_any (a : Option Addr) (len cap : Nat) (f : Nat → Int × Int) (w : World) (hl : len ≤ 100000) (hcap : cap ≤ 9223372036854775807) (hlc : len ≤ cap) (hin : SpansIn w a len f) :
    Calls Try.prog 7 #[.slice a len cap] w fun e w' => ∃ b v, e = .returned (.pointer (some ⟨b, 0, none⟩)) ∧ NewSet w w' b v (addsP f len) := by
  have HI := Lib.hid hin
  clear hin
  go_enter Try.func7, Try.ntmps7
  go_wp2
  go_loopg [10] len (fun g s10 wr => ∃ k v, k ≤ len ∧ g = len - k ∧ s10 = .int .i64 (k : Nat) ∧ NewSet w wr w.heap.size v (addsP f k))
  case atStart =>
    exact ⟨0, _, by omega, rfl, rfl, ⟨⟨Blk.new w [.slice none 0 0] _, Row.nil _ _ _, by simp [Value.ownBlock]⟩, (Upd.refl _ _).alloc _, Nat.le_refl _, by simp [Value.ownBlock]⟩⟩
  case round =>
    obtain ⟨k, v, hk, rfl, rfl, hN⟩ := hrel
    by_cases hc : k < len
    · have hcz : (k : Int) < (len : Int) := by omega
      obtain ⟨b, off, rfl, c0, c1⟩ := (HI.out.upd hN.up) k hc
      have hnn := addsP_succ f k
      have HNN := Lib.hid hnn
      have hln := addsP_len f k
      clear hnn
      have hN2 := hN.pure ((Upd.refl [] wr).alloc (.cells #[.int .i64 (f k).1, .int .i64 (f k).2] 24))
      have HN := Lib.hid hN2
      clear hN hN2
      generalize addsP f k = lk at *
      generalize hfk : f k = y at *
      clear hfk
      go_wp2_with fail
      refine (add_any _ _ _ y _ HN.out.set (by omega)).mono ?_
      rintro e w2 ⟨rfl, v2, h1, h2, h3⟩
      go_wp2
      go_roundg (len - (k + 1))
      all_goals first
        | omega
        | exact ⟨k + 1, v2, by omega, rfl, by go_num, by rw [HNN.out]; exact HN.out.step h1 h2 h3⟩
    · obtain rfl : k = len := by omega
      go_wp2
      go_ret
      exact ⟨_, v, rfl, hN⟩
def holesW (l : List (Int × Int)) (x : Int × Int) : List (Int × Int) := l.foldl cutP [x]
theorem cutsP_norm : ∀ (l m : List (Int × Int)), Norm m → Norm (l.foldl cutP m) ∧ (l.foldl cutP m).length ≤ m.length + l.length
  | [], m, h => ⟨h, by simp⟩
  | y :: l, m, h => by
    rw [List.foldl_cons]
    obtain ⟨h1, h2⟩ := cutsP_norm l (cutP m y) (cutP_norm y h)
    have := cutP_len (x := y) h
    refine ⟨h1, ?_⟩
    rw [List.length_cons]; omega
theorem holes_not (p : Option Addr) (x : Int × Int) (w : World) (hx : spanOk x = false) : Calls Try.prog 15 #[.pointer p, .agg #[.int .i64 x.1, .int .i64 x.2]] w fun e w' => e = .returned (.slice none 0 0) ∧ Upd [] w w' := by
  have HX := Lib.hid hx
  clear hx
  go_enter Try.func15, Try.ntmps15
  go_wp2_with fail
  refine (right_any _ _ _).mono ?_
  rintro e w' ⟨rfl, hU⟩
  rw [HX.out]
  go_wp2
  go_ret
  exact ⟨rfl, ((Upd.refl _ _).alloc _).then hU⟩
set_option maxRecDepth 100000 in
set_option maxHeartbeats 4000000 in
theorem holes_yes (p : Option Addr) (l : List (Int × Int)) (x : Int × Int) (w : World) (hS : SetIn w.heap.size w p l) (hl : l.length ≤ 800000) (hx : spanOk x = true) :
    Calls Try.prog 15 #[.pointer p, .agg #[.int .i64 x.1, .int .i64 x.2]] w fun e w' =>
      ∃ v, e = .returned v ∧ Row w' 24 2 v (holesW l x).length (flat (holesW l x)) ∧ Upd [] w w' ∧ (∀ g, v.ownBlock = some g → w.heap.size ≤ g) := by
  have HX := Lib.hid hx
  have HS := Lib.hid hS
  clear hx hS
  refine (callsIn_wide (n := 9)).1 ?_
  refine callsIn_of_wp_marks Try.func15 rfl trivial ?_ rfl
  simp only [Try.ntmps15, List.size_toArray, List.length_cons, List.length_nil, Nat.reduceAdd, Nat.reduceSub, Array.replicate_succ, Array.replicate_zero, List.push_toArray, List.append_toArray, List.nil_append, List.cons_append]
  gi_wp2_with fail
  refine ⟨trivial, (callsIn_wide.2 (right_any _ _ _)).mono ?_⟩
  rintro e w1 ⟨rfl, hU1⟩
  rw [HX.out]
  have hbx := (Blk.new w [.int .i64 x.1, .int .i64 x.2] 24).upd hU1 (by simp)
  have hU01 : Upd [] w w1 := ((Upd.refl [] w).alloc _).then hU1
  have x0 := hbx.cell 0 rfl
  have x1 := hbx.cell 1 rfl
  clear hbx
  have hs1 := hU01.size
  have hnb := Blk.new w1 [.int .i64 x.1, .int .i64 x.2] 24
  have hnew := new_any (some ⟨w1.heap.size, 0, none⟩) 1 1 (fun _ => x) (w1.alloc (.cells #[.int .i64 x.1, .int .i64 x.2] 24)) (by omega) (by omega) (by omega)
    (fun i hi => ⟨w1.heap.size, 0, rfl, by have : i = 0 := by omega
                                           subst this; exact hnb.cell 0 rfl, by have : i = 0 := by omega
                                                                                subst this; exact hnb.cell 1 rfl⟩)
  have HNEW := Lib.hid hnew
  clear hnew hnb
  gi_wp2_with fail
  refine ⟨trivial, (callsIn_wide.2 HNEW.out).mono ?_⟩
  rintro e w2 ⟨bo, vo, rfl, hN⟩
  have hone : addsP (fun _ => x) 1 = [x] := by rw [addsP_succ]; exact addP_nil HX.out
  rw [hone] at hN
  clear hone
  have hU02 : Upd [] w w2 := (hU01.alloc _).then hN.up
  have hgb : w.heap.size ≤ bo := by have := hN.gb; simp at this; omega
  have hgv : ∀ g, vo.ownBlock = some g → w.heap.size ≤ g := fun g hg => by have := hN.gv g hg; simp at this; omega
  have hS2 := hN.set
  have HN := Lib.hid hN
  clear hN x0 x1
  have hs2 := hU02.size
  gi_wp2_with fail
  refine ⟨trivial, (callsIn_wide.2 (all_any _ _)).mono ?_⟩
  rintro e w5 ⟨rfl, rfl⟩
  gi_wp2_with fail
  have hP0 := (Blk.new w2 [.pointer (some ⟨bo, 0, none⟩)] 27).alloc (.cells #[.pointer p] 27)
  have hB0 : Blk ((w2.alloc (.cells #[.pointer (some ⟨bo, 0, none⟩)] 27)).alloc (.cells #[.pointer p] 27)) (w2.heap.size + 1) [.pointer p] 27 := by
    have := Blk.new (w2.alloc (.cells #[.pointer (some ⟨bo, 0, none⟩)] 27)) [.pointer p] 27
    simpa using this
  have hUa : Upd [] w2 ((w2.alloc (.cells #[.pointer (some ⟨bo, 0, none⟩)] 27)).alloc (.cells #[.pointer p] 27)) := ((Upd.refl [] w2).alloc _).alloc _
  have hz0 : ((w2.alloc (.cells #[.pointer (some ⟨bo, 0, none⟩)] 27)).alloc (.cells #[.pointer p] 27)).heap.size = w2.heap.size + 2 := by simp
  have hrl : ∀ g, vo.ownBlock = some g → g < w2.heap.size := hS2.row.lt
  have hbl := hS2.blk.lt
  have hS3 := hS2.pure hUa
  have hU03 := hU02.then hUa
  clear hS2
  revert hP0 hB0 hUa hz0 hS3 hU03
  generalize (w2.alloc (.cells #[.pointer (some ⟨bo, 0, none⟩)] 27)).alloc (.cells #[.pointer p] 27) = W0
  intro hP0 hB0 hUa hz0 hS3 hU03
  refine loopSet (w2.heap.size + 1) w.heap.size p l rfl rfl (by omega) (hB0.cell 0 rfl) (HS.out.below hU03.below)
    (fun pre W => (∃ v, SetW W bo v (pre.foldl cutP [x]) ∧ (∀ g, v.ownBlock = some g → w.heap.size ≤ g ∧ g ≠ w2.heap.size)) ∧ Blk W w2.heap.size [.pointer (some ⟨bo, 0, none⟩)] 27 ∧ Upd [] w W)
    (fun _ _ _ => False) ?own (fun _ _ _ _ _ hs _ _ => hs) ⟨⟨vo, hS3, fun g hg => ⟨hgv g hg, by have := hrl g hg; omega⟩⟩, hP0, hU03⟩ ?act
    (fun _ _ => True) (fun _ _ _ _ _ _ _ _ => trivial) (fun _ _ _ _ _ => trivial) ?assign ?body ?done ?stop
  case assign =>
    intro L y Bx W K hBx hK
    gi_wp2
    rw [← hBx]
    exact hK
  case own =>
    intro s A B row hs hg hr
    obtain ⟨⟨v', h1, h2⟩, h3, h5⟩ := hs
    exact ⟨⟨v', ⟨blk_own _ _ (fun (_ : Unit) => _) _ () A B row h1.blk hg hr, h1.row.own hg hr, h1.far⟩, h2⟩, blk_own _ _ (fun (_ : Unit) => _) _ () A B row h3 hg hr, upd_own _ _ _ (by omega) () A B row h5 hg hr⟩
  case body =>
    rintro L pre y Bx W hBx hsz hy hpre hbx _ ⟨⟨v1, hS1, hg1⟩, hP, hUW⟩ hlt
    have y0 := hbx.cell 0 rfl
    have y1 := hbx.cell 1 rfl
    have p0 := hP.cell 0 rfl
    have hnm := cutsP_norm pre [x] (norm_one (spanOk_iff.1 HX.out))
    have hlen := hnm.2
    simp only [List.length_cons, List.length_nil] at hlen
    have hsu := hUW.size
    have HS1 := Lib.hid hS1
    have HP := Lib.hid hP
    clear hS1 hP hpre hnm hS3
    gi_wp2_with fail
    refine ⟨trivial, (CallsIn.inRound L (callsIn_wide.2 (cut_any bo v1 _ y _ HS1.out (by omega)))).mono ?_⟩
    rintro e W2 ⟨rfl, v2, h1, h2, h3⟩
    gi_wp2
    refine ⟨h2.keeps (fun k hk _ => by simp at hk; subst hk; exact HS1.out.blk.isc), h2.below' (by omega) (fun k hk => by simp at hk; omega), ⟨v2, ?_, fun g hg => ?_⟩, ?_, ?_⟩
    · rw [List.foldl_append]; exact h1
    · rcases h3 g hg with h4 | h4
      · exact hg1 g h4
      · have := HP.out.lt; omega
    · exact HP.out.upd h2 (by simp; omega)
    · exact hUW.trans h2 (fun k hk => by simp at hk; right; omega)
  case done =>
    rintro D W hD ⟨⟨v1, hS1, hg1⟩, hP, hUW⟩ hK
    have p0 := hP.cell 0 rfl
    have hnm := cutsP_norm l [x] (norm_one (spanOk_iff.1 HX.out))
    have hlen := hnm.2
    simp only [List.length_cons, List.length_nil] at hlen
    have hsp := spans_any (some ⟨bo, 0, none⟩) (l.foldl cutP [x]) W (hS1.inn (by omega))
    have HSP := Lib.hid hsp
    have HK := Lib.hid hK
    have hsu := hUW.size
    clear hsp hS1 hP hnm hK hS3
    obtain ⟨r, hr⟩ : ∃ r, holesW l x = r := ⟨_, rfl⟩
    have HR := Lib.hid hr
    have e : l.foldl cutP [x] = r := hr
    rw [e] at HSP
    clear hr e hlen
    gi_wp2_with fail
    refine ⟨trivial, (callsIn_wide.2 HSP.out).mono ?_⟩
    rintro e W2 ⟨v2, rfl, hR2, hU2, hg2⟩
    obtain ⟨va, vc, rfl⟩ := hR2.form
    have HR2 := Lib.hid hR2
    have HG2 := Lib.hid hg2
    have hK2 := (hU2.block D (Array.getElem?_eq_some_iff.1 HK.out).1 (by simp)).trans HK.out
    have HK2 := Lib.hid hK2
    clear hR2 hg2 hK2
    gi_wp2
    refine ⟨by simp, .inl ⟨_, _, rfl, run_takeDeferred HK2.out, ?_⟩⟩
    rw [HR.out]
    exact ⟨_, results_tmp rfl _ _ _, .slice va r.length vc, rfl, HR2.out.putObj HK2.out rfl _, (hUW.then hU2).putObj (by omega) _, fun g hg => by have := HG2.out g hg; omega⟩
  case stop =>
    intro D c pre W _ _ h _
    exact h.elim
theorem holes_any (p : Option Addr) (l : List (Int × Int)) (x : Int × Int) (w : World) (hS : SetIn w.heap.size w p l) (hl : l.length ≤ 800000) :
    Calls Try.prog 15 #[.pointer p, .agg #[.int .i64 x.1, .int .i64 x.2]] w fun e w' =>
      ∃ v, e = .returned v ∧ Row w' 24 2 v (holesP l x).length (flat (holesP l x)) ∧ Upd [] w w' ∧ (∀ g, v.ownBlock = some g → w.heap.size ≤ g) := by
  by_cases hx : spanOk x = true
  · have e : holesP l x = holesW l x := by unfold holesP; rw [if_pos hx]; rfl
    rw [e]
    exact holes_yes p l x w hS hl hx
  · have e : holesP l x = [] := by unfold holesP; rw [if_neg hx]
    rw [e]
    refine (holes_not p x w (by simpa using hx)).mono ?_
    rintro e w' ⟨rfl, hU⟩
    exact ⟨_, rfl, Row.nil _ _ _, hU, by simp [Value.ownBlock]⟩
end Go.Proofs.Ytibmhadnfggmlaa

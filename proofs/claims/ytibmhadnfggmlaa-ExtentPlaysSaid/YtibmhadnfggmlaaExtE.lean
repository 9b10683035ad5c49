/- Package extent: Cut. -/
import Derived.Test.YtibmhadnfggmlaaExtD
import Derived.Laws.EntriesVeiled
namespace Go.Proofs.Ytibmhadnfggmlaa
open Go.RowKit Go.Shelf
attribute [local go_sem] Oper.semAt_some

set_option maxRecDepth 100000 in
set_option maxHeartbeats 2000000 in
theorem cut_yes (b : Nat) (v : Value) (l : List (Int × Int)) (x : Int × Int) (w : World) (hS : SetW w b v l) (hl : l.length ≤ 900000) (hx : spanOk x = true) :
    Calls Try.prog 8 #[.pointer (some ⟨b, 0, none⟩), .agg #[.int .i64 x.1, .int .i64 x.2]] w fun e w' => e = .returned (.tuple #[]) ∧
      ∃ v', SetW w' b v' (l.flatMap (cutOne x)) ∧ Upd [b] w w' ∧ (∀ g, v'.ownBlock = some g → w.heap.size ≤ g) := by
  have HX := Lib.hid hx
  have HS := Lib.hid hS
  clear hx hS
  refine (callsIn_wide (n := 9)).1 ?_
  refine callsIn_of_wp_marks Try.func8 rfl trivial ?_ rfl
  simp only [Try.ntmps8, List.size_toArray, List.length_cons, List.length_nil, Nat.reduceAdd, Nat.reduceSub, Array.replicate_succ, Array.replicate_zero, List.push_toArray, List.append_toArray, List.nil_append, List.cons_append]
  gi_wp2_with fail
  refine ⟨trivial, (callsIn_wide.2 (right_any _ _ _)).mono ?_⟩
  rintro e w1 ⟨rfl, hU1⟩
  rw [HX.out]
  have hbx := (Blk.new w [.int .i64 x.1, .int .i64 x.2] 24).upd hU1 (by simp)
  have hU01 : Upd [] w w1 := ((Upd.refl [] w).alloc _).then hU1
  have hz1 : w.heap.size < w1.heap.size := by have := hU1.size; simp at this; omega
  have HBX := Lib.hid hbx
  clear hbx
  gi_wp2_with fail
  refine ⟨trivial, (callsIn_wide.2 (all_any _ _)).mono ?_⟩
  rintro e w5 ⟨rfl, rfl⟩
  gi_wp2_with fail
  have hO0 : OutAt w.heap.size (((w1.alloc (.cells #[.slice none 0 0] 34)).alloc (.cells #[.func (.func 29) #[] #[.pointer (some ⟨w1.heap.size, 0, none⟩)]] 59)).alloc (.cells #[.pointer (some ⟨b, 0, none⟩)] 27)) w1.heap.size (.slice none 0 0) [] :=
    ⟨((Blk.new w1 [.slice none 0 0] _).alloc _).alloc _, Row.nil _ _ _, by simp [Value.ownBlock], by omega⟩
  have hF0 := (Blk.new (w1.alloc (.cells #[.slice none 0 0] 34)) [.func (.func 29) #[] #[.pointer (some ⟨w1.heap.size, 0, none⟩)]] 59).alloc (.cells #[.pointer (some ⟨b, 0, none⟩)] 27)
  have hS0 := Blk.new ((w1.alloc (.cells #[.slice none 0 0] 34)).alloc (.cells #[.func (.func 29) #[] #[.pointer (some ⟨w1.heap.size, 0, none⟩)]] 59)) [.pointer (some ⟨b, 0, none⟩)] 27
  have hX0 := ((HBX.out.alloc (.cells #[.slice none 0 0] 34)).alloc (.cells #[.func (.func 29) #[] #[.pointer (some ⟨w1.heap.size, 0, none⟩)]] 59)).alloc (.cells #[.pointer (some ⟨b, 0, none⟩)] 27)
  have hU0 := ((hU01.alloc (.cells #[.slice none 0 0] 34)).alloc (.cells #[.func (.func 29) #[] #[.pointer (some ⟨w1.heap.size, 0, none⟩)]] 59)).alloc (.cells #[.pointer (some ⟨b, 0, none⟩)] 27)
  simp only [World.size_alloc] at hF0 hS0
  have hz0 : (((w1.alloc (.cells #[.slice none 0 0] 34)).alloc (.cells #[.func (.func 29) #[] #[.pointer (some ⟨w1.heap.size, 0, none⟩)]] 59)).alloc (.cells #[.pointer (some ⟨b, 0, none⟩)] 27)).heap.size = w1.heap.size + 3 := by simp
  revert hO0 hF0 hS0 hX0 hU0 hz0
  generalize ((w1.alloc (.cells #[.slice none 0 0] 34)).alloc (.cells #[.func (.func 29) #[] #[.pointer (some ⟨w1.heap.size, 0, none⟩)]] 59)).alloc (.cells #[.pointer (some ⟨b, 0, none⟩)] 27) = W0
  intro hO0 hX0 hU0 hF0 hS0 hz0
  have hSet0 : SetIn w.heap.size W0 (some ⟨b, 0, none⟩) l := (HS.out.inn (by omega)).below hU0.below
  refine loopSet (w1.heap.size + 1 + 1) w.heap.size (some ⟨b, 0, none⟩) l rfl rfl (by omega) (hS0.cell 0 rfl) hSet0
    (fun pre W => (∃ v', OutAt w.heap.size W w1.heap.size v' (pre.flatMap (cutOne x)) ∧ (∀ g, v'.ownBlock = some g → g ≠ w.heap.size ∧ g ≠ w1.heap.size + 1)) ∧
      Blk W w.heap.size [.int .i64 x.1, .int .i64 x.2] 24 ∧ Blk W (w1.heap.size + 1) [.func (.func 29) #[] #[.pointer (some ⟨w1.heap.size, 0, none⟩)]] 59 ∧ Upd [] w W)
    (fun _ _ _ => False) ?own (fun _ _ _ _ _ hs _ _ => hs) ⟨⟨_, hO0, by simp [Value.ownBlock]⟩, hX0, hF0, hU0⟩ ?act
    (fun Bx W => ∃ v', Blk W w1.heap.size [v'] 34 ∧ v'.ownBlock ≠ some Bx) ?X ?X0 ?assign ?body ?done ?stop
  case assign =>
    intro L y Bx W K hBx hK
    gi_wp2
    rw [← hBx]
    exact hK
  case own =>
    intro s A B row hs hg hr
    obtain ⟨⟨v', h1, h2⟩, h3, h4, h5⟩ := hs
    exact ⟨⟨v', OutAt.own_from _ _ _ _ _ () A B row h1 hg hr, h2⟩, blk_own _ _ (fun (_ : Unit) => _) _ () A B row h3 hg hr, blk_own _ _ (fun (_ : Unit) => _) _ () A B row h4 hg hr, upd_own _ _ _ (by omega) () A B row h5 hg hr⟩
  case X =>
    intro Bx s A B row hs hg hr
    obtain ⟨v', h1, h2⟩ := hs
    exact ⟨v', blk_own _ _ (fun (_ : Unit) => _) _ () A B row h1 hg hr, h2⟩
  case X0 =>
    rintro pre y W ⟨⟨v', h1, h2⟩, _⟩ hsz
    exact ⟨v', h1.blk.alloc _, fun e => by have := h1.row.lt _ e; omega⟩
  case body =>
    rintro L pre y Bx W hBx hsz hy hpre hbx ⟨vv, hvv, hnx⟩ ⟨⟨v1, hO1, hn1⟩, hx1, hf1, hUW⟩ hlt
    obtain rfl : vv = v1 := Blk.inj1 hvv hO1.blk
    clear hvv hpre
    have hlen := cuts_len x pre
    have hne1 : w.heap.size ∉ outFp w1.heap.size vv := by
      simp only [outFp, List.mem_cons, not_or]; exact ⟨by omega, fun e => (hn1 _ (by simpa using e)).1 rfl⟩
    have hne2 : w1.heap.size + 1 ∉ outFp w1.heap.size vv := by
      simp only [outFp, List.mem_cons, not_or]; exact ⟨by omega, fun e => (hn1 _ (by simpa using e)).2 rfl⟩
    have hne3 : Bx ∉ outFp w1.heap.size vv := by
      simp only [outFp, List.mem_cons, not_or]; exact ⟨by omega, fun e => hnx (by simpa using e)⟩
    have y0 := hbx.cell 0 rfl
    have y1 := hbx.cell 1 rfl
    have x0 := hx1.cell 0 rfl
    have k0 := hf1.cell 0 rfl
    have HO1 := Lib.hid hO1
    clear hO1
    gi_wp2_with fail
    refine ⟨trivial, (CallsIn.inRound L (callsIn_wide.2 (put_any w.heap.size _ _ _ _ _ _ HO1.out (by omega)))).mono ?_⟩
    rintro e W2 ⟨rfl, v2, hO2, hU2, hT2⟩
    have hbx2 := hbx.upd hU2 hne3
    have hx2 := hx1.upd hU2 hne1
    have hf2 := hf1.upd hU2 hne2
    clear y0 y1 x0 k0
    have y0 := hbx2.cell 0 rfl
    have y1 := hbx2.cell 1 rfl
    have x1 := hx2.cell 1 rfl
    have k0 := hf2.cell 0 rfl
    have HO2 := Lib.hid hO2
    clear hO2
    have hl2 : (putP (pre.flatMap (cutOne x)) y.1 (min y.2 x.1)).length ≤ 2 * pre.length + 1 := by
      unfold putP; rw [List.length_append]; split <;> simp only [List.length_cons, List.length_nil] <;> omega
    gi_wp2_with fail
    refine ⟨trivial, (CallsIn.inRound L (callsIn_wide.2 (put_any w.heap.size _ _ _ _ _ _ HO2.out (by omega)))).mono ?_⟩
    rintro e W3 ⟨rfl, v3, hO3, hU3, hT3⟩
    gi_wp2
    have hsz2 := hU2.size
    have hs1 := hUW.size
    refine ⟨(HO1.out.keeps hU2 _).trans (HO2.out.keeps hU3 _), (HO1.out.below hU2).trans (HO2.out.below hU3), ⟨v3, ?_, fun g hg => ?_⟩, ?_, ?_, ?_⟩
    · rw [List.flatMap_append, List.flatMap_cons, List.flatMap_nil, List.append_nil, ← put_two]; exact hO3
    · have a1 : v2.ownBlock ≠ some w.heap.size := hT2.ne hx1.lt (fun e => (hn1 _ e).1 rfl)
      have a2 : v2.ownBlock ≠ some (w1.heap.size + 1) := hT2.ne hf1.lt (fun e => (hn1 _ e).2 rfl)
      have a3 : v3.ownBlock ≠ some w.heap.size := hT3.ne hx2.lt a1
      have a4 : v3.ownBlock ≠ some (w1.heap.size + 1) := hT3.ne hf2.lt a2
      exact ⟨fun e => a3 (by rw [hg, e]), fun e => a4 (by rw [hg, e])⟩
    · refine hx2.upd hU3 ?_
      simp only [outFp, List.mem_cons, not_or]
      exact ⟨by omega, fun e => hT2.ne hx1.lt (fun e => (hn1 _ e).1 rfl) (by simpa using e)⟩
    · refine hf2.upd hU3 ?_
      simp only [outFp, List.mem_cons, not_or]
      exact ⟨by omega, fun e => hT2.ne hf1.lt (fun e => (hn1 _ e).2 rfl) (by simpa using e)⟩
    · refine (hUW.trans hU2 ?_).trans hU3 ?_
      · intro k hk
        simp only [outFp, List.mem_cons] at hk
        rcases hk with rfl | hk
        · right; omega
        · right; exact (HO1.out.own k (by simpa using hk)).1
      · intro k hk
        simp only [outFp, List.mem_cons] at hk
        rcases hk with rfl | hk
        · right; omega
        · right; exact (HO2.out.own k (by simpa using hk)).1
  case done =>
    rintro D W hD ⟨⟨v', hO, hn⟩, hx1, hf1, hUW⟩ hK
    have hSW := HS.out.pure hUW
    obtain ⟨r, hr⟩ : ∃ r, l.flatMap (cutOne x) = r := ⟨_, rfl⟩
    rw [hr] at hO
    have HR := Lib.hid hr
    clear hr
    obtain ⟨va, vc, rfl⟩ := hO.row.form
    have k0 := hO.blk.cell 0 rfl
    have s0 := hSW.blk.cell 0 rfl
    have s1 := hSW.blk.frz 0
    have hbl := HS.out.blk.lt
    have HO := Lib.hid hO
    clear hO hx1 hf1
    have hK' := (KeepsOthers.setCell W ⟨b, 0, none⟩ (.slice va r.length vc)).same D _ hK rfl
    have HK := Lib.hid hK'
    clear hK' hK
    gi_wp2
    refine ⟨by simp, .inl ⟨_, _, rfl, run_takeDeferred HK.out, ?_⟩⟩
    rw [HR.out]
    refine ⟨_, results_none rfl _ _ _, rfl, .slice va r.length vc, ⟨?_, ?_, ?_⟩, ?_, fun g hg => (HO.out.own g hg).1⟩
    · exact (hSW.blk.set 0 _).putObj HK.out rfl _
    · have hfar : (Value.slice va r.length vc).ownBlock ≠ some b := fun e => by have := (HO.out.own b e).1; omega
      exact (HO.out.row.setFar (a := ⟨b, 0, none⟩) _ hfar).putObj HK.out rfl _
    · intro e; have := (HO.out.own b e).1; omega
    · exact ((hUW.mono (by simp)).setCell (.inl (by simp)) _).putObj (by omega) _
  case stop =>
    intro D c pre W _ _ h _
    exact h.elim
end Go.Proofs.Ytibmhadnfggmlaa

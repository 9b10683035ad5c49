/- Package extent: Has, Spans, New, Holes. -/
import Derived.Test.YtibmhadnfggmlaaExtH
namespace Go.Proofs.Ytibmhadnfggmlaa
open Go.RowKit Go.Shelf
attribute [local go_sem] Oper.semAt_some

theorem has_any (p : Option Addr) (l : List (Int × Int)) (a : Int) (w : World) (hS : SetIn w.heap.size w p l) :
    Calls Try.prog 17 #[.pointer p, .int .i64 a] w fun e w' => e = .returned (.bool (hasP l a)) ∧ Upd [] w w' := by
  have HS := Lib.hid hS
  clear hS
  have ways : (0 ≤ a ∧ a < 1099511627776) ∨ (0 ≤ a ∧ 1099511627776 ≤ a) ∨ a < 0 := by omega
  rcases ways with ⟨h1, h2⟩ | ⟨h1, h2⟩ | h1
  · have e : hasP l a = meetsP l (a, a + 1) := by unfold hasP BIG; rw [decide_eq_true h1, decide_eq_true h2]; rfl
    have HE := Lib.hid e
    clear e
    go_enter Try.func17, Try.ntmps17
    go_wp2_with fail
    refine (meets_any p l (a, a + 1) w HS.out).mono ?_
    rintro e w' ⟨rfl, hU⟩
    rw [← HE.out]
    clear HE
    obtain ⟨r, hr⟩ : ∃ r, hasP l a = r := ⟨_, rfl⟩
    rw [hr]
    have HR := Lib.hid hr
    clear hr
    cases r
    all_goals
      go_wp2
      go_ret
      exact ⟨by rw [HR.out]; rfl, hU⟩
  · have e : hasP l a = false := by unfold hasP BIG; rw [decide_eq_true h1, decide_eq_false (by omega)]; rfl
    rw [e]
    go_enter Try.func17, Try.ntmps17
    go_wp2
    go_returns
    exact ⟨rfl, Upd.refl _ _⟩
  · have e : hasP l a = false := by unfold hasP BIG; rw [decide_eq_false (by omega)]; rfl
    rw [e]
    go_enter Try.func17, Try.ntmps17
    go_wp2
    go_returns
    exact ⟨rfl, Upd.refl _ _⟩
set_option maxRecDepth 100000 in
set_option maxHeartbeats 2000000 in
theorem appendSeq_any (Bs : Nat) (p : Option Addr) (l : List (Int × Int)) (w : World) (hc : w.cell? ⟨Bs, 0, none⟩ = some (.pointer p)) (hS : SetIn w.heap.size w p l) :
    Calls Try.prog 41 #[.slice none 0 0, .func (.func 31) #[] #[.pointer (some ⟨Bs, 0, none⟩)]] w fun e w' =>
      ∃ v, e = .returned v ∧ Row w' 24 2 v l.length (flat l) ∧ Upd [] w w' ∧ (∀ g, v.ownBlock = some g → w.heap.size ≤ g) := by
  have HS := Lib.hid hS
  have hlen := hS.len
  clear hS
  obtain ⟨i0, hi, hz0, hz1, hz2⟩ := info_parts infoSpan
  refine (callsIn_wide (n := 9)).1 ?_
  refine callsIn_of_wp_marks Try.func41 rfl trivial ?_ rfl
  simp only [Try.ntmps41, List.size_toArray, List.length_cons, List.length_nil, Nat.reduceAdd, Nat.reduceSub, Array.replicate_succ, Array.replicate_zero, List.push_toArray, List.append_toArray, List.nil_append, List.cons_append]
  have hBs := World.block_lt_of_cell? w _ hc
  gi_wp2_with fail
  have hO0 : OutAt w.heap.size (w.alloc (.cells #[.slice none 0 0] 34)) w.heap.size (.slice none 0 0) [] := ⟨Blk.new w [.slice none 0 0] _, Row.nil _ _ _, by simp [Value.ownBlock], Nat.le_refl _⟩
  have hU0 := (Upd.refl [] w).alloc (.cells #[.slice none 0 0] 34)
  have hz0' : (w.alloc (.cells #[.slice none 0 0] 34)).heap.size = w.heap.size + 1 := by simp
  revert hO0 hU0 hz0'
  generalize w.alloc (.cells #[.slice none 0 0] 34) = W0
  intro hO0 hU0 hz0'
  refine loopSet Bs w.heap.size p l rfl rfl (by omega) ((hU0.cell (p := ⟨Bs, 0, none⟩) hBs (by simp)).trans hc) (HS.out.below hU0.below)
    (fun pre W => (∃ v, OutAt w.heap.size W w.heap.size v pre) ∧ Upd [] w W)
    (fun _ _ _ => False) ?own (fun _ _ _ _ _ hs _ _ => hs) ⟨⟨_, hO0⟩, hU0⟩ ?act
    (fun Bx W => ∃ v', Blk W w.heap.size [v'] 34 ∧ v'.ownBlock ≠ some Bx) ?X ?X0 ?assign ?body ?done ?stop
  case assign =>
    intro L y Bx W K hBx hK
    gi_wp2
    rw [← hBx]
    exact hK
  case own =>
    intro s A B row hs hg hr
    obtain ⟨⟨v', h1⟩, h5⟩ := hs
    exact ⟨⟨v', OutAt.own_from _ _ _ _ _ () A B row h1 hg hr⟩, upd_own _ _ _ (by omega) () A B row h5 hg hr⟩
  case X =>
    intro Bx s A B row hs hg hr
    obtain ⟨v', h1, h2⟩ := hs
    exact ⟨v', blk_own _ _ (fun (_ : Unit) => _) _ () A B row h1 hg hr, h2⟩
  case X0 =>
    rintro pre y W ⟨⟨v', h1⟩, _⟩ hsz
    exact ⟨v', h1.blk.alloc _, fun e => by have := h1.row.lt _ e; omega⟩
  case body =>
    rintro L pre y Bx W hBx hsz hy hpre hbx ⟨vv, hvv, hnx⟩ ⟨⟨v1, hO⟩, hUW⟩ hlt
    have y0 := hbx.cell 0 rfl
    have y1 := hbx.cell 1 rfl
    have c0 := hO.blk.cell 0 rfl
    have f0 := hO.blk.frz 0
    obtain ⟨ra, rc, rfl⟩ := hO.row.form
    have HO := Lib.hid hO
    clear hO hvv hpre
    gi_wp2_with (gi_at_builtin; refine wpListIn_app _ rfl _ _ 34 rfl 24 i0 _ 2 16 Try.underlying34 hi hz0 hz1 hz2 rfl (by omega) (.slice ra pre.length rc) pre.length _ rfl (HO.out.row.alloc _) ⟨W.heap.size, 0, none⟩ 1 1 [.int .i64 y.1, .int .i64 y.2] rfl rfl (World.news_of_block (cs := #[.int .i64 y.1, .int .i64 y.2]) (t := 24) (fr := (0, 0)) (heap_alloc_new _ _)) (by simp [Value.oneCell']) (by unfold maxLen; omega) (by omega) ?_)
    rintro v9 w9 hR9 hU9 hT9
    obtain ⟨va9, vc9, rfl⟩ := hR9.form
    have hne : (Value.slice ra pre.length rc).ownBlock ≠ some w.heap.size := fun e => (HO.out.own _ e).2 rfl
    have hB9 := (HO.out.blk.alloc (Obj.cells #[.int .i64 y.1, .int .i64 y.2] 24)).upd hU9 (by simpa using hne)
    have k9 := hB9.cell 0 rfl
    have f9 := hB9.frz 0
    gi_wp2
    obtain ⟨p1, p2, p3⟩ := HO.out.push (x := y) ((Upd.refl _ _).alloc _) hR9 hU9 hT9
    refine ⟨HO.out.keeps p2 _, HO.out.below p2, ⟨_, p1⟩, hUW.trans p2 (fun k hk => ?_)⟩
    simp only [outFp, List.mem_cons] at hk
    rcases hk with rfl | hk
    · right; omega
    · right; exact (HO.out.own k (by simpa using hk)).1
  case done =>
    rintro D W hD ⟨⟨v', hO⟩, hUW⟩ hK
    obtain ⟨va, vc, rfl⟩ := hO.row.form
    have k0 := hO.blk.cell 0 rfl
    have HO := Lib.hid hO
    have HK := Lib.hid hK
    clear hO hK
    gi_wp2
    refine ⟨by simp, .inl ⟨_, _, rfl, run_takeDeferred HK.out, ?_⟩⟩
    exact ⟨_, results_tmp rfl _ _ _, .slice va l.length vc, rfl, HO.out.row.putObj HK.out rfl _, hUW.putObj (by omega) _, fun g hg => (HO.out.own g hg).1⟩
  case stop =>
    intro D c pre W _ _ h _
    exact h.elim
theorem collect_any (Bs : Nat) (p : Option Addr) (l : List (Int × Int)) (w : World) (hc : w.cell? ⟨Bs, 0, none⟩ = some (.pointer p)) (hS : SetIn w.heap.size w p l) :
    Calls Try.prog 32 #[.func (.func 31) #[] #[.pointer (some ⟨Bs, 0, none⟩)]] w fun e w' =>
      ∃ v, e = .returned v ∧ Row w' 24 2 v l.length (flat l) ∧ Upd [] w w' ∧ (∀ g, v.ownBlock = some g → w.heap.size ≤ g) := by
  have HS := Lib.hid hS
  clear hS
  have HC := Lib.hid hc
  clear hc
  go_enter Try.func32, Try.ntmps32
  go_wp2_with fail
  refine (appendSeq_any Bs p l w HC.out HS.out).mono ?_
  rintro e w' ⟨v, rfl, hR, hU, hg⟩
  obtain ⟨va, vc, rfl⟩ := hR.form
  have HR := Lib.hid hR
  have HG := Lib.hid hg
  clear hR hg
  go_wp2
  go_ret
  exact ⟨_, rfl, HR.out, hU, HG.out⟩
theorem spans_any (p : Option Addr) (l : List (Int × Int)) (w : World) (hS : SetIn w.heap.size w p l) :
    Calls Try.prog 14 #[.pointer p] w fun e w' =>
      ∃ v, e = .returned v ∧ Row w' 24 2 v l.length (flat l) ∧ Upd [] w w' ∧ (∀ g, v.ownBlock = some g → w.heap.size ≤ g) := by
  have hB := Blk.new w [.pointer p] 27
  have hS2 : SetIn (w.alloc (.cells #[.pointer p] 27)).heap.size (w.alloc (.cells #[.pointer p] 27)) p l := (hS.below ((Upd.refl [] w).alloc _).below).mono (by simp)
  have hcc := collect_any w.heap.size p l _ (hB.cell 0 rfl) hS2
  have HCC := Lib.hid hcc
  clear hcc hB hS2 hS
  go_enter Try.func14, Try.ntmps14
  go_wp2_with fail
  refine (all_any _ _).mono ?_
  rintro e w' ⟨rfl, rfl⟩
  go_wp2_with fail
  refine HCC.out.mono ?_
  rintro e w' ⟨v, rfl, hR, hU, hg⟩
  obtain ⟨va, vc, rfl⟩ := hR.form
  have HR := Lib.hid hR
  have HG := Lib.hid hg
  clear hR hg
  go_wp2
  go_ret
  exact ⟨_, rfl, HR.out, ((Upd.refl [] w).alloc _).then hU, fun g hg => by have := HG.out g hg; simp at this; omega⟩
end Go.Proofs.Ytibmhadnfggmlaa

/- Package extent: Total, Meets, Has. -/
import Derived.Test.YtibmhadnfggmlaaExtG
namespace Go.Proofs.Ytibmhadnfggmlaa
open Go.RowKit Go.Shelf
attribute [local go_sem] Oper.semAt_some

def totW (l : List (Int × Int)) : Int := l.foldl (fun n y => wrap64 (n + wrap64 (y.2 - y.1))) 0
theorem totW_snoc (l : List (Int × Int)) (y : Int × Int) : totW (l ++ [y]) = wrap64 (totW l + wrap64 (y.2 - y.1)) := by simp [totW]
theorem totW_norm {l : List (Int × Int)} (h : Norm l) : totW l = totalP l := by
  have key : ∀ (l : List (Int × Int)) (a : Int), Norm l → 0 ≤ a → a + totalP l ≤ BIG → l.foldl (fun n y => wrap64 (n + wrap64 (y.2 - y.1))) a = a + totalP l := by
    intro l
    induction l with
    | nil => intro a _ _ _; simp [totalP]
    | cons y l ih =>
      intro a hn h0 hb
      have h1 := hn.1
      have h2 := totalP_bd hn.2.2
      simp only [totalP] at hb
      have e1 : wrap64 (y.2 - y.1) = y.2 - y.1 := by unfold wrap64; unfold BIG at *; omega
      have e2 : wrap64 (a + (y.2 - y.1)) = a + (y.2 - y.1) := by unfold wrap64; unfold BIG at *; omega
      rw [List.foldl_cons, e1, e2, ih _ hn.2.2 (by omega) (by omega)]
      simp only [totalP]; omega
  have := key l 0 h (Int.le_refl _) (by have := (totalP_bd h).2; omega)
  unfold totW; rw [this]; omega
set_option maxRecDepth 100000 in
set_option maxHeartbeats 2000000 in
theorem total_any (p : Option Addr) (l : List (Int × Int)) (w : World) (hS : SetIn w.heap.size w p l) :
    Calls Try.prog 16 #[.pointer p] w fun e w' => e = .returned (.int .i64 (totW l)) ∧ Upd [] w w' := by
  have HS := Lib.hid hS
  clear hS
  refine (callsIn_wide (n := 9)).1 ?_
  refine callsIn_of_wp_marks Try.func16 rfl trivial ?_ rfl
  simp only [Try.ntmps16, List.size_toArray, List.length_cons, List.length_nil, Nat.reduceAdd, Nat.reduceSub, Array.replicate_succ, Array.replicate_zero, List.push_toArray, List.append_toArray, List.nil_append, List.cons_append]
  gi_wp2_with fail
  refine ⟨trivial, (callsIn_wide.2 (all_any _ _)).mono ?_⟩
  rintro e w5 ⟨rfl, rfl⟩
  gi_wp2_with fail
  have hN0 := (Blk.new w [.int .i64 0] 3).alloc (.cells #[.pointer p] 27)
  have hS0 := Blk.new (w.alloc (.cells #[.int .i64 0] 3)) [.pointer p] 27
  rw [World.size_alloc] at hS0
  have hU0 := ((Upd.refl [] w).alloc (.cells #[.int .i64 0] 3)).alloc (.cells #[.pointer p] 27)
  have hz0 : ((w.alloc (.cells #[.int .i64 0] 3)).alloc (.cells #[.pointer p] 27)).heap.size = w.heap.size + 2 := by simp
  revert hN0 hS0 hU0 hz0
  generalize (w.alloc (.cells #[.int .i64 0] 3)).alloc (.cells #[.pointer p] 27) = W0
  intro hN0 hS0 hU0 hz0
  refine loopSet (w.heap.size + 1) w.heap.size p l rfl rfl (by omega) (hS0.cell 0 rfl) (HS.out.below hU0.below)
    (fun pre W => Blk W w.heap.size [.int .i64 (totW pre)] 3 ∧ Upd [] w W)
    (fun _ _ _ => False) (OwnFrom.and (blk_own _ _ _ _) (upd_own _ _ _ (by omega))) (fun _ _ _ _ _ hs _ _ => hs) ⟨hN0, hU0⟩ ?act
    (fun _ _ => True) (fun _ _ _ _ _ _ _ _ => trivial) (fun _ _ _ _ _ => trivial) ?assign ?body ?done ?stop
  case assign =>
    intro L y Bx W K hBx hK
    gi_wp2
    rw [← hBx]
    exact hK
  case body =>
    rintro L pre y Bx W hBx hsz hy hpre hbx _ ⟨hN, hUW⟩ hlt
    have y0 := hbx.cell 0 rfl
    have y1 := hbx.cell 1 rfl
    have n0 := hN.cell 0 rfl
    have n1 := hN.frz 0
    have HN := Lib.hid hN
    clear hN hpre
    gi_wp2
    have hup : Upd [w.heap.size] W (W.setCell ⟨w.heap.size, 0, none⟩ (.int .i64 (wrap64 (totW pre + wrap64 (y.2 - y.1))))) := (Upd.refl _ _).setCell (.inl (by simp)) _
    refine ⟨hup.keeps (fun k hk _ => by simp at hk; subst hk; exact HN.out.isc), hup.below' (by have := hUW.size; omega) (fun k hk => by simp at hk; omega), ?_, hUW.trans hup (fun k hk => by simp at hk; right; omega)⟩
    rw [totW_snoc]
    exact HN.out.set 0 _
  case done =>
    rintro D W hD ⟨hN, hUW⟩ hK
    have n0 := hN.cell 0 rfl
    have n1 := hN.frz 0
    have HN := Lib.hid hN
    have hK' := (KeepsOthers.setCell W ⟨w.heap.size, 0, none⟩ (.int .i64 (totW l))).same D _ hK rfl
    have HK := Lib.hid hK'
    clear hN hK hK'
    gi_wp2
    refine ⟨by simp, .inl ⟨_, _, rfl, run_takeDeferred HK.out, ?_⟩⟩
    have hc5 := ((HN.out.set 0 (.int .i64 (totW l))).putObj HK.out rfl (.deferred none)).cell 0 rfl
    refine ⟨.int .i64 (totW l), ?_, rfl, ((hUW.setCell (.inr (by simp)) _).putObj (by omega) _)⟩
    simp [results, Try.f16, go_sem, hc5]
  case stop =>
    intro D c pre W _ _ h _
    exact h.elim
theorem meetsOne_yes {x y : Int × Int} (h : spanOk x = true) (hm : max x.1 y.1 < min x.2 y.2) : meetsOne x y = true := by unfold meetsOne; rw [h, decide_eq_true hm]; rfl
theorem meetsOne_no {x y : Int × Int} (h : spanOk x = false ∨ ¬ (max x.1 y.1 < min x.2 y.2)) : meetsOne x y = false := by
  unfold meetsOne
  rcases h with h | h
  · rw [h]; rfl
  · rw [decide_eq_false h, Bool.and_false]
set_option maxRecDepth 100000 in
set_option maxHeartbeats 2000000 in
theorem meets_any (p : Option Addr) (l : List (Int × Int)) (x : Int × Int) (w : World) (hS : SetIn w.heap.size w p l) :
    Calls Try.prog 18 #[.pointer p, .agg #[.int .i64 x.1, .int .i64 x.2]] w fun e w' => e = .returned (.bool (meetsP l x)) ∧ Upd [] w w' := by
  have HS := Lib.hid hS
  clear hS
  refine (callsIn_wide (n := 9)).1 ?_
  refine callsIn_of_wp_marks Try.func18 rfl trivial ?_ rfl
  simp only [Try.ntmps18, List.size_toArray, List.length_cons, List.length_nil, Nat.reduceAdd, Nat.reduceSub, Array.replicate_succ, Array.replicate_zero, List.push_toArray, List.append_toArray, List.nil_append, List.cons_append]
  gi_wp2_with fail
  refine ⟨trivial, (callsIn_wide.2 (all_any _ _)).mono ?_⟩
  rintro e w5 ⟨rfl, rfl⟩
  gi_wp2_with fail
  have hX0 := ((Blk.new w [.int .i64 x.1, .int .i64 x.2] 24).alloc (.cells #[.bool false] 4)).alloc (.cells #[.pointer p] 27)
  have hR0 : Blk (((w.alloc (.cells #[.int .i64 x.1, .int .i64 x.2] 24)).alloc (.cells #[.bool false] 4)).alloc (.cells #[.pointer p] 27)) (w.heap.size + 1) [.bool false] 4 := by
    have := (Blk.new (w.alloc (.cells #[.int .i64 x.1, .int .i64 x.2] 24)) [.bool false] 4).alloc (.cells #[.pointer p] 27)
    simpa using this
  have hS0 : Blk (((w.alloc (.cells #[.int .i64 x.1, .int .i64 x.2] 24)).alloc (.cells #[.bool false] 4)).alloc (.cells #[.pointer p] 27)) (w.heap.size + 1 + 1) [.pointer p] 27 := by
    have := Blk.new ((w.alloc (.cells #[.int .i64 x.1, .int .i64 x.2] 24)).alloc (.cells #[.bool false] 4)) [.pointer p] 27
    simpa using this
  have hU0 := (((Upd.refl [] w).alloc (.cells #[.int .i64 x.1, .int .i64 x.2] 24)).alloc (.cells #[.bool false] 4)).alloc (.cells #[.pointer p] 27)
  have hz0 : (((w.alloc (.cells #[.int .i64 x.1, .int .i64 x.2] 24)).alloc (.cells #[.bool false] 4)).alloc (.cells #[.pointer p] 27)).heap.size = w.heap.size + 3 := by simp
  revert hX0 hR0 hS0 hU0 hz0
  generalize ((w.alloc (.cells #[.int .i64 x.1, .int .i64 x.2] 24)).alloc (.cells #[.bool false] 4)).alloc (.cells #[.pointer p] 27) = W0
  intro hX0 hR0 hS0 hU0 hz0
  refine loopSet (w.heap.size + 1 + 1) w.heap.size p l rfl rfl (by omega) (hS0.cell 0 rfl) (HS.out.below hU0.below)
    (fun pre W => Hid (∀ y ∈ pre, meetsOne x y = false) ∧ Blk W w.heap.size [.int .i64 x.1, .int .i64 x.2] 24 ∧ Blk W (w.heap.size + 1) [.bool false] 4 ∧ Upd [] w W)
    (fun c pre W => (c = .ret ∧ Hid (∃ y ∈ pre, meetsOne x y = true)) ∧ Blk W (w.heap.size + 1) [.bool true] 4 ∧ Upd [] w W)
    (OwnFrom.and (ownFrom_pure _ _) (OwnFrom.and (blk_own _ _ _ _) (OwnFrom.and (blk_own _ _ _ _) (upd_own _ _ _ (by omega))))) (fun c => OwnFrom.and (ownFrom_pure _ _) (OwnFrom.and (blk_own _ _ _ _) (upd_own _ _ _ (by omega)))) ⟨Lib.hid (by simp), hX0, hR0, hU0⟩ ?act
    (fun _ _ => True) (fun _ _ _ _ _ _ _ _ => trivial) (fun _ _ _ _ _ => trivial) ?assign ?body ?done ?stop
  case assign =>
    intro L y Bx W K hBx hK
    gi_wp2
    rw [← hBx]
    exact hK
  case body =>
    rintro L pre y Bx W hBx hsz hy hpre hbx _ ⟨hno, hX, hR, hUW⟩ hlt
    have x0 := hX.cell 0 rfl
    have x1 := hX.cell 1 rfl
    have HBX := Lib.hid hbx
    have HX := Lib.hid hX
    have HR := Lib.hid hR
    clear hX hR hbx hpre
    have goon : ∀ W', Upd [] W W' → meetsOne x y = false → KeepsFrom W0.heap.size W W' ∧ Below w.heap.size W W' ∧ (Hid (∀ y' ∈ pre ++ [y], meetsOne x y' = false) ∧ Blk W' w.heap.size [.int .i64 x.1, .int .i64 x.2] 24 ∧ Blk W' (w.heap.size + 1) [.bool false] 4 ∧ Upd [] w W') := fun W' hU hm =>
      ⟨hU.keeps (by simp), hU.below' (by have := hUW.size; omega) (by simp), Lib.hid (fun y' hy' => by
        rcases List.mem_append.1 hy' with h | h
        · exact hno.out y' h
        · simp at h; subst h; exact hm), HX.out.upd hU (by simp), HR.out.upd hU (by simp), hUW.then hU⟩
    have GO := Lib.hid goon
    clear goon
    gi_wp2_with fail
    refine ⟨trivial, (CallsIn.inRound L (callsIn_wide.2 (right_any _ _ _))).mono ?_⟩
    rintro e W2 ⟨rfl, hU2⟩
    by_cases hx : spanOk x = true
    · have hbx2 := HBX.out.upd hU2 (by simp)
      have hX2 := HX.out.upd hU2 (by simp)
      have hR2 := HR.out.upd hU2 (by simp)
      have y0 := hbx2.cell 0 rfl
      have y1 := hbx2.cell 1 rfl
      have z0 := hX2.cell 0 rfl
      have z1 := hX2.cell 1 rfl
      have r0 := hR2.cell 0 rfl
      have r1 := hR2.frz 0
      have HR2 := Lib.hid hR2
      clear hbx2 hX2 hR2 x0 x1
      rw [show spanOk (x.1, x.2) = true from hx]
      by_cases hm : max x.1 y.1 < min x.2 y.2
      · have HM := Lib.hid (meetsOne_yes hx hm)
        have hm1 : x.1 < x.2 ∧ x.1 < y.2 ∧ y.1 < x.2 ∧ y.1 < y.2 := by omega
        obtain ⟨m1, m2, m3, m4⟩ := hm1
        clear hx
        gi_wp2
        all_goals first
          | (refine ⟨(hU2.keeps (by simp)).trans (((Upd.refl [w.heap.size + 1] W2).setCell (.inl (by simp)) _).keeps (fun k hk _ => by simp at hk; subst hk; exact HR2.out.isc)), ⟨rfl, Lib.hid ⟨y, by simp, HM.out⟩⟩, HR2.out.set 0 _, (hUW.then hU2).setCell (.inr (by simp)) _⟩)
          | (exfalso; omega)
      · have HM := Lib.hid (meetsOne_no (.inr hm) : meetsOne x y = false)
        clear hx
        gi_wp2
        all_goals first
          | exact GO.out _ hU2 HM.out
          | (exfalso; omega)
    · have hx' : spanOk (x.1, x.2) = false := by simpa using hx
      rw [hx']
      have HM := Lib.hid (meetsOne_no (y := y) (.inl hx'))
      clear hx hx'
      gi_wp2
      exact GO.out _ hU2 HM.out
  case done =>
    rintro D W hD ⟨hno, hX, hR, hUW⟩ hK
    have n0 := hR.cell 0 rfl
    have n1 := hR.frz 0
    have HR := Lib.hid hR
    have hK' := (KeepsOthers.setCell W ⟨w.heap.size + 1, 0, none⟩ (.bool false)).same D _ hK rfl
    have HK := Lib.hid hK'
    clear hR hX hK hK'
    gi_wp2
    refine ⟨by simp, .inl ⟨_, _, rfl, run_takeDeferred HK.out, ?_⟩⟩
    have hc5 := ((HR.out.set 0 (.bool false)).putObj HK.out rfl (.deferred none)).cell 0 rfl
    have hmm : meetsP l x = false := by
      unfold meetsP; rw [List.any_eq_false]; intro y hy; rw [hno.out y hy]; simp
    rw [hmm]
    refine ⟨.bool false, ?_, rfl, ((hUW.setCell (.inr (by simp)) _).putObj (by omega) _)⟩
    simp [results, Try.f18, go_sem, hc5]
  case stop =>
    rintro D c pre W hD hpre ⟨⟨rfl, hyes⟩, hR, hUW⟩ hK
    gi_wp2
    refine ⟨by simp, .inl ⟨_, _, rfl, run_takeDeferred hK, ?_⟩⟩
    have hc5 := (hR.putObj hK rfl (.deferred none)).cell 0 rfl
    have hmm : meetsP l x = true := by
      obtain ⟨y, hy, hm⟩ := hyes.out
      unfold meetsP; exact List.any_eq_true.2 ⟨y, hpre.subset hy, hm⟩
    rw [hmm]
    refine ⟨.bool true, ?_, rfl, (hUW.putObj (by omega) _)⟩
    simp [results, Try.f18, go_sem, hc5]
end Go.Proofs.Ytibmhadnfggmlaa

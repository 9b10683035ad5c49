/- Package swingleref19: Right: its walk. -/
import Derived.Test.YtigjingielnaoaaDoorRight
namespace Go.Proofs.YtigjingielnaoaaDoor
set_option linter.unusedVariables false
set_option linter.unusedSimpArgs false
set_option linter.unusedSectionVars false
open Go.RowKit
set_option linter.unusedVariables false

theorem sizeB_ref (n : Int) : sizeB n = !(decide (n < 0) || decide (2147483647 < n)) := by
  unfold sizeB
  rw [Bool.eq_iff_iff]
  simp
  omega
theorem laidB_not1 {r : RecD} (h : r.m ≠ 0 ∧ r.m ≠ 8) : laidB r = false := by unfold laidB; rw [if_pos (.inl h)]
theorem laidB_notl {r : RecD} (h : sizeB r.l = false) : laidB r = false := by unfold laidB; rw [if_pos (.inr (.inl h))]
theorem laidB_notw {r : RecD} (h : sizeB r.wh = false) : laidB r = false := by unfold laidB; rw [if_pos (.inr (.inr (.inl h)))]
theorem laidB_nota {r : RecD} (h : sizeB r.pos = false) : laidB r = false := by unfold laidB; rw [if_pos (.inr (.inr (.inr h)))]
theorem laidB_rest {r : RecD} (hm : r.m = 0 ∨ r.m = 8) (h1 : sizeB r.l = true) (h2 : sizeB r.wh = true) (h3 : sizeB r.pos = true) :
    laidB r = if r.k = 2 then decide (r.sum = 0) && decide (r.l = 0) && decide (r.wh = 0) && decide (r.m = 0) else decide (r.m = 8) || decide (r.l = r.wh) := by
  unfold laidB
  rw [h1, h2, h3, if_neg]
  simp
  omega
set_option maxRecDepth 100000 in
set_option maxHeartbeats 8000000 in
theorem rright19_any (r : RecD) (w : World) (h : r.Fits) : Calls Tryd.prog 19 #[r.v] w fun e w' => e = .returned (.int .i64 (recErr r : Nat)) ∧ Upd [] w w' := by
  have hp := h.p
  have hsz : (strOf (nameP r.k r.p)).size ≤ 1100000 := by have := nameP_len r.k r.p; rw [size_strOf]; omega
  have HN := Lib.hid (fun w => rname19_any r w h)
  have HP := Lib.hid (fun w => rpath_any (strOf (nameP r.k r.p)) w hsz)
  rw [bytesOf_strOf _ (nameP_lt r.k r.p)] at HP
  have HT := Lib.hid (fun w => rtime_any r w h)
  have HE : Hid (recErr r = if nameB r = false then 5 else if laidB r = false then 2 else if r.md < 0 ∨ 511 < r.md then 12 else if rtimeB r.k r.t = false then 13 else 0) := Lib.hid rfl
  have HB : Hid (nameB r = ((pathP (nameP r.k r.p)).2.2 && decide ((pathP (nameP r.k r.p)).1 = bytesOf r.p) && decide (((pathP (nameP r.k r.p)).2.1 : Int) = r.k))) := Lib.hid rfl
  have HA : Hid (∀ x ∈ (pathP (nameP r.k r.p)).1, x < 256) := Lib.hid (pathP_lt (nameP_lt r.k r.p))
  have L1 := Lib.hid (@laidB_not1 r)
  have L2 := Lib.hid (@laidB_notl r)
  have L3 := Lib.hid (@laidB_notw r)
  have L4 := Lib.hid (@laidB_nota r)
  have L5 := Lib.hid (@laidB_rest r)
  generalize recErr r = E at *
  generalize rtimeB r.k r.t = tb at *
  generalize laidB r = lb at *
  generalize nameB r = nb at *
  generalize pathP (nameP r.k r.p) = pp at *
  generalize strOf (nameP r.k r.p) = S at *
  clear hsz
  obtain ⟨a, kk, okb⟩ := pp
  unfold pathV at HP
  dsimp only at HP HB HA
  obtain ⟨p, m, sum, l, wh, k, md, t, pos⟩ := r
  unfold RecD.v at *
  dsimp only at *
  have HQ := Lib.hid (strOf_toList_eq a p HA.out)
  clear HA
  go_enter Tryd.func19, Tryd.ntmps19
  go_wp2_with fail
  refine (HN.out _).mono ?_
  rintro e w1 ⟨rfl, hU1⟩
  go_wp2_with fail
  refine (HP.out _).mono ?_
  rintro e w2 ⟨rfl, hU2⟩
  have hU : Upd [] w w2 := (((Upd.refl [] w).alloc _).then hU1).then hU2
  have hB := ((Blk.new w [.string p, .int .i64 m, .int .u32 (sum : Nat), .int .i64 l, .int .i64 wh, .int .i64 k, .int .i64 md, .int .u32 (t : Nat), .int .i64 pos] 24).upd hU1 (by simp)).upd hU2 (by simp)
  generalize w.heap.size = b0 at *
  have c0 := hB.cell 0 rfl
  have c1 := hB.cell 1 rfl
  have c2 := hB.cell 2 rfl
  have c3 := hB.cell 3 rfl
  have c4 := hB.cell 4 rfl
  have c5 := hB.cell 5 rfl
  have c6 := hB.cell 6 rfl
  have c7 := hB.cell 7 rfl
  have c8 := hB.cell 8 rfl
  have HBB := Lib.hid hB
  have HU := Lib.hid hU
  clear hB hU hU1 hU2
  by_cases hn : okb = true ∧ (strOf a).toList = p.toList ∧ (kk : Int) = k
  · obtain ⟨rfl, h2, h4⟩ := hn
    have hnb : nb = true := by
      have h2' := h2
      rw [HQ.out] at h2'
      rw [HB.out]
      simp [h2', h4]
    have h3 : ((kk : Int) != k) = false := by simpa using h4
    rw [hnb, if_neg (by simp)] at HE
    clear hnb h4 HB HQ HP HN
    by_cases hm : m = 0 ∨ m = 8
    rotate_left
    · have hlb : lb = false := L1.out (by omega)
      have hm0 : ¬ m = 0 := by omega
      have hm8 : ¬ m = 8 := by omega
      have t0 : (m != 0) = true := by simpa using hm0
      have t8 : (m != 8) = true := by simpa using hm8
      clear hm
      go_wp2_with fail
      go_ret
      exact ⟨by rw [HE.out, hlb]; rfl, HU.out⟩
    · have L6 := Lib.hid (L5.out hm)
      clear L1 L5
      rcases hm with rfl | rfl
      · go_wp2_with fail
        have HW : Hid (Upd [] w (w2.alloc (.cells #[.int .i64 l, .int .i64 wh, .int .i64 pos] 3))) := Lib.hid (HU.out.alloc _)
        have hB3 := HBB.out.alloc (.cells #[.int .i64 l, .int .i64 wh, .int .i64 pos] 3)
        have hS := Blk.new w2 [.int .i64 l, .int .i64 wh, .int .i64 pos] 3
        change Code.wp _ _ _ _ (w2.alloc (.cells [.int .i64 l, .int .i64 wh, .int .i64 pos].toArray 3))
        change Blk (w2.alloc (.cells [.int .i64 l, .int .i64 wh, .int .i64 pos].toArray 3)) _ _ _ at hB3
        change Hid (Upd [] w (w2.alloc (.cells [.int .i64 l, .int .i64 wh, .int .i64 pos].toArray 3))) at HW
        generalize w2.alloc (.cells [.int .i64 l, .int .i64 wh, .int .i64 pos].toArray 3) = w3 at *
        generalize w2.heap.size = b3 at *
        have d0 := hB3.cell 0 rfl
        have d1 := hB3.cell 1 rfl
        have d2 := hB3.cell 2 rfl
        have d3 := hB3.cell 3 rfl
        have d4 := hB3.cell 4 rfl
        have d5 := hB3.cell 5 rfl
        have d6 := hB3.cell 6 rfl
        have d7 := hB3.cell 7 rfl
        have d8 := hB3.cell 8 rfl
        have e0 := hS.cell 0 rfl
        have e1 := hS.cell 1 rfl
        have e2 := hS.cell 2 rfl
        clear hS hB3 HBB c0 c1 c2 c3 c4 c5 c6 c7 c8
        go_loopg [7, 45] 3 (fun gg s7 s45 wr => ∃ i, i ≤ 3 ∧ gg = 3 - i ∧ s45 = .int .i64 (i : Nat) ∧ Hid (0 < i → sizeB l = true) ∧ Hid (1 < i → sizeB wh = true) ∧ Hid (2 < i → sizeB pos = true) ∧ wr = w3)
        case atStart => exact ⟨0, by omega, rfl, rfl, Lib.hid (by omega), Lib.hid (by omega), Lib.hid (by omega), rfl⟩
        case round =>
          obtain ⟨i, hi, rfl, rfl, S1, S2, S3, rfl⟩ := hrel
          have hcs : i = 0 ∨ i = 1 ∨ i = 2 ∨ i = 3 := by omega
          rcases hcs with rfl | rfl | rfl | rfl
          · cases hs : sizeB l with
            | true =>
              have hs' := hs
              rw [sizeB_ref] at hs'
              have q0 : ¬ l < 0 := by simp at hs'; omega
              have q1 : ¬ 2147483647 < l := by simp at hs'; omega
              clear hs'
              have HS := Lib.hid hs
              clear hs
              go_wp2_with fail
              have hs := HS.out
              go_roundg (3 - 1)
              all_goals first
                | omega
                | exact ⟨1, by omega, rfl, rfl, Lib.hid (fun _ => hs), Lib.hid (by omega), Lib.hid (by omega), rfl⟩
            | false =>
              have hlb : lb = false := L2.out hs
              have hs' := hs
              rw [sizeB_ref] at hs'
              have q0 : l < 0 ∨ 2147483647 < l := by simp at hs'; omega
              clear hs' hs
              rcases q0 with q0 | q0
              · go_wp2_with fail
                go_ret
                exact ⟨by rw [HE.out, hlb]; rfl, HW.out⟩
              · have q1 : ¬ l < 0 := by omega
                go_wp2_with fail
                go_ret
                exact ⟨by rw [HE.out, hlb]; rfl, HW.out⟩
          · cases hs : sizeB wh with
            | true =>
              have hs' := hs
              rw [sizeB_ref] at hs'
              have q0 : ¬ wh < 0 := by simp at hs'; omega
              have q1 : ¬ 2147483647 < wh := by simp at hs'; omega
              clear hs'
              have HS := Lib.hid hs
              clear hs
              go_wp2_with fail
              have hs := HS.out
              go_roundg (3 - 2)
              all_goals first
                | omega
                | exact ⟨2, by omega, rfl, rfl, Lib.hid (fun _ => S1.out (by omega)), Lib.hid (fun _ => hs), Lib.hid (by omega), rfl⟩
            | false =>
              have hlb : lb = false := L3.out hs
              have hs' := hs
              rw [sizeB_ref] at hs'
              have q0 : wh < 0 ∨ 2147483647 < wh := by simp at hs'; omega
              clear hs' hs
              rcases q0 with q0 | q0
              · go_wp2_with fail
                go_ret
                exact ⟨by rw [HE.out, hlb]; rfl, HW.out⟩
              · have q1 : ¬ wh < 0 := by omega
                go_wp2_with fail
                go_ret
                exact ⟨by rw [HE.out, hlb]; rfl, HW.out⟩
          · cases hs : sizeB pos with
            | true =>
              have hs' := hs
              rw [sizeB_ref] at hs'
              have q0 : ¬ pos < 0 := by simp at hs'; omega
              have q1 : ¬ 2147483647 < pos := by simp at hs'; omega
              clear hs'
              have HS := Lib.hid hs
              clear hs
              go_wp2_with fail
              have hs := HS.out
              go_roundg (3 - 3)
              all_goals first
                | omega
                | exact ⟨3, by omega, rfl, rfl, Lib.hid (fun _ => S1.out (by omega)), Lib.hid (fun _ => S2.out (by omega)), Lib.hid (fun _ => hs), rfl⟩
            | false =>
              have hlb : lb = false := L4.out hs
              have hs' := hs
              rw [sizeB_ref] at hs'
              have q0 : pos < 0 ∨ 2147483647 < pos := by simp at hs'; omega
              clear hs' hs
              rcases q0 with q0 | q0
              · go_wp2_with fail
                go_ret
                exact ⟨by rw [HE.out, hlb]; rfl, HW.out⟩
              · have q1 : ¬ pos < 0 := by omega
                go_wp2_with fail
                go_ret
                exact ⟨by rw [HE.out, hlb]; rfl, HW.out⟩
          · have L7 := Lib.hid (L6.out (S1.out (by omega)) (S2.out (by omega)) (S3.out (by omega)))
            clear L2 L3 L4 L6 S1 S2 S3 e0 e1 e2
            by_cases hk : k = 2
            · subst hk
              by_cases hz : sum = 0 ∧ l = 0 ∧ wh = 0
              · obtain ⟨rfl, rfl, rfl⟩ := hz
                have hlb : lb = true := by rw [L7.out]; rfl
                clear L7
                by_cases hmd : md < 0 ∨ 511 < md
                · have HX : Hid (E = 12) := Lib.hid (by rw [HE.out, hlb, if_neg (by simp), if_pos hmd])
                  clear HE
                  rcases hmd with hmd | hmd
                  · go_wp2_with fail
                    go_ret
                    exact ⟨by rw [HX.out]; rfl, HW.out⟩
                  · have hm0 : ¬ md < 0 := by omega
                    go_wp2_with fail
                    go_ret
                    exact ⟨by rw [HX.out]; rfl, HW.out⟩
                · have HX : Hid (E = if tb = false then 13 else 0) := Lib.hid (by rw [HE.out, hlb, if_neg (by simp), if_neg hmd])
                  have hm0 : ¬ md < 0 := by omega
                  have hm1 : ¬ 511 < md := by omega
                  clear HE hmd
                  go_wp2_with fail
                  refine (HT.out _).mono ?_
                  rintro e w4 ⟨rfl, hU4⟩
                  have HG := Lib.hid (HW.out.then hU4)
                  clear hU4 d0 d1 d2 d3 d4 d5 d6 d7 d8
                  cases tb with
                  | false =>
                    go_wp2
                    go_ret
                    exact ⟨by rw [HX.out]; rfl, HG.out⟩
                  | true =>
                    go_wp2
                    go_ret
                    exact ⟨by rw [HX.out]; rfl, HG.out⟩
              · have hlb : lb = false := by rw [L7.out, if_pos rfl]; simp; omega
                clear L7
                have hz' : (sum : Int) ≠ 0 ∨ l ≠ 0 ∨ wh ≠ 0 := by omega
                rcases hz' with hz' | hz' | hz'
                all_goals (have hz'' := hz'; rw [← bne_iff_ne] at hz''; go_wp2_with fail)
                all_goals (go_ret; exact ⟨by rw [HE.out, hlb]; rfl, HW.out⟩)
            · have t2 : (k == 2) = false := by simpa using hk
              by_cases hz : l = wh
              · subst hz
                have hlb : lb = true := by rw [L7.out, if_neg hk]; simp
                clear L7
                by_cases hmd : md < 0 ∨ 511 < md
                · have HX : Hid (E = 12) := Lib.hid (by rw [HE.out, hlb, if_neg (by simp), if_pos hmd])
                  clear HE
                  rcases hmd with hmd | hmd
                  · go_wp2_with fail
                    go_ret
                    exact ⟨by rw [HX.out]; rfl, HW.out⟩
                  · have hm0 : ¬ md < 0 := by omega
                    go_wp2_with fail
                    go_ret
                    exact ⟨by rw [HX.out]; rfl, HW.out⟩
                · have HX : Hid (E = if tb = false then 13 else 0) := Lib.hid (by rw [HE.out, hlb, if_neg (by simp), if_neg hmd])
                  have hm0 : ¬ md < 0 := by omega
                  have hm1 : ¬ 511 < md := by omega
                  clear HE hmd
                  go_wp2_with fail
                  refine (HT.out _).mono ?_
                  rintro e w4 ⟨rfl, hU4⟩
                  have HG := Lib.hid (HW.out.then hU4)
                  clear hU4 d0 d1 d2 d3 d4 d5 d6 d7 d8
                  cases tb with
                  | false =>
                    go_wp2
                    go_ret
                    exact ⟨by rw [HX.out]; rfl, HG.out⟩
                  | true =>
                    go_wp2
                    go_ret
                    exact ⟨by rw [HX.out]; rfl, HG.out⟩
              · have hlb : lb = false := by rw [L7.out, if_neg hk]; simp [hz]
                clear L7
                have tz : (l != wh) = true := by simpa using hz
                go_wp2_with fail
                go_ret
                exact ⟨by rw [HE.out, hlb]; rfl, HW.out⟩
      · go_wp2_with fail
        have HW : Hid (Upd [] w (w2.alloc (.cells #[.int .i64 l, .int .i64 wh, .int .i64 pos] 3))) := Lib.hid (HU.out.alloc _)
        have hB3 := HBB.out.alloc (.cells #[.int .i64 l, .int .i64 wh, .int .i64 pos] 3)
        have hS := Blk.new w2 [.int .i64 l, .int .i64 wh, .int .i64 pos] 3
        change Code.wp _ _ _ _ (w2.alloc (.cells [.int .i64 l, .int .i64 wh, .int .i64 pos].toArray 3))
        change Blk (w2.alloc (.cells [.int .i64 l, .int .i64 wh, .int .i64 pos].toArray 3)) _ _ _ at hB3
        change Hid (Upd [] w (w2.alloc (.cells [.int .i64 l, .int .i64 wh, .int .i64 pos].toArray 3))) at HW
        generalize w2.alloc (.cells [.int .i64 l, .int .i64 wh, .int .i64 pos].toArray 3) = w3 at *
        generalize w2.heap.size = b3 at *
        have d0 := hB3.cell 0 rfl
        have d1 := hB3.cell 1 rfl
        have d2 := hB3.cell 2 rfl
        have d3 := hB3.cell 3 rfl
        have d4 := hB3.cell 4 rfl
        have d5 := hB3.cell 5 rfl
        have d6 := hB3.cell 6 rfl
        have d7 := hB3.cell 7 rfl
        have d8 := hB3.cell 8 rfl
        have e0 := hS.cell 0 rfl
        have e1 := hS.cell 1 rfl
        have e2 := hS.cell 2 rfl
        clear hS hB3 HBB c0 c1 c2 c3 c4 c5 c6 c7 c8
        go_loopg [7, 45] 3 (fun gg s7 s45 wr => ∃ i, i ≤ 3 ∧ gg = 3 - i ∧ s45 = .int .i64 (i : Nat) ∧ Hid (0 < i → sizeB l = true) ∧ Hid (1 < i → sizeB wh = true) ∧ Hid (2 < i → sizeB pos = true) ∧ wr = w3)
        case atStart => exact ⟨0, by omega, rfl, rfl, Lib.hid (by omega), Lib.hid (by omega), Lib.hid (by omega), rfl⟩
        case round =>
          obtain ⟨i, hi, rfl, rfl, S1, S2, S3, rfl⟩ := hrel
          have hcs : i = 0 ∨ i = 1 ∨ i = 2 ∨ i = 3 := by omega
          rcases hcs with rfl | rfl | rfl | rfl
          · cases hs : sizeB l with
            | true =>
              have hs' := hs
              rw [sizeB_ref] at hs'
              have q0 : ¬ l < 0 := by simp at hs'; omega
              have q1 : ¬ 2147483647 < l := by simp at hs'; omega
              clear hs'
              have HS := Lib.hid hs
              clear hs
              go_wp2_with fail
              have hs := HS.out
              go_roundg (3 - 1)
              all_goals first
                | omega
                | exact ⟨1, by omega, rfl, rfl, Lib.hid (fun _ => hs), Lib.hid (by omega), Lib.hid (by omega), rfl⟩
            | false =>
              have hlb : lb = false := L2.out hs
              have hs' := hs
              rw [sizeB_ref] at hs'
              have q0 : l < 0 ∨ 2147483647 < l := by simp at hs'; omega
              clear hs' hs
              rcases q0 with q0 | q0
              · go_wp2_with fail
                go_ret
                exact ⟨by rw [HE.out, hlb]; rfl, HW.out⟩
              · have q1 : ¬ l < 0 := by omega
                go_wp2_with fail
                go_ret
                exact ⟨by rw [HE.out, hlb]; rfl, HW.out⟩
          · cases hs : sizeB wh with
            | true =>
              have hs' := hs
              rw [sizeB_ref] at hs'
              have q0 : ¬ wh < 0 := by simp at hs'; omega
              have q1 : ¬ 2147483647 < wh := by simp at hs'; omega
              clear hs'
              have HS := Lib.hid hs
              clear hs
              go_wp2_with fail
              have hs := HS.out
              go_roundg (3 - 2)
              all_goals first
                | omega
                | exact ⟨2, by omega, rfl, rfl, Lib.hid (fun _ => S1.out (by omega)), Lib.hid (fun _ => hs), Lib.hid (by omega), rfl⟩
            | false =>
              have hlb : lb = false := L3.out hs
              have hs' := hs
              rw [sizeB_ref] at hs'
              have q0 : wh < 0 ∨ 2147483647 < wh := by simp at hs'; omega
              clear hs' hs
              rcases q0 with q0 | q0
              · go_wp2_with fail
                go_ret
                exact ⟨by rw [HE.out, hlb]; rfl, HW.out⟩
              · have q1 : ¬ wh < 0 := by omega
                go_wp2_with fail
                go_ret
                exact ⟨by rw [HE.out, hlb]; rfl, HW.out⟩
          · cases hs : sizeB pos with
            | true =>
              have hs' := hs
              rw [sizeB_ref] at hs'
              have q0 : ¬ pos < 0 := by simp at hs'; omega
              have q1 : ¬ 2147483647 < pos := by simp at hs'; omega
              clear hs'
              have HS := Lib.hid hs
              clear hs
              go_wp2_with fail
              have hs := HS.out
              go_roundg (3 - 3)
              all_goals first
                | omega
                | exact ⟨3, by omega, rfl, rfl, Lib.hid (fun _ => S1.out (by omega)), Lib.hid (fun _ => S2.out (by omega)), Lib.hid (fun _ => hs), rfl⟩
            | false =>
              have hlb : lb = false := L4.out hs
              have hs' := hs
              rw [sizeB_ref] at hs'
              have q0 : pos < 0 ∨ 2147483647 < pos := by simp at hs'; omega
              clear hs' hs
              rcases q0 with q0 | q0
              · go_wp2_with fail
                go_ret
                exact ⟨by rw [HE.out, hlb]; rfl, HW.out⟩
              · have q1 : ¬ pos < 0 := by omega
                go_wp2_with fail
                go_ret
                exact ⟨by rw [HE.out, hlb]; rfl, HW.out⟩
          · have L7 := Lib.hid (L6.out (S1.out (by omega)) (S2.out (by omega)) (S3.out (by omega)))
            clear L2 L3 L4 L6 S1 S2 S3 e0 e1 e2
            by_cases hk : k = 2
            · subst hk
              have hlb : lb = false := by rw [L7.out, if_pos rfl]; simp
              clear L7
              go_wp2_with fail
              all_goals (go_ret; exact ⟨by rw [HE.out, hlb]; rfl, HW.out⟩)
            · have t2 : (k == 2) = false := by simpa using hk
              have hlb : lb = true := by rw [L7.out, if_neg hk]; simp
              clear L7
              by_cases hmd : md < 0 ∨ 511 < md
              · have HX : Hid (E = 12) := Lib.hid (by rw [HE.out, hlb, if_neg (by simp), if_pos hmd])
                clear HE
                rcases hmd with hmd | hmd
                · go_wp2_with fail
                  go_ret
                  exact ⟨by rw [HX.out]; rfl, HW.out⟩
                · have hm0 : ¬ md < 0 := by omega
                  go_wp2_with fail
                  go_ret
                  exact ⟨by rw [HX.out]; rfl, HW.out⟩
              · have HX : Hid (E = if tb = false then 13 else 0) := Lib.hid (by rw [HE.out, hlb, if_neg (by simp), if_neg hmd])
                have hm0 : ¬ md < 0 := by omega
                have hm1 : ¬ 511 < md := by omega
                clear HE hmd
                go_wp2_with fail
                refine (HT.out _).mono ?_
                rintro e w4 ⟨rfl, hU4⟩
                have HG := Lib.hid (HW.out.then hU4)
                clear hU4 d0 d1 d2 d3 d4 d5 d6 d7 d8
                cases tb with
                | false =>
                  go_wp2
                  go_ret
                  exact ⟨by rw [HX.out]; rfl, HG.out⟩
                | true =>
                  go_wp2
                  go_ret
                  exact ⟨by rw [HX.out]; rfl, HG.out⟩
  · have hnb : nb = false := by
      rw [HB.out]
      cases okb with
      | false => rfl
      | true =>
        by_cases h2 : a = bytesOf p
        · by_cases h4 : (kk : Int) = k
          · exact absurd ⟨rfl, by rw [HQ.out]; exact h2, h4⟩ hn
          · simp [h4]
        · simp [h2]
    have hn' : okb = false ∨ ¬ (strOf a).toList = p.toList ∨ ((kk : Int) != k) = true := by
      cases okb with
      | false => exact .inl rfl
      | true =>
        by_cases h2 : (strOf a).toList = p.toList
        · exact .inr (.inr (by simpa using fun h4 => hn ⟨rfl, h2, h4⟩))
        · exact .inr (.inl h2)
    clear hn
    rcases hn' with rfl | hn' | hn'
    all_goals go_wp2_with fail
    all_goals (try (exfalso; simp_all; done))
    all_goals (go_ret; exact ⟨by rw [HE.out, hnb]; rfl, HU.out⟩)
end Go.Proofs.YtigjingielnaoaaDoor

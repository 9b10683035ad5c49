/- Packages local and swingleref19: Right: walks. -/
import Derived.Test.YtigjingielnaoaaDoorQAT
namespace Go.Proofs.YtigjingielnaoaaDoor
set_option linter.unusedVariables false
set_option linter.unusedSimpArgs false
set_option linter.unusedSectionVars false
open Go.RowKit
set_option linter.unusedVariables false

theorem strOf_toList_eq (a : List Nat) (p : ByteArray) (ha : ∀ x ∈ a, x < 256) : ((strOf a).toList = p.toList) = (a = bytesOf p) := by
  refine propext ⟨fun h => ?_, fun h => by rw [h, strOf_bytesOf]⟩
  rw [ByteArray.toList_eq, ByteArray.toList_eq] at h
  have : strOf a = p := ByteArray.ext (Array.ext' h)
  rw [← this, bytesOf_strOf a ha]
set_option maxRecDepth 100000 in
set_option maxHeartbeats 4000000 in
theorem lright_any (r : RecD) (w : World) (h : r.Fits) : Calls Tryd.prog 31 #[r.v] w fun e w' => e = .returned (.int .i64 (recErr r : Nat)) ∧ Upd [] w w' := by
  have hp := h.p
  have hsz : (strOf (nameP r.k r.p)).size ≤ 1000000 := by have := nameP_len r.k r.p; rw [size_strOf]; omega
  have HN := Lib.hid (fun w => name_any r w h)
  have HP := Lib.hid (fun w => path_any (strOf (nameP r.k r.p)) w hsz)
  rw [bytesOf_strOf _ (nameP_lt r.k r.p)] at HP
  have HL := Lib.hid (fun w => laid_any r w h)
  have HT := Lib.hid (fun w => time_any r w h)
  have HE : Hid (recErr r = if nameB r = false then 5 else if laidB r = false then 2 else if r.md < 0 ∨ 511 < r.md then 12 else if rtimeB r.k r.t = false then 13 else 0) := Lib.hid rfl
  have HB : Hid (nameB r = ((pathP (nameP r.k r.p)).2.2 && decide ((pathP (nameP r.k r.p)).1 = bytesOf r.p) && decide (((pathP (nameP r.k r.p)).2.1 : Int) = r.k))) := Lib.hid rfl
  have HA : Hid (∀ x ∈ (pathP (nameP r.k r.p)).1, x < 256) := Lib.hid (pathP_lt (nameP_lt r.k r.p))
  generalize recErr r = E at *
  generalize rtimeB r.k r.t = tb at *
  generalize laidB r = lb at *
  generalize nameB r = nb at *
  generalize pathP (nameP r.k r.p) = pp at *
  generalize strOf (nameP r.k r.p) = S at *
  clear hsz
  obtain ⟨a, kk, okb⟩ := pp
  unfold pathV at HP
  dsimp only at HP HB HA
  obtain ⟨p, m, sum, l, wh, k, md, t, pos⟩ := r
  unfold RecD.v at *
  dsimp only at *
  have HQ := Lib.hid (strOf_toList_eq a p HA.out)
  clear HA
  go_enter Tryd.func31, Tryd.ntmps31
  go_wp2_with fail
  refine (HN.out _).mono ?_
  rintro e w1 ⟨rfl, hU1⟩
  go_wp2_with fail
  refine (HP.out _).mono ?_
  rintro e w2 ⟨rfl, hU2⟩
  have hU : Upd [] w w2 := (((Upd.refl [] w).alloc _).then hU1).then hU2
  have hB := ((Blk.new w [.string p, .int .i64 m, .int .u32 (sum : Nat), .int .i64 l, .int .i64 wh, .int .i64 k, .int .i64 md, .int .u32 (t : Nat), .int .i64 pos] 24).upd hU1 (by simp)).upd hU2 (by simp)
  have hlt := hB.lt
  generalize w.heap.size = b0 at *
  have c0 := hB.cell 0 rfl
  have c1 := hB.cell 1 rfl
  have c2 := hB.cell 2 rfl
  have c3 := hB.cell 3 rfl
  have c4 := hB.cell 4 rfl
  have c5 := hB.cell 5 rfl
  have c6 := hB.cell 6 rfl
  have c7 := hB.cell 7 rfl
  have c8 := hB.cell 8 rfl
  have HBB := Lib.hid hB
  have HU := Lib.hid hU
  clear hB hU hU1 hU2
  go_wp2_with fail
  any_goals (go_ret; refine ⟨?_, HU.out⟩; have hnb : nb = false := (by
    rw [HB.out]
    first
      | (have h1 := ‹¬ (okb = true)›; simp [h1]; done)
      | (have h2 := ‹¬ ((strOf a).toList = p.toList)›; rw [HQ.out] at h2; simp [h2]; done)
      | (have h3 := ‹((kk : Int) != k) = true›; have h4 : ¬ ((kk : Int) = k) := (by simpa using h3); simp [h4]; done)); rw [HE.out, hnb]; rfl)
  have hnb : nb = true := by
    have h2 := ‹(strOf a).toList = p.toList›
    have h1 := ‹okb = true›
    have h3 := ‹((kk : Int) != k) = false›
    rw [HQ.out] at h2
    have h4 : (kk : Int) = k := by simpa using h3
    rw [HB.out]
    simp [h1, h2, h4]
  cases lb with
  | false =>
    refine (HL.out _).mono ?_
    rintro e w3 ⟨rfl, hU3⟩
    have HF := Lib.hid (HU.out.then hU3)
    clear hU3
    go_wp2
    go_ret
    exact ⟨by rw [HE.out, hnb]; rfl, HF.out⟩
  | true =>
    refine (HL.out _).mono ?_
    rintro e w3 ⟨rfl, hU3⟩
    have hB3 := HBB.out.upd hU3 (by simp)
    have d0 := hB3.cell 0 rfl
    have d1 := hB3.cell 1 rfl
    have d2 := hB3.cell 2 rfl
    have d3 := hB3.cell 3 rfl
    have d4 := hB3.cell 4 rfl
    have d5 := hB3.cell 5 rfl
    have d6 := hB3.cell 6 rfl
    have d7 := hB3.cell 7 rfl
    have d8 := hB3.cell 8 rfl
    have HF := Lib.hid (HU.out.then hU3)
    clear hU3 hB3 c0 c1 c2 c3 c4 c5 c6 c7 c8
    by_cases hm : md < 0 ∨ 511 < md
    · have HX : Hid (E = 12) := Lib.hid (by rw [HE.out, hnb, if_neg (by simp), if_neg (by simp), if_pos hm])
      clear HE
      rcases hm with hm | hm
      · go_wp2_with fail
        go_ret
        exact ⟨by rw [HX.out]; rfl, HF.out⟩
      · have hm0 : ¬ md < 0 := by omega
        go_wp2_with fail
        go_ret
        exact ⟨by rw [HX.out]; rfl, HF.out⟩
    · have HX : Hid (E = if tb = false then 13 else 0) := Lib.hid (by rw [HE.out, hnb, if_neg (by simp), if_neg (by simp), if_neg hm])
      have hm0 : ¬ md < 0 := by omega
      have hm1 : ¬ 511 < md := by omega
      clear HE hm
      go_wp2_with fail
      refine (HT.out _).mono ?_
      rintro e w4 ⟨rfl, hU4⟩
      have HG := Lib.hid (HF.out.then hU4)
      clear hU4 d0 d1 d2 d3 d4 d5 d6 d7 d8
      cases tb with
      | false =>
        go_wp2
        go_ret
        exact ⟨by rw [HX.out]; rfl, HG.out⟩
      | true =>
        go_wp2
        go_ret
        exact ⟨by rw [HX.out]; rfl, HG.out⟩
end Go.Proofs.YtigjingielnaoaaDoor

/- Package swingleref35: Same, for any events: its walk. -/
import Derived.Deep.QuietTactic
import Derived.BigQuiet
import Derived.Test.YtigjingielnaoaaDoorSSame
namespace Go.Proofs.YtigjingielnaoaaDoor
set_option linter.unusedVariables false
set_option linter.unusedSimpArgs false
set_option linter.unusedSectionVars false
open Go.RowKit
set_option linter.unusedVariables false
set_option linter.unusedSimpArgs false

set_option maxRecDepth 100000 in
set_option maxHeartbeats 6400000 in
theorem rsame35_any (e o : EvN) (w : World) (h1 : IntsAt w e.v e.l) (h2 : IntsAt w o.v o.l) (hl : e.l.length ≤ 9223372036854775807) (hl2 : o.l.length ≤ 9223372036854775807) :
    Calls Tryd.prog 17 #[e.val, o.val] w fun r w' => r = .returned (.bool (sameE e o)) ∧ Upd [] w w' := by
  obtain ⟨op, p, q, k, m, t, D, n, v, l⟩ := e
  obtain ⟨op2, p2, q2, k2, m2, t2, D2, n2, v2, l2⟩ := o
  dsimp only at h1 h2 hl hl2
  obtain ⟨a1, cap1, rfl, hcap1, hc1⟩ := h1
  obtain ⟨a2, cap2, rfl, hcap2, hc2⟩ := h2
  have HB := Lib.hid ((Blk.new w [.int .i64 op, .string p, .string q, .int .i64 k, .int .i64 m, .int .u32 (t : Nat), .string D, .int .i64 n, .slice a1 l.length cap1] 44).alloc (.cells #[.int .i64 op2, .string p2, .string q2, .int .i64 k2, .int .i64 m2, .int .u32 (t2 : Nat), .string D2, .int .i64 n2, .slice a2 l2.length cap2] 44))
  have HB2 : Hid (Blk ((w.alloc (.cells #[.int .i64 op, .string p, .string q, .int .i64 k, .int .i64 m, .int .u32 (t : Nat), .string D, .int .i64 n, .slice a1 l.length cap1] 44)).alloc (.cells #[.int .i64 op2, .string p2, .string q2, .int .i64 k2, .int .i64 m2, .int .u32 (t2 : Nat), .string D2, .int .i64 n2, .slice a2 l2.length cap2] 44)) (w.heap.size + 1) [.int .i64 op2, .string p2, .string q2, .int .i64 k2, .int .i64 m2, .int .u32 (t2 : Nat), .string D2, .int .i64 n2, .slice a2 l2.length cap2] 44) := Lib.hid (by
    have h := Blk.new (w.alloc (.cells #[.int .i64 op, .string p, .string q, .int .i64 k, .int .i64 m, .int .u32 (t : Nat), .string D, .int .i64 n, .slice a1 l.length cap1] 44)) [.int .i64 op2, .string p2, .string q2, .int .i64 k2, .int .i64 m2, .int .u32 (t2 : Nat), .string D2, .int .i64 n2, .slice a2 l2.length cap2] 44
    simpa using h)
  have HU := Lib.hid (((Upd.refl [] w).alloc (.cells #[.int .i64 op, .string p, .string q, .int .i64 k, .int .i64 m, .int .u32 (t : Nat), .string D, .int .i64 n, .slice a1 l.length cap1] 44)).alloc (.cells #[.int .i64 op2, .string p2, .string q2, .int .i64 k2, .int .i64 m2, .int .u32 (t2 : Nat), .string D2, .int .i64 n2, .slice a2 l2.length cap2] 44))
  have HC1 := Lib.hid hc1
  have HC2 := Lib.hid hc2
  clear hc1 hc2
  unfold EvN.val EvN.cells
  dsimp only
  have hd : ∀ b : Bool, (b = decide (op = op2 ∧ p = p2 ∧ q = q2 ∧ k = k2 ∧ m = m2 ∧ t = t2 ∧ D = D2 ∧ n = n2 ∧ l = l2)) → sameE ⟨op, p, q, k, m, t, D, n, .slice a1 l.length cap1, l⟩ ⟨op2, p2, q2, k2, m2, t2, D2, n2, .slice a2 l2.length cap2, l2⟩ = b := fun b h => h.symm
  have HD := Lib.hid hd
  clear hd
  by_cases hop : op = op2
  · subst hop
    by_cases hp : p = p2
    · subst hp
      by_cases hq : q = q2
      · subst hq
        by_cases hk : k = k2
        · subst hk
          by_cases hm : m = m2
          · subst hm
            by_cases ht : t = t2
            · subst ht
              by_cases hD : D = D2
              · subst hD
                by_cases hn : n = n2
                · subst hn
                  have HV := Lib.hid (HD.out (decide (l = l2)) (by simp))
                  clear HD
                  by_cases hlen : l.length = l2.length
                  · obtain ⟨nn, hnn⟩ : ∃ nn, l.length = nn := ⟨_, rfl⟩
                    have hn2 : l2.length = nn := by omega
                    have HN1 := Lib.hid hnn
                    have HN2 := Lib.hid hn2
                    rw [hnn] at hcap1 hl HB HB2 HU HV ⊢
                    rw [hn2] at hcap2 HB HB2 HU HV ⊢
                    clear hnn hn2 hlen hl2
                    go_enter Tryd.func17, Tryd.ntmps17
                    go_upto_region 1 with fail
                    change Code.wp _ _ _ _ ((w.alloc (.cells #[.int .i64 op, .string p, .string q, .int .i64 k, .int .i64 m, .int .u32 (t : Nat), .string D, .int .i64 n, .slice a1 nn cap1] 44)).alloc (.cells #[.int .i64 op, .string p, .string q, .int .i64 k, .int .i64 m, .int .u32 (t : Nat), .string D, .int .i64 n, .slice a2 nn cap2] 44))
                    generalize (w.alloc (.cells #[.int .i64 op, .string p, .string q, .int .i64 k, .int .i64 m, .int .u32 (t : Nat), .string D, .int .i64 n, .slice a1 nn cap1] 44)).alloc (.cells #[.int .i64 op, .string p, .string q, .int .i64 k, .int .i64 m, .int .u32 (t : Nat), .string D, .int .i64 n, .slice a2 nn cap2] 44) = w0 at *
                    obtain ⟨q0, hq0⟩ : ∃ q0, w.heap.size = q0 := ⟨_, rfl⟩
                    obtain ⟨q1, hq1⟩ : ∃ q1, q0 + 1 = q1 := ⟨_, rfl⟩
                    rw [hq0] at HB HB2 ⊢
                    rw [hq1] at HB2 ⊢
                    clear hq0 hq1
                    have c0 := HB.out.cell 0 rfl
                    have c1 := HB.out.cell 1 rfl
                    have c2 := HB.out.cell 2 rfl
                    have c3 := HB.out.cell 3 rfl
                    have c4 := HB.out.cell 4 rfl
                    have c5 := HB.out.cell 5 rfl
                    have c6 := HB.out.cell 6 rfl
                    have c7 := HB.out.cell 7 rfl
                    have c8 := HB.out.cell 8 rfl
                    have d0 := HB2.out.cell 0 rfl
                    have d1 := HB2.out.cell 1 rfl
                    have d2 := HB2.out.cell 2 rfl
                    have d3 := HB2.out.cell 3 rfl
                    have d4 := HB2.out.cell 4 rfl
                    have d5 := HB2.out.cell 5 rfl
                    have d6 := HB2.out.cell 6 rfl
                    have d7 := HB2.out.cell 7 rfl
                    have d8 := HB2.out.cell 8 rfl
                    go_wp2
                    go_loopg [51] nn (fun gg s51 wr => ∃ i, i ≤ nn ∧ gg = nn - i ∧ s51 = .int .i64 (i : Nat) ∧ Hid (l.take i = l2.take i) ∧ Hid (Upd [] w wr) ∧ Hid (Upd [] w0 wr))
                    case atStart => exact ⟨0, Nat.zero_le _, rfl, rfl, Lib.hid rfl, HU, Lib.hid (Upd.refl _ _)⟩
                    case round =>
                      obtain ⟨i, hin, rfl, rfl, HT, HUr, HUz⟩ := hrel
                      clear c0 c1 c2 c3 c4 c5 c6 c7 c8 d0 d1 d2 d3 d4 d5 d6 d7 d8
                      by_cases hc : i < nn
                      · have hcz : (i : Int) < (nn : Int) := by omega
                        have hi1 : i < l.length := by rw [HN1.out]; exact hc
                        have hi2 : i < l2.length := by rw [HN2.out]; exact hc
                        obtain ⟨b1, o1, rfl, x1⟩ := HC1.out i hi1
                        obtain ⟨b2, o2, rfl, x2⟩ := HC2.out i hi2
                        have c1 := HUr.out.keepS x1
                        have c2 := HUr.out.keepS x2
                        have c1d : wr.drew.cell? ⟨b1, o1 + i, none⟩ = _ := c1
                        have c2d : wr.drew.cell? ⟨b2, o2 + i, none⟩ = _ := c2
                        have k8 := (HB.out.upd HUz.out (by simp)).cell 8 rfl
                        have m8 := (HB2.out.upd HUz.out (by simp)).cell 8 rfl
                        have k8d : wr.drew.cell? ⟨q0, 0 + 8, none⟩ = _ := k8
                        have m8d : wr.drew.cell? ⟨q1, 0 + 8, none⟩ = _ := m8
                        have hw1 : IntKind.i64.wrap ((i : Int) + 1) = ((i + 1 : Nat) : Int) := by rw [IntWalk.i64_in _ (by omega)]; rfl
                        by_cases hq : l[i] = l2[i]
                        · have HT2 : Hid (l.take (i + 1) = l2.take (i + 1)) := Lib.hid (by rw [List.take_succ_eq_append_getElem hi1, List.take_succ_eq_append_getElem hi2, HT.out, hq])
                          rw [hq] at c1 c1d x1
                          generalize l2[i] = x at *
                          clear hq
                          go_upto_region 6 with fail
                          go_quiet (fail)
                          go_wp2
                          go_roundg (nn - (i + 1))
                          · exact ⟨i + 1, by omega, rfl, by first | rfl | go_num, HT2, Lib.hid (by first | exact HUr.out | exact HUr.out.drew | exact HUr.out.drewN _), Lib.hid (by first | exact HUz.out | exact HUz.out.drew | exact HUz.out.drewN _)⟩
                          · omega
                        · have HDF : Hid (decide (l = l2) = false) := Lib.hid (decide_eq_false (fun h => hq (by subst h; rfl)))
                          generalize l[i] = x at *
                          generalize l2[i] = y at *
                          have hq2 : (x == y) = false := by simpa using hq
                          have hq3 : (x != y) = true := by simpa using hq
                          go_upto_region 6 with fail
                          go_quiet (fail)
                          go_wp2
                          go_ret
                          exact ⟨by rw [HV.out, HDF.out]; rfl, by first | exact HUr.out | exact HUr.out.drew | exact HUr.out.drewN _⟩
                      · have hcz : ¬ (i : Int) < (nn : Int) := by omega
                        obtain rfl : i = nn := by omega
                        have HDT : Hid (decide (l = l2) = true) := Lib.hid (decide_eq_true (by
                          have := HT.out
                          rwa [List.take_of_length_le (by rw [HN1.out]; exact Nat.le_refl _), List.take_of_length_le (by rw [HN2.out]; exact Nat.le_refl _)] at this))
                        go_wp2
                        go_ret
                        exact ⟨by rw [HV.out, HDT.out]; rfl, HUr.out⟩
                  · have HDF : Hid (decide (l = l2) = false) := Lib.hid (decide_eq_false (fun h => hlen (by rw [h])))
                    have hlb : ((l.length : Int) == (l2.length : Int)) = false := by simp; omega
                    have hlb2 : ((l.length : Int) != (l2.length : Int)) = true := by simp; omega
                    have hlz : ¬ (l.length : Int) = (l2.length : Int) := by omega
                    go_enter Tryd.func17, Tryd.ntmps17
                    go_upto_region 1 with fail
                    change Code.wp _ _ _ _ ((w.alloc (.cells #[.int .i64 op, .string p, .string q, .int .i64 k, .int .i64 m, .int .u32 (t : Nat), .string D, .int .i64 n, .slice a1 l.length cap1] 44)).alloc (.cells #[.int .i64 op, .string p, .string q, .int .i64 k, .int .i64 m, .int .u32 (t : Nat), .string D, .int .i64 n, .slice a2 l2.length cap2] 44))
                    generalize (w.alloc (.cells #[.int .i64 op, .string p, .string q, .int .i64 k, .int .i64 m, .int .u32 (t : Nat), .string D, .int .i64 n, .slice a1 l.length cap1] 44)).alloc (.cells #[.int .i64 op, .string p, .string q, .int .i64 k, .int .i64 m, .int .u32 (t : Nat), .string D, .int .i64 n, .slice a2 l2.length cap2] 44) = w0 at *
                    obtain ⟨q0, hq0⟩ : ∃ q0, w.heap.size = q0 := ⟨_, rfl⟩
                    obtain ⟨q1, hq1⟩ : ∃ q1, q0 + 1 = q1 := ⟨_, rfl⟩
                    rw [hq0] at HB HB2 ⊢
                    rw [hq1] at HB2 ⊢
                    clear hq0 hq1
                    have c0 := HB.out.cell 0 rfl
                    have c1 := HB.out.cell 1 rfl
                    have c2 := HB.out.cell 2 rfl
                    have c3 := HB.out.cell 3 rfl
                    have c4 := HB.out.cell 4 rfl
                    have c5 := HB.out.cell 5 rfl
                    have c6 := HB.out.cell 6 rfl
                    have c7 := HB.out.cell 7 rfl
                    have c8 := HB.out.cell 8 rfl
                    have d0 := HB2.out.cell 0 rfl
                    have d1 := HB2.out.cell 1 rfl
                    have d2 := HB2.out.cell 2 rfl
                    have d3 := HB2.out.cell 3 rfl
                    have d4 := HB2.out.cell 4 rfl
                    have d5 := HB2.out.cell 5 rfl
                    have d6 := HB2.out.cell 6 rfl
                    have d7 := HB2.out.cell 7 rfl
                    have d8 := HB2.out.cell 8 rfl
                    go_wp2
                    go_ret
                    exact ⟨by rw [HV.out, HDF.out]; rfl, HU.out⟩
                · have HV := Lib.hid (HD.out false (by rw [eq_comm]; apply decide_eq_false; intro h; exact hn (by simp_all)))
                  have hne : (n == n2) = false := by simpa using hn
                  have hneb : (n != n2) = true := by simpa using hn
                  clear hn
                  go_enter Tryd.func17, Tryd.ntmps17
                  go_upto_region 1 with fail
                  change Code.wp _ _ _ _ ((w.alloc (.cells #[.int .i64 op, .string p, .string q, .int .i64 k, .int .i64 m, .int .u32 (t : Nat), .string D, .int .i64 n, .slice a1 l.length cap1] 44)).alloc (.cells #[.int .i64 op, .string p, .string q, .int .i64 k, .int .i64 m, .int .u32 (t : Nat), .string D, .int .i64 n2, .slice a2 l2.length cap2] 44))
                  generalize (w.alloc (.cells #[.int .i64 op, .string p, .string q, .int .i64 k, .int .i64 m, .int .u32 (t : Nat), .string D, .int .i64 n, .slice a1 l.length cap1] 44)).alloc (.cells #[.int .i64 op, .string p, .string q, .int .i64 k, .int .i64 m, .int .u32 (t : Nat), .string D, .int .i64 n2, .slice a2 l2.length cap2] 44) = w0 at *
                  obtain ⟨q0, hq0⟩ : ∃ q0, w.heap.size = q0 := ⟨_, rfl⟩
                  obtain ⟨q1, hq1⟩ : ∃ q1, q0 + 1 = q1 := ⟨_, rfl⟩
                  rw [hq0] at HB HB2 ⊢
                  rw [hq1] at HB2 ⊢
                  clear hq0 hq1
                  have c0 := HB.out.cell 0 rfl
                  have c1 := HB.out.cell 1 rfl
                  have c2 := HB.out.cell 2 rfl
                  have c3 := HB.out.cell 3 rfl
                  have c4 := HB.out.cell 4 rfl
                  have c5 := HB.out.cell 5 rfl
                  have c6 := HB.out.cell 6 rfl
                  have c7 := HB.out.cell 7 rfl
                  have c8 := HB.out.cell 8 rfl
                  have d0 := HB2.out.cell 0 rfl
                  have d1 := HB2.out.cell 1 rfl
                  have d2 := HB2.out.cell 2 rfl
                  have d3 := HB2.out.cell 3 rfl
                  have d4 := HB2.out.cell 4 rfl
                  have d5 := HB2.out.cell 5 rfl
                  have d6 := HB2.out.cell 6 rfl
                  have d7 := HB2.out.cell 7 rfl
                  have d8 := HB2.out.cell 8 rfl
                  go_wp2
                  go_ret
                  exact ⟨by rw [HV.out]; rfl, HU.out⟩
              · have HV := Lib.hid (HD.out false (by rw [eq_comm]; apply decide_eq_false; intro h; exact hD (by simp_all)))
                have hne := toList_ne hD
                have hneb : (D.toList != D2.toList) = true := by rw [bne, hne]; rfl
                clear hD
                go_enter Tryd.func17, Tryd.ntmps17
                go_upto_region 1 with fail
                change Code.wp _ _ _ _ ((w.alloc (.cells #[.int .i64 op, .string p, .string q, .int .i64 k, .int .i64 m, .int .u32 (t : Nat), .string D, .int .i64 n, .slice a1 l.length cap1] 44)).alloc (.cells #[.int .i64 op, .string p, .string q, .int .i64 k, .int .i64 m, .int .u32 (t : Nat), .string D2, .int .i64 n2, .slice a2 l2.length cap2] 44))
                generalize (w.alloc (.cells #[.int .i64 op, .string p, .string q, .int .i64 k, .int .i64 m, .int .u32 (t : Nat), .string D, .int .i64 n, .slice a1 l.length cap1] 44)).alloc (.cells #[.int .i64 op, .string p, .string q, .int .i64 k, .int .i64 m, .int .u32 (t : Nat), .string D2, .int .i64 n2, .slice a2 l2.length cap2] 44) = w0 at *
                obtain ⟨q0, hq0⟩ : ∃ q0, w.heap.size = q0 := ⟨_, rfl⟩
                obtain ⟨q1, hq1⟩ : ∃ q1, q0 + 1 = q1 := ⟨_, rfl⟩
                rw [hq0] at HB HB2 ⊢
                rw [hq1] at HB2 ⊢
                clear hq0 hq1
                have c0 := HB.out.cell 0 rfl
                have c1 := HB.out.cell 1 rfl
                have c2 := HB.out.cell 2 rfl
                have c3 := HB.out.cell 3 rfl
                have c4 := HB.out.cell 4 rfl
                have c5 := HB.out.cell 5 rfl
                have c6 := HB.out.cell 6 rfl
                have c7 := HB.out.cell 7 rfl
                have c8 := HB.out.cell 8 rfl
                have d0 := HB2.out.cell 0 rfl
                have d1 := HB2.out.cell 1 rfl
                have d2 := HB2.out.cell 2 rfl
                have d3 := HB2.out.cell 3 rfl
                have d4 := HB2.out.cell 4 rfl
                have d5 := HB2.out.cell 5 rfl
                have d6 := HB2.out.cell 6 rfl
                have d7 := HB2.out.cell 7 rfl
                have d8 := HB2.out.cell 8 rfl
                go_wp2
                go_ret
                exact ⟨by rw [HV.out]; rfl, HU.out⟩
            · have HV := Lib.hid (HD.out false (by rw [eq_comm]; apply decide_eq_false; intro h; exact ht (by simp_all)))
              have hne : (t == t2) = false := by simpa using ht
              have hne2 : ((t : Int) == (t2 : Int)) = false := by simp; omega
              clear ht
              go_enter Tryd.func17, Tryd.ntmps17
              go_upto_region 1 with fail
              change Code.wp _ _ _ _ ((w.alloc (.cells #[.int .i64 op, .string p, .string q, .int .i64 k, .int .i64 m, .int .u32 (t : Nat), .string D, .int .i64 n, .slice a1 l.length cap1] 44)).alloc (.cells #[.int .i64 op, .string p, .string q, .int .i64 k, .int .i64 m, .int .u32 (t2 : Nat), .string D2, .int .i64 n2, .slice a2 l2.length cap2] 44))
              generalize (w.alloc (.cells #[.int .i64 op, .string p, .string q, .int .i64 k, .int .i64 m, .int .u32 (t : Nat), .string D, .int .i64 n, .slice a1 l.length cap1] 44)).alloc (.cells #[.int .i64 op, .string p, .string q, .int .i64 k, .int .i64 m, .int .u32 (t2 : Nat), .string D2, .int .i64 n2, .slice a2 l2.length cap2] 44) = w0 at *
              obtain ⟨q0, hq0⟩ : ∃ q0, w.heap.size = q0 := ⟨_, rfl⟩
              obtain ⟨q1, hq1⟩ : ∃ q1, q0 + 1 = q1 := ⟨_, rfl⟩
              rw [hq0] at HB HB2 ⊢
              rw [hq1] at HB2 ⊢
              clear hq0 hq1
              have c0 := HB.out.cell 0 rfl
              have c1 := HB.out.cell 1 rfl
              have c2 := HB.out.cell 2 rfl
              have c3 := HB.out.cell 3 rfl
              have c4 := HB.out.cell 4 rfl
              have c5 := HB.out.cell 5 rfl
              have c6 := HB.out.cell 6 rfl
              have c7 := HB.out.cell 7 rfl
              have c8 := HB.out.cell 8 rfl
              have d0 := HB2.out.cell 0 rfl
              have d1 := HB2.out.cell 1 rfl
              have d2 := HB2.out.cell 2 rfl
              have d3 := HB2.out.cell 3 rfl
              have d4 := HB2.out.cell 4 rfl
              have d5 := HB2.out.cell 5 rfl
              have d6 := HB2.out.cell 6 rfl
              have d7 := HB2.out.cell 7 rfl
              have d8 := HB2.out.cell 8 rfl
              go_wp2
              go_ret
              exact ⟨by rw [HV.out]; rfl, HU.out⟩
          · have HV := Lib.hid (HD.out false (by rw [eq_comm]; apply decide_eq_false; intro h; exact hm (by simp_all)))
            have hne : (m == m2) = false := by simpa using hm
            have hneb : (m != m2) = true := by simpa using hm
            clear hm
            go_enter Tryd.func17, Tryd.ntmps17
            go_upto_region 1 with fail
            change Code.wp _ _ _ _ ((w.alloc (.cells #[.int .i64 op, .string p, .string q, .int .i64 k, .int .i64 m, .int .u32 (t : Nat), .string D, .int .i64 n, .slice a1 l.length cap1] 44)).alloc (.cells #[.int .i64 op, .string p, .string q, .int .i64 k, .int .i64 m2, .int .u32 (t2 : Nat), .string D2, .int .i64 n2, .slice a2 l2.length cap2] 44))
            generalize (w.alloc (.cells #[.int .i64 op, .string p, .string q, .int .i64 k, .int .i64 m, .int .u32 (t : Nat), .string D, .int .i64 n, .slice a1 l.length cap1] 44)).alloc (.cells #[.int .i64 op, .string p, .string q, .int .i64 k, .int .i64 m2, .int .u32 (t2 : Nat), .string D2, .int .i64 n2, .slice a2 l2.length cap2] 44) = w0 at *
            obtain ⟨q0, hq0⟩ : ∃ q0, w.heap.size = q0 := ⟨_, rfl⟩
            obtain ⟨q1, hq1⟩ : ∃ q1, q0 + 1 = q1 := ⟨_, rfl⟩
            rw [hq0] at HB HB2 ⊢
            rw [hq1] at HB2 ⊢
            clear hq0 hq1
            have c0 := HB.out.cell 0 rfl
            have c1 := HB.out.cell 1 rfl
            have c2 := HB.out.cell 2 rfl
            have c3 := HB.out.cell 3 rfl
            have c4 := HB.out.cell 4 rfl
            have c5 := HB.out.cell 5 rfl
            have c6 := HB.out.cell 6 rfl
            have c7 := HB.out.cell 7 rfl
            have c8 := HB.out.cell 8 rfl
            have d0 := HB2.out.cell 0 rfl
            have d1 := HB2.out.cell 1 rfl
            have d2 := HB2.out.cell 2 rfl
            have d3 := HB2.out.cell 3 rfl
            have d4 := HB2.out.cell 4 rfl
            have d5 := HB2.out.cell 5 rfl
            have d6 := HB2.out.cell 6 rfl
            have d7 := HB2.out.cell 7 rfl
            have d8 := HB2.out.cell 8 rfl
            go_wp2
            go_ret
            exact ⟨by rw [HV.out]; rfl, HU.out⟩
        · have HV := Lib.hid (HD.out false (by rw [eq_comm]; apply decide_eq_false; intro h; exact hk (by simp_all)))
          have hne : (k == k2) = false := by simpa using hk
          have hneb : (k != k2) = true := by simpa using hk
          clear hk
          go_enter Tryd.func17, Tryd.ntmps17
          go_upto_region 1 with fail
          change Code.wp _ _ _ _ ((w.alloc (.cells #[.int .i64 op, .string p, .string q, .int .i64 k, .int .i64 m, .int .u32 (t : Nat), .string D, .int .i64 n, .slice a1 l.length cap1] 44)).alloc (.cells #[.int .i64 op, .string p, .string q, .int .i64 k2, .int .i64 m2, .int .u32 (t2 : Nat), .string D2, .int .i64 n2, .slice a2 l2.length cap2] 44))
          generalize (w.alloc (.cells #[.int .i64 op, .string p, .string q, .int .i64 k, .int .i64 m, .int .u32 (t : Nat), .string D, .int .i64 n, .slice a1 l.length cap1] 44)).alloc (.cells #[.int .i64 op, .string p, .string q, .int .i64 k2, .int .i64 m2, .int .u32 (t2 : Nat), .string D2, .int .i64 n2, .slice a2 l2.length cap2] 44) = w0 at *
          obtain ⟨q0, hq0⟩ : ∃ q0, w.heap.size = q0 := ⟨_, rfl⟩
          obtain ⟨q1, hq1⟩ : ∃ q1, q0 + 1 = q1 := ⟨_, rfl⟩
          rw [hq0] at HB HB2 ⊢
          rw [hq1] at HB2 ⊢
          clear hq0 hq1
          have c0 := HB.out.cell 0 rfl
          have c1 := HB.out.cell 1 rfl
          have c2 := HB.out.cell 2 rfl
          have c3 := HB.out.cell 3 rfl
          have c4 := HB.out.cell 4 rfl
          have c5 := HB.out.cell 5 rfl
          have c6 := HB.out.cell 6 rfl
          have c7 := HB.out.cell 7 rfl
          have c8 := HB.out.cell 8 rfl
          have d0 := HB2.out.cell 0 rfl
          have d1 := HB2.out.cell 1 rfl
          have d2 := HB2.out.cell 2 rfl
          have d3 := HB2.out.cell 3 rfl
          have d4 := HB2.out.cell 4 rfl
          have d5 := HB2.out.cell 5 rfl
          have d6 := HB2.out.cell 6 rfl
          have d7 := HB2.out.cell 7 rfl
          have d8 := HB2.out.cell 8 rfl
          go_wp2
          go_ret
          exact ⟨by rw [HV.out]; rfl, HU.out⟩
      · have HV := Lib.hid (HD.out false (by rw [eq_comm]; apply decide_eq_false; intro h; exact hq (by simp_all)))
        have hne := toList_ne hq
        have hneb : (q.toList != q2.toList) = true := by rw [bne, hne]; rfl
        clear hq
        go_enter Tryd.func17, Tryd.ntmps17
        go_upto_region 1 with fail
        change Code.wp _ _ _ _ ((w.alloc (.cells #[.int .i64 op, .string p, .string q, .int .i64 k, .int .i64 m, .int .u32 (t : Nat), .string D, .int .i64 n, .slice a1 l.length cap1] 44)).alloc (.cells #[.int .i64 op, .string p, .string q2, .int .i64 k2, .int .i64 m2, .int .u32 (t2 : Nat), .string D2, .int .i64 n2, .slice a2 l2.length cap2] 44))
        generalize (w.alloc (.cells #[.int .i64 op, .string p, .string q, .int .i64 k, .int .i64 m, .int .u32 (t : Nat), .string D, .int .i64 n, .slice a1 l.length cap1] 44)).alloc (.cells #[.int .i64 op, .string p, .string q2, .int .i64 k2, .int .i64 m2, .int .u32 (t2 : Nat), .string D2, .int .i64 n2, .slice a2 l2.length cap2] 44) = w0 at *
        obtain ⟨q0, hq0⟩ : ∃ q0, w.heap.size = q0 := ⟨_, rfl⟩
        obtain ⟨q1, hq1⟩ : ∃ q1, q0 + 1 = q1 := ⟨_, rfl⟩
        rw [hq0] at HB HB2 ⊢
        rw [hq1] at HB2 ⊢
        clear hq0 hq1
        have c0 := HB.out.cell 0 rfl
        have c1 := HB.out.cell 1 rfl
        have c2 := HB.out.cell 2 rfl
        have c3 := HB.out.cell 3 rfl
        have c4 := HB.out.cell 4 rfl
        have c5 := HB.out.cell 5 rfl
        have c6 := HB.out.cell 6 rfl
        have c7 := HB.out.cell 7 rfl
        have c8 := HB.out.cell 8 rfl
        have d0 := HB2.out.cell 0 rfl
        have d1 := HB2.out.cell 1 rfl
        have d2 := HB2.out.cell 2 rfl
        have d3 := HB2.out.cell 3 rfl
        have d4 := HB2.out.cell 4 rfl
        have d5 := HB2.out.cell 5 rfl
        have d6 := HB2.out.cell 6 rfl
        have d7 := HB2.out.cell 7 rfl
        have d8 := HB2.out.cell 8 rfl
        go_wp2
        go_ret
        exact ⟨by rw [HV.out]; rfl, HU.out⟩
    · have HV := Lib.hid (HD.out false (by rw [eq_comm]; apply decide_eq_false; intro h; exact hp (by simp_all)))
      have hne := toList_ne hp
      have hneb : (p.toList != p2.toList) = true := by rw [bne, hne]; rfl
      clear hp
      go_enter Tryd.func17, Tryd.ntmps17
      go_upto_region 1 with fail
      change Code.wp _ _ _ _ ((w.alloc (.cells #[.int .i64 op, .string p, .string q, .int .i64 k, .int .i64 m, .int .u32 (t : Nat), .string D, .int .i64 n, .slice a1 l.length cap1] 44)).alloc (.cells #[.int .i64 op, .string p2, .string q2, .int .i64 k2, .int .i64 m2, .int .u32 (t2 : Nat), .string D2, .int .i64 n2, .slice a2 l2.length cap2] 44))
      generalize (w.alloc (.cells #[.int .i64 op, .string p, .string q, .int .i64 k, .int .i64 m, .int .u32 (t : Nat), .string D, .int .i64 n, .slice a1 l.length cap1] 44)).alloc (.cells #[.int .i64 op, .string p2, .string q2, .int .i64 k2, .int .i64 m2, .int .u32 (t2 : Nat), .string D2, .int .i64 n2, .slice a2 l2.length cap2] 44) = w0 at *
      obtain ⟨q0, hq0⟩ : ∃ q0, w.heap.size = q0 := ⟨_, rfl⟩
      obtain ⟨q1, hq1⟩ : ∃ q1, q0 + 1 = q1 := ⟨_, rfl⟩
      rw [hq0] at HB HB2 ⊢
      rw [hq1] at HB2 ⊢
      clear hq0 hq1
      have c0 := HB.out.cell 0 rfl
      have c1 := HB.out.cell 1 rfl
      have c2 := HB.out.cell 2 rfl
      have c3 := HB.out.cell 3 rfl
      have c4 := HB.out.cell 4 rfl
      have c5 := HB.out.cell 5 rfl
      have c6 := HB.out.cell 6 rfl
      have c7 := HB.out.cell 7 rfl
      have c8 := HB.out.cell 8 rfl
      have d0 := HB2.out.cell 0 rfl
      have d1 := HB2.out.cell 1 rfl
      have d2 := HB2.out.cell 2 rfl
      have d3 := HB2.out.cell 3 rfl
      have d4 := HB2.out.cell 4 rfl
      have d5 := HB2.out.cell 5 rfl
      have d6 := HB2.out.cell 6 rfl
      have d7 := HB2.out.cell 7 rfl
      have d8 := HB2.out.cell 8 rfl
      go_wp2
      go_ret
      exact ⟨by rw [HV.out]; rfl, HU.out⟩
  · have HV := Lib.hid (HD.out false (by rw [eq_comm]; apply decide_eq_false; intro h; exact hop (by simp_all)))
    have hne : (op == op2) = false := by simpa using hop
    have hneb : (op != op2) = true := by simpa using hop
    clear hop
    go_enter Tryd.func17, Tryd.ntmps17
    go_upto_region 1 with fail
    change Code.wp _ _ _ _ ((w.alloc (.cells #[.int .i64 op, .string p, .string q, .int .i64 k, .int .i64 m, .int .u32 (t : Nat), .string D, .int .i64 n, .slice a1 l.length cap1] 44)).alloc (.cells #[.int .i64 op2, .string p2, .string q2, .int .i64 k2, .int .i64 m2, .int .u32 (t2 : Nat), .string D2, .int .i64 n2, .slice a2 l2.length cap2] 44))
    generalize (w.alloc (.cells #[.int .i64 op, .string p, .string q, .int .i64 k, .int .i64 m, .int .u32 (t : Nat), .string D, .int .i64 n, .slice a1 l.length cap1] 44)).alloc (.cells #[.int .i64 op2, .string p2, .string q2, .int .i64 k2, .int .i64 m2, .int .u32 (t2 : Nat), .string D2, .int .i64 n2, .slice a2 l2.length cap2] 44) = w0 at *
    obtain ⟨q0, hq0⟩ : ∃ q0, w.heap.size = q0 := ⟨_, rfl⟩
    obtain ⟨q1, hq1⟩ : ∃ q1, q0 + 1 = q1 := ⟨_, rfl⟩
    rw [hq0] at HB HB2 ⊢
    rw [hq1] at HB2 ⊢
    clear hq0 hq1
    have c0 := HB.out.cell 0 rfl
    have c1 := HB.out.cell 1 rfl
    have c2 := HB.out.cell 2 rfl
    have c3 := HB.out.cell 3 rfl
    have c4 := HB.out.cell 4 rfl
    have c5 := HB.out.cell 5 rfl
    have c6 := HB.out.cell 6 rfl
    have c7 := HB.out.cell 7 rfl
    have c8 := HB.out.cell 8 rfl
    have d0 := HB2.out.cell 0 rfl
    have d1 := HB2.out.cell 1 rfl
    have d2 := HB2.out.cell 2 rfl
    have d3 := HB2.out.cell 3 rfl
    have d4 := HB2.out.cell 4 rfl
    have d5 := HB2.out.cell 5 rfl
    have d6 := HB2.out.cell 6 rfl
    have d7 := HB2.out.cell 7 rfl
    have d8 := HB2.out.cell 8 rfl
    go_wp2
    go_ret
    exact ⟨by rw [HV.out]; rfl, HU.out⟩
end Go.Proofs.YtigjingielnaoaaDoor

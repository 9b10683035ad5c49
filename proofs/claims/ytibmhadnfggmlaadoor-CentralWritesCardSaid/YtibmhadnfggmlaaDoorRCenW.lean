/- Package swingleref20: attr, Write: walks. -/
import Derived.Test.YtibmhadnfggmlaaDoorCenA
import Derived.Test.YtibmhadnfggmlaaDoorRLocW
namespace Go.Proofs.YtibmhadnfggmlaaDoor
open Go.RowKit
set_option linter.unusedVariables false

theorem rattr_any (p : ByteArray) (m : Int) (sum : Nat) (l wh k : Int) (mdn t : Nat) (pos : Int) (hmd : mdn ≤ 511) (w : World) :
    Calls Tryd.prog 98 #[.agg #[.string p, .int .i64 m, .int .u32 (sum : Nat), .int .i64 l, .int .i64 wh, .int .i64 k, .int .i64 (mdn : Nat), .int .u32 (t : Nat), .int .i64 pos]] w fun e w' => e = .returned (.int .i64 (attrP k mdn : Nat)) ∧ Upd [] w w' := by
  by_cases hk : k = 2
  · subst hk
    have HA : Hid (attrP 2 mdn = (mdn + 16384) * 65536 + 16) := Lib.hid rfl
    go_enter Tryd.func98, Tryd.ntmps98
    go_wp2
    go_ret
    refine ⟨?_, (Upd.refl [] w).alloc _⟩
    rw [HA.out]
    exact congrArg (fun z => Ending.returned (.int .i64 z)) (show ((mdn : Int) + 16384) * 65536 + 16 = (((mdn + 16384) * 65536 + 16 : Nat) : Int) by omega)
  · have t2 : (k == 2) = false := by simpa using hk
    have HA : Hid (attrP k mdn = (mdn + 32768) * 65536) := Lib.hid (if_neg hk)
    go_enter Tryd.func98, Tryd.ntmps98
    go_wp2
    go_ret
    refine ⟨?_, (Upd.refl [] w).alloc _⟩
    rw [HA.out]
    exact congrArg (fun z => Ending.returned (.int .i64 z)) (show ((mdn : Int) + 32768) * 65536 = (((mdn + 32768) * 65536 : Nat) : Int) by omega)
set_option maxRecDepth 100000 in
set_option maxHeartbeats 12800000 in
theorem rcenWrite_any (r : RecD) (w : World) (h : r.Fits) : Calls Tryd.prog 47 #[r.v] w fun e w' => e = .returned (.string (strOf (cwriteP r))) ∧ Upd [] w w' := by
  have hp := h.p
  have hs := h.sum
  have ht := h.t
  have HR := Lib.hid (fun w => rright19_any r w h)
  have HN := Lib.hid (fun w => rname19_any r w h)
  have hnl := nameP_len r.k r.p
  have HW : Hid (cwriteP r = if recErr r = 0 then cheadP r else []) := Lib.hid rfl
  have HH : Hid (cheadP r = [80, 75, 1, 2, 20, 3, 20, 0, 0, 8] ++ (leP r.m.toNat 2 ++ (leP r.t 4 ++ (leP r.sum 4 ++ (leP r.l.toNat 4 ++ (leP r.wh.toNat 4 ++ (leP (nameP r.k r.p).length 2 ++ ([0, 0, 0, 0, 0, 0, 0, 0] ++ (leP (attrP r.k r.md.toNat) 4 ++ (leP r.pos.toNat 4 ++ nameP r.k r.p)))))))))) := Lib.hid rfl
  have HPT := Lib.hid (fun h0 => laidB_parts (recErr_parts (r := r) h0).2.1)
  have HMD := Lib.hid (fun h0 => (recErr_parts (r := r) h0).2.2.1)
  generalize cheadP r = hd at *
  generalize cwriteP r = wr at *
  by_cases hE : recErr r = 0
  rotate_left
  · rw [if_neg hE] at HW
    generalize recErr r = E at *
    obtain ⟨p, m, sum, l, wh, k, md, t, pos⟩ := r
    unfold RecD.v at *
    dsimp only at *
    have t1 : ((E : Int) != 0) = true := by simpa using hE
    go_enter Tryd.func47, Tryd.ntmps47
    go_wp2_with fail
    refine (HR.out _).mono ?_
    rintro e w1 ⟨rfl, hU1⟩
    have HU := Lib.hid (((Upd.refl [] w).alloc (.cells #[.string p, .int .i64 m, .int .u32 (sum : Nat), .int .i64 l, .int .i64 wh, .int .i64 k, .int .i64 md, .int .u32 (t : Nat), .int .i64 pos] 51)).then hU1)
    go_wp2_with fail
    go_ret
    exact ⟨by rw [HW.out]; rfl, HU.out⟩
  · rw [if_pos hE] at HW
    rw [hE] at HR
    obtain ⟨pm, pl, pw, pa⟩ := HPT.out hE
    have pmd := HMD.out hE
    clear hE HPT HMD
    have hsz : (strOf (nameP r.k r.p)).size = (nameP r.k r.p).length := size_strOf _
    generalize hS : strOf (nameP r.k r.p) = S at *
    generalize hnm : nameP r.k r.p = nm at *
    obtain ⟨p, m, sum, l, wh, k, md, t, pos⟩ := r
    unfold RecD.v at *
    dsimp only at *
    obtain ⟨mn, rfl⟩ : ∃ mn : Nat, m = mn := ⟨m.toNat, by omega⟩
    obtain ⟨ln, rfl⟩ : ∃ ln : Nat, l = ln := ⟨l.toNat, by omega⟩
    obtain ⟨wn, rfl⟩ : ∃ wn : Nat, wh = wn := ⟨wh.toNat, by omega⟩
    obtain ⟨mdn, rfl⟩ : ∃ mdn : Nat, md = mdn := ⟨md.toNat, by omega⟩
    obtain ⟨pn, rfl⟩ : ∃ pn : Nat, pos = pn := ⟨pos.toNat, by omega⟩
    simp only [Int.toNat_natCast] at HH
    have hmn : mn ≤ 8 := by omega
    have hln : ln < 2147483648 := by omega
    have hwn : wn < 2147483648 := by omega
    have hpn : pn < 2147483648 := by omega
    have hmdn : mdn ≤ 511 := by omega
    have hzn : nm.length ≤ 1001 := by omega
    have HAT := Lib.hid (fun w => rattr_any p (mn : Nat) sum (ln : Nat) (wn : Nat) k mdn t (pn : Nat) hmdn w)
    have hat : attrP k mdn < 4000000000 := by unfold attrP; split <;> omega
    generalize attrP k mdn = AT at *
    obtain ⟨ns, hns⟩ : ∃ ns, ns = [mn, t % 65536, t / 65536] := ⟨_, rfl⟩
    obtain ⟨ms, hms⟩ : ∃ ms, ms = [sum, ln, wn] := ⟨_, rfl⟩
    have hnl3 : ns.length = 3 := by rw [hns]; rfl
    have hml3 : ms.length = 3 := by rw [hms]; rfl
    have HNB : Hid (∀ x ∈ ns, x < 4294967296) := Lib.hid (by intro x hx; rw [hns] at hx; simp at hx; omega)
    have HMB : Hid (∀ x ∈ ms, x < 4294967296) := Lib.hid (by intro x hx; rw [hms] at hx; simp at hx; omega)
    have HNC : Hid ([.int .i64 (mn : Nat), .int .i64 ((t : Int) % 65536), .int .i64 ((t : Int) / 65536)] = i64s ns) := Lib.hid (by
      rw [hns]; unfold i64s; simp)
    have HMC : Hid ([.int .i64 (sum : Nat), .int .i64 (ln : Nat), .int .i64 (wn : Nat)] = i64s ms) := Lib.hid (by rw [hms]; rfl)
    have HPN := Lib.hid (fun w => putI_any (nm.length : Nat) nm.length 2 w rfl (by omega) (by omega))
    have HPA := Lib.hid (fun w => putI_any (IntKind.u64.wrap (AT : Int)) AT 4 w (IntWalk.u64_in _ (by omega)) (by omega) (by omega))
    have HPP := Lib.hid (fun w => putI_any (IntKind.u64.wrap (pn : Int)) pn 4 w (IntWalk.u64_in _ (by omega)) (by omega) (by omega))
    have HFIN : Hid (strOf ([80, 75, 1, 2, 20, 3, 20, 0, 0, 8] ++ flatN 2 ns ++ flatN 4 ms) ++ (strOf (leP nm.length 2) ++ ({ data := #[0, 0, 0, 0, 0, 0, 0, 0] } : ByteArray)) ++ strOf (leP AT 4) ++ strOf (leP pn 4) ++ S = strOf hd) := Lib.hid (by
      rw [HH.out, ← hS, show ({ data := #[0, 0, 0, 0, 0, 0, 0, 0] } : ByteArray) = strOf [0, 0, 0, 0, 0, 0, 0, 0] from rfl]
      simp only [strOf_append]
      congr 1
      have e1 : leP t 4 = leP (t % 65536) 2 ++ leP (t / 65536) 2 := by
        have h1 := leP_add 2 2 t
        have h2 := leP_mod 2 t
        rw [h1, ← h2]
      rw [e1, hns, hms]
      simp only [flatN_cons, flatN_nil, List.append_assoc, List.append_nil])
    have zN : (strOf (leP nm.length 2)).size = 2 := by rw [size_strOf, leP_len]
    have zA : (strOf (leP AT 4)).size = 4 := by rw [size_strOf, leP_len]
    have zP : (strOf (leP pn 4)).size = 4 := by rw [size_strOf, leP_len]
    have z8 : ByteArray.size ({ data := #[0, 0, 0, 0, 0, 0, 0, 0] } : ByteArray) = 8 := rfl
    clear pm pl pw pa pmd hnm hS HH hns hms
    generalize strOf (leP nm.length 2) = NL at *
    generalize strOf (leP AT 4) = SA at *
    generalize strOf (leP pn 4) = SP at *
    go_enter Tryd.func47, Tryd.ntmps47
    go_wp2_with fail
    refine (HR.out _).mono ?_
    rintro e w1 ⟨rfl, hU1⟩
    have hU := (((Upd.refl [] w).alloc (.cells #[.string p, .int .i64 mn, .int .u32 (sum : Nat), .int .i64 ln, .int .i64 wn, .int .i64 k, .int .i64 mdn, .int .u32 (t : Nat), .int .i64 pn] 51)).then hU1)
    have hB := (Blk.new w [.string p, .int .i64 mn, .int .u32 (sum : Nat), .int .i64 ln, .int .i64 wn, .int .i64 k, .int .i64 mdn, .int .u32 (t : Nat), .int .i64 pn] 51).upd hU1 (by simp)
    generalize w.heap.size = b0 at *
    have HB1 := Lib.hid hB
    have HU1 := Lib.hid hU
    have c0 := hB.cell 0 rfl
    have c1 := hB.cell 1 rfl
    have c2 := hB.cell 2 rfl
    have c3 := hB.cell 3 rfl
    have c4 := hB.cell 4 rfl
    have c5 := hB.cell 5 rfl
    have c6 := hB.cell 6 rfl
    have c7 := hB.cell 7 rfl
    have c8 := hB.cell 8 rfl
    clear hB hU hU1
    go_wp2_with fail
    have hX : Blk (w1.alloc (.cells #[.int .i64 (mn : Nat), .int .i64 ((t : Int) % 65536), .int .i64 ((t : Int) / 65536)] 3)) w1.heap.size [.int .i64 (mn : Nat), .int .i64 ((t : Int) % 65536), .int .i64 ((t : Int) / 65536)] 3 := Blk.new _ _ _
    have hBx := HB1.out.alloc (.cells #[.int .i64 (mn : Nat), .int .i64 ((t : Int) % 65536), .int .i64 ((t : Int) / 65536)] 3)
    have hUx := HU1.out.alloc (.cells #[.int .i64 (mn : Nat), .int .i64 ((t : Int) % 65536), .int .i64 ((t : Int) / 65536)] 3)
    clear c0 c1 c2 c3 c4 c5 c6 c7 c8
    generalize w1.alloc (.cells #[.int .i64 (mn : Nat), .int .i64 ((t : Int) % 65536), .int .i64 ((t : Int) / 65536)] 3) = y1 at *
    generalize w1.heap.size = g1 at *
    rw [HNC.out] at hX
    have HX1 := Lib.hid hX
    have HBx1 := Lib.hid hBx
    have HUx1 := Lib.hid hUx
    clear hX hBx hUx
    go_loopg [3, 5, 23] 3 (fun gg s3 s5 s23 wr => ∃ i, i ≤ 3 ∧ gg = 3 - i ∧ s23 = .int .i64 (i : Nat) ∧ s3 = .string (strOf ([80, 75, 1, 2, 20, 3, 20, 0, 0, 8] ++ flatN 2 (ns.take i))) ∧ Hid (Upd [] y1 wr))
    case atStart => exact ⟨0, by omega, rfl, rfl, by rw [List.take_zero, flatN_nil, List.append_nil] <;> rfl, Lib.hid (Upd.refl _ _)⟩
    case round =>
      obtain ⟨i, hi, rfl, rfl, rfl, HY1⟩ := hrel
      by_cases hc : i < 3
      · have hcz : (i : Int) < 3 := by omega
        have hil : i < ns.length := by omega
        obtain ⟨v, hv⟩ : ∃ v, v = ns[i] := ⟨_, rfl⟩
        have hv1 : v < 4294967296 := by rw [hv]; exact HNB.out _ (List.getElem_mem hil)
        have c1 := (HX1.out.upd HY1.out (by simp)).cell i (v := .int .i64 (v : Nat)) (by unfold i64s; rw [List.getElem?_map, List.getElem?_eq_getElem hil, ← hv]; rfl)
        have HT : Hid (ns.take (i + 1) = ns.take i ++ [v]) := Lib.hid (by rw [hv, List.take_succ_eq_append_getElem hil])
        have HP := Lib.hid (fun w => putI_any (v : Nat) v 2 w rfl (by omega) (by omega))
        have HA := Lib.hid (strOf_append ([80, 75, 1, 2, 20, 3, 20, 0, 0, 8] ++ flatN 2 (ns.take i)) (leP v 2))
        have z1 : (strOf ([80, 75, 1, 2, 20, 3, 20, 0, 0, 8] ++ flatN 2 (ns.take i))).size ≤ 100 := by rw [size_strOf, List.length_append, flatN_len, List.length_take]; simp only [List.length_cons, List.length_nil]; omega
        have z2 : (strOf (leP v 2)).size = 2 := by rw [size_strOf, leP_len]
        have HQ : Hid (strOf ([80, 75, 1, 2, 20, 3, 20, 0, 0, 8] ++ flatN 2 (ns.take i)) ++ strOf (leP v 2) = strOf ([80, 75, 1, 2, 20, 3, 20, 0, 0, 8] ++ flatN 2 (ns.take (i + 1)))) := Lib.hid (by rw [HA.out, HT.out, flatN_snoc, ← List.append_assoc])
        clear hv HT HA
        generalize strOf ([80, 75, 1, 2, 20, 3, 20, 0, 0, 8] ++ flatN 2 (ns.take i)) = SQ at *
        generalize strOf (leP v 2) = SV at *
        go_wp2_with fail
        refine (HP.out _).mono ?_
        rintro e w2 ⟨rfl, hU2⟩
        have HF := Lib.hid (HY1.out.then hU2)
        clear hU2 c1
        go_wp2
        go_roundg (3 - (i + 1))
        · exact ⟨i + 1, by omega, rfl, by first | rfl | go_num, by rw [HQ.out], HF⟩
        · omega
      · have hcz : ¬ (i : Int) < 3 := by omega
        have h9 : i = 3 := by omega
        subst h9
        rw [List.take_of_length_le (by omega : ns.length ≤ 3)]
        have HBL1 := Lib.hid (HBx1.out.upd HY1.out (by simp))
        have HUL1 := Lib.hid (HUx1.out.then HY1.out)
        clear HBx1 HUx1 HX1 HY1
        have hc' := HBL1.out
        have c0 := hc'.cell 0 rfl
        have c1 := hc'.cell 1 rfl
        have c2 := hc'.cell 2 rfl
        have c3 := hc'.cell 3 rfl
        have c4 := hc'.cell 4 rfl
        have c5 := hc'.cell 5 rfl
        have c6 := hc'.cell 6 rfl
        have c7 := hc'.cell 7 rfl
        have c8 := hc'.cell 8 rfl
        clear hc'
        go_wp2
        have hX : Blk (wr.alloc (.cells #[.int .i64 (sum : Nat), .int .i64 (ln : Nat), .int .i64 (wn : Nat)] 3)) wr.heap.size [.int .i64 (sum : Nat), .int .i64 (ln : Nat), .int .i64 (wn : Nat)] 3 := Blk.new _ _ _
        have hBx := HBL1.out.alloc (.cells #[.int .i64 (sum : Nat), .int .i64 (ln : Nat), .int .i64 (wn : Nat)] 3)
        have hUx := HUL1.out.alloc (.cells #[.int .i64 (sum : Nat), .int .i64 (ln : Nat), .int .i64 (wn : Nat)] 3)
        clear c0 c1 c2 c3 c4 c5 c6 c7 c8
        generalize wr.alloc (.cells #[.int .i64 (sum : Nat), .int .i64 (ln : Nat), .int .i64 (wn : Nat)] 3) = y2 at *
        generalize wr.heap.size = g2 at *
        rw [HMC.out] at hX
        have HX2 := Lib.hid hX
        have HBx2 := Lib.hid hBx
        have HUx2 := Lib.hid hUx
        clear hX hBx hUx
        go_loopg [3, 7, 42] 3 (fun gg s3 s5 s23 wr => ∃ i, i ≤ 3 ∧ gg = 3 - i ∧ s23 = .int .i64 (i : Nat) ∧ s3 = .string (strOf ([80, 75, 1, 2, 20, 3, 20, 0, 0, 8] ++ flatN 2 ns ++ flatN 4 (ms.take i))) ∧ Hid (Upd [] y2 wr))
        case atStart => exact ⟨0, by omega, rfl, rfl, by rw [List.take_zero, flatN_nil, List.append_nil] <;> rfl, Lib.hid (Upd.refl _ _)⟩
        case round =>
          obtain ⟨i, hi, rfl, rfl, rfl, HY2⟩ := hrel
          by_cases hc : i < 3
          · have hcz : (i : Int) < 3 := by omega
            have hil : i < ms.length := by omega
            obtain ⟨v, hv⟩ : ∃ v, v = ms[i] := ⟨_, rfl⟩
            have hv1 : v < 4294967296 := by rw [hv]; exact HMB.out _ (List.getElem_mem hil)
            have c1 := (HX2.out.upd HY2.out (by simp)).cell i (v := .int .i64 (v : Nat)) (by unfold i64s; rw [List.getElem?_map, List.getElem?_eq_getElem hil, ← hv]; rfl)
            have HT : Hid (ms.take (i + 1) = ms.take i ++ [v]) := Lib.hid (by rw [hv, List.take_succ_eq_append_getElem hil])
            have HP := Lib.hid (fun w => putI_any (v : Nat) v 4 w rfl (by omega) (by omega))
            have HA := Lib.hid (strOf_append ([80, 75, 1, 2, 20, 3, 20, 0, 0, 8] ++ flatN 2 ns ++ flatN 4 (ms.take i)) (leP v 4))
            have z1 : (strOf ([80, 75, 1, 2, 20, 3, 20, 0, 0, 8] ++ flatN 2 ns ++ flatN 4 (ms.take i))).size ≤ 100 := by rw [size_strOf, List.length_append, flatN_len, List.length_take]; simp only [List.length_append, flatN_len, hnl3, List.length_cons, List.length_nil]; omega
            have z2 : (strOf (leP v 4)).size = 4 := by rw [size_strOf, leP_len]
            have HQ : Hid (strOf ([80, 75, 1, 2, 20, 3, 20, 0, 0, 8] ++ flatN 2 ns ++ flatN 4 (ms.take i)) ++ strOf (leP v 4) = strOf ([80, 75, 1, 2, 20, 3, 20, 0, 0, 8] ++ flatN 2 ns ++ flatN 4 (ms.take (i + 1)))) := Lib.hid (by rw [HA.out, HT.out, flatN_snoc, ← List.append_assoc])
            clear hv HT HA
            generalize strOf ([80, 75, 1, 2, 20, 3, 20, 0, 0, 8] ++ flatN 2 ns ++ flatN 4 (ms.take i)) = SQ at *
            generalize strOf (leP v 4) = SV at *
            go_wp2_with fail
            refine (HP.out _).mono ?_
            rintro e w2 ⟨rfl, hU2⟩
            have HF := Lib.hid (HY2.out.then hU2)
            clear hU2 c1
            go_wp2
            go_roundg (3 - (i + 1))
            · exact ⟨i + 1, by omega, rfl, by first | rfl | go_num, by rw [HQ.out], HF⟩
            · omega
          · have hcz : ¬ (i : Int) < 3 := by omega
            have h9 : i = 3 := by omega
            subst h9
            rw [List.take_of_length_le (by omega : ms.length ≤ 3)]
            have HBL2 := Lib.hid (HBx2.out.upd HY2.out (by simp))
            have HUL2 := Lib.hid (HUx2.out.then HY2.out)
            clear HBx2 HUx2 HX2 HY2
            have hc' := HBL2.out
            have c0 := hc'.cell 0 rfl
            have c1 := hc'.cell 1 rfl
            have c2 := hc'.cell 2 rfl
            have c3 := hc'.cell 3 rfl
            have c4 := hc'.cell 4 rfl
            have c5 := hc'.cell 5 rfl
            have c6 := hc'.cell 6 rfl
            have c7 := hc'.cell 7 rfl
            have c8 := hc'.cell 8 rfl
            clear hc'
            have z3 : (strOf ([80, 75, 1, 2, 20, 3, 20, 0, 0, 8] ++ flatN 2 ns ++ flatN 4 ms)).size ≤ 100 := by rw [size_strOf, List.length_append, List.length_append, flatN_len, flatN_len, hnl3, hml3]; simp only [List.length_cons, List.length_nil]; omega
            generalize strOf ([80, 75, 1, 2, 20, 3, 20, 0, 0, 8] ++ flatN 2 ns ++ flatN 4 ms) = SQ at *
            go_wp2_with fail
            refine (HN.out _).mono ?_
            rintro e q1 ⟨rfl, hq1⟩
            go_wp2_with fail
            try rw [hsz]
            refine (HPN.out _).mono ?_
            rintro e q2 ⟨rfl, hq2⟩
            have hBq := (HBL2.out.upd hq1 (by simp)).upd hq2 (by simp)
            have hUq := (HUL2.out.then hq1).then hq2
            clear hq1 hq2 c0 c1 c2 c3 c4 c5 c6 c7 c8
            have z4 : (NL ++ ({ data := #[0, 0, 0, 0, 0, 0, 0, 0] } : ByteArray)).size = 10 := by rw [ByteArray.size_append]; omega
            have HBq := Lib.hid hBq
            have HUq := Lib.hid hUq
            clear hBq hUq
            go_wp2_with fail
            have z5 : (SQ ++ (NL ++ ({ data := #[0, 0, 0, 0, 0, 0, 0, 0] } : ByteArray))).size ≤ 200 := by rw [ByteArray.size_append]; omega
            have z6 : ((SQ ++ (NL ++ ({ data := #[0, 0, 0, 0, 0, 0, 0, 0] } : ByteArray))) ++ SA).size ≤ 300 := by rw [ByteArray.size_append]; omega
            have z7 : (((SQ ++ (NL ++ ({ data := #[0, 0, 0, 0, 0, 0, 0, 0] } : ByteArray))) ++ SA) ++ SP).size ≤ 400 := by rw [ByteArray.size_append]; omega
            have a1 : ∀ W', (Op.stringOp .add (SQ ++ (NL ++ ({ data := #[0, 0, 0, 0, 0, 0, 0, 0] } : ByteArray))) SA).run Tryd.prog W' = .ok (.string ((SQ ++ (NL ++ ({ data := #[0, 0, 0, 0, 0, 0, 0, 0] } : ByteArray))) ++ SA)) W' := fun W' => run_string_add_sum _ _ _ (by omega)
            have a2 : ∀ W', (Op.stringOp .add ((SQ ++ (NL ++ ({ data := #[0, 0, 0, 0, 0, 0, 0, 0] } : ByteArray))) ++ SA) SP).run Tryd.prog W' = .ok (.string (((SQ ++ (NL ++ ({ data := #[0, 0, 0, 0, 0, 0, 0, 0] } : ByteArray))) ++ SA) ++ SP)) W' := fun W' => run_string_add_sum _ _ _ (by omega)
            have a3 : ∀ W', (Op.stringOp .add (((SQ ++ (NL ++ ({ data := #[0, 0, 0, 0, 0, 0, 0, 0] } : ByteArray))) ++ SA) ++ SP) S).run Tryd.prog W' = .ok (.string ((((SQ ++ (NL ++ ({ data := #[0, 0, 0, 0, 0, 0, 0, 0] } : ByteArray))) ++ SA) ++ SP) ++ S)) W' := fun W' => run_string_add_sum _ _ _ (by omega)
            refine wp_region_held_drew (S := fun w' => Blk w' b0 [.string p, .int .i64 mn, .int .u32 (sum : Nat), .int .i64 ln, .int .i64 wn, .int .i64 k, .int .i64 mdn, .int .u32 (t : Nat), .int .i64 pn] 51 ∧ Upd [] w w') (by kernel_rfl) ⟨HBq.out, HUq.out.drew⟩ (fun hHeld => ?_)
            change wpAnyH _ _ _ _ _ 15 #[false, false, false, false, false, false, false, false, false, false, false, false, false, false, false] _ _
            refine heldTake (i := 0) (d := some 60) (v := ?v0_1) rfl rfl (by kernel_rfl) (by kernel_rfl) (by kernel_rfl) (fun _ _ _ h => h) (by rfl) ?hy0_1 (by assumption) ?r0_1
            case hy0_1 => (intro w hSw; (try dsimp only at hSw); go_simp; try with_reducible rfl)
            try simp only [Act.put, List.setIfInBounds_toArray, List.set_cons_zero, List.set_cons_succ]
            change wpAnyH _ _ _ _ _ 14 #[true, false, false, false, false, false, false, false, false, false, false, false, false, false, false] _ _
            refine heldTake (i := 1) (d := some 61) (v := ?v1_2) rfl rfl (by kernel_rfl) (by kernel_rfl) (by kernel_rfl) (fun _ _ _ h => h) (by rfl) ?hy1_2 (by assumption) ?r1_2
            case hy1_2 => (intro w hSw; have q0 := hSw.1.cell 0 rfl; have q1 := hSw.1.cell 1 rfl; have q2 := hSw.1.cell 2 rfl; have q3 := hSw.1.cell 3 rfl; have q4 := hSw.1.cell 4 rfl; have q5 := hSw.1.cell 5 rfl; have q6 := hSw.1.cell 6 rfl; have q7 := hSw.1.cell 7 rfl; have q8 := hSw.1.cell 8 rfl; go_simp; try with_reducible rfl)
            try simp only [Act.put, List.setIfInBounds_toArray, List.set_cons_zero, List.set_cons_succ]
            change wpAnyH _ _ _ _ _ 13 #[true, true, false, false, false, false, false, false, false, false, false, false, false, false, false] _ _
            refine heldTake (i := 6) (d := some 66) (v := ?v6_3) rfl rfl (by kernel_rfl) (by kernel_rfl) (by kernel_rfl) (fun _ _ _ h => h) (by rfl) ?hy6_3 (by assumption) ?r6_3
            case hy6_3 => (intro w hSw; (try dsimp only at hSw); go_simp; try with_reducible rfl)
            try simp only [Act.put, List.setIfInBounds_toArray, List.set_cons_zero, List.set_cons_succ]
            change wpAnyH _ _ _ _ _ 12 #[true, true, false, false, false, false, true, false, false, false, false, false, false, false, false] _ _
            refine heldTake (i := 7) (d := some 67) (v := ?v7_4) rfl rfl (by kernel_rfl) (by kernel_rfl) (by kernel_rfl) (fun _ _ _ h => h) (by rfl) ?hy7_4 (by assumption) ?r7_4
            case hy7_4 => (intro w hSw; have q0 := hSw.1.cell 0 rfl; have q1 := hSw.1.cell 1 rfl; have q2 := hSw.1.cell 2 rfl; have q3 := hSw.1.cell 3 rfl; have q4 := hSw.1.cell 4 rfl; have q5 := hSw.1.cell 5 rfl; have q6 := hSw.1.cell 6 rfl; have q7 := hSw.1.cell 7 rfl; have q8 := hSw.1.cell 8 rfl; go_simp; try with_reducible rfl)
            try simp only [Act.put, List.setIfInBounds_toArray, List.set_cons_zero, List.set_cons_succ]
            change wpAnyH _ _ _ _ _ 11 #[true, true, false, false, false, false, true, true, false, false, false, false, false, false, false] _ _
            refine heldTake (i := 8) (d := some 68) (v := ?v8_5) rfl rfl (by kernel_rfl) (by kernel_rfl) (by kernel_rfl) (fun _ _ _ h => h) (by rfl) ?hy8_5 (by assumption) ?r8_5
            case hy8_5 => (intro w hSw; (try dsimp only at hSw); go_simp; try with_reducible rfl)
            try simp only [Act.put, List.setIfInBounds_toArray, List.set_cons_zero, List.set_cons_succ]
            change wpAnyH _ _ _ _ _ 10 #[true, true, false, false, false, false, true, true, true, false, false, false, false, false, false] _ _
            refine heldTake (i := 11) (d := some 71) (v := ?v11_6) rfl rfl (by kernel_rfl) (by kernel_rfl) (by kernel_rfl) (fun _ _ _ h => h) (by rfl) ?hy11_6 (by assumption) ?r11_6
            case hy11_6 => (intro w hSw; have q0 := hSw.1.cell 0 rfl; have q1 := hSw.1.cell 1 rfl; have q2 := hSw.1.cell 2 rfl; have q3 := hSw.1.cell 3 rfl; have q4 := hSw.1.cell 4 rfl; have q5 := hSw.1.cell 5 rfl; have q6 := hSw.1.cell 6 rfl; have q7 := hSw.1.cell 7 rfl; have q8 := hSw.1.cell 8 rfl; go_simp; try with_reducible rfl)
            try simp only [Act.put, List.setIfInBounds_toArray, List.set_cons_zero, List.set_cons_succ]
            change wpAnyH _ _ _ _ _ 9 #[true, true, false, false, false, false, true, true, true, false, false, true, false, false, false] _ _
            refine wpAnyH_ready (rs := [2]) (by kernel_rfl) (by simp) ?_
            refine AllReadyH.cons rfl (fun K hK => ?_) AllReadyH.nil
            go_simp
            refine (HAT.out _).mono ?_
            rintro e z1 ⟨rfl, hz1⟩
            have hS1 : Blk z1 b0 [.string p, .int .i64 mn, .int .u32 (sum : Nat), .int .i64 ln, .int .i64 wn, .int .i64 k, .int .i64 mdn, .int .u32 (t : Nat), .int .i64 pn] 51 ∧ Upd [] w z1 := ⟨hHeld.1.upd hz1 (by simp), hHeld.2.then hz1⟩
            go_wp2
            refine hK.out _ _ hS1 (fun hHeld => ?_)
            clear hK K
            try simp only [Act.put, List.setIfInBounds_toArray, List.set_cons_zero, List.set_cons_succ]
            change wpAnyH _ _ _ _ _ 8 #[true, true, true, false, false, false, true, true, true, false, false, true, false, false, false] _ _
            refine heldTake (i := 3) (d := some 63) (v := ?v3_8) rfl rfl (by kernel_rfl) (by kernel_rfl) (by kernel_rfl) (fun _ _ _ h => h) (by rfl) ?hy3_8 (by assumption) ?r3_8
            case hy3_8 => (intro w hSw; (try dsimp only at hSw); go_simp; try with_reducible rfl)
            try simp only [Act.put, List.setIfInBounds_toArray, List.set_cons_zero, List.set_cons_succ]
            change wpAnyH _ _ _ _ _ 7 #[true, true, true, true, false, false, true, true, true, false, false, true, false, false, false] _ _
            refine wpAnyH_ready (rs := [4]) (by kernel_rfl) (by simp) ?_
            refine AllReadyH.cons rfl (fun K hK => ?_) AllReadyH.nil
            go_simp
            refine (HPA.out _).mono ?_
            rintro e z2 ⟨rfl, hz2⟩
            have hS2 : Blk z2 b0 [.string p, .int .i64 mn, .int .u32 (sum : Nat), .int .i64 ln, .int .i64 wn, .int .i64 k, .int .i64 mdn, .int .u32 (t : Nat), .int .i64 pn] 51 ∧ Upd [] w z2 := ⟨hHeld.1.upd hz2 (by simp), hHeld.2.then hz2⟩
            go_wp2
            refine hK.out _ _ hS2 (fun hHeld => ?_)
            clear hK K
            try simp only [Act.put, List.setIfInBounds_toArray, List.set_cons_zero, List.set_cons_succ]
            change wpAnyH _ _ _ _ _ 6 #[true, true, true, true, true, false, true, true, true, false, false, true, false, false, false] _ _
            refine heldTake (i := 5) (d := some 65) (v := ?v5_10) rfl rfl (by kernel_rfl) (by kernel_rfl) (by kernel_rfl) (fun _ _ _ h => h) (by rfl) ?hy5_10 (by assumption) ?r5_10
            case hy5_10 => (intro w hSw; (try dsimp only at hSw); go_simp; try with_reducible rfl)
            try simp only [Act.put, List.setIfInBounds_toArray, List.set_cons_zero, List.set_cons_succ]
            change wpAnyH _ _ _ _ _ 5 #[true, true, true, true, true, true, true, true, true, false, false, true, false, false, false] _ _
            refine wpAnyH_ready (rs := [9]) (by kernel_rfl) (by simp) ?_
            refine AllReadyH.cons rfl (fun K hK => ?_) AllReadyH.nil
            go_simp
            refine (HPP.out _).mono ?_
            rintro e z3 ⟨rfl, hz3⟩
            have hS3 : Blk z3 b0 [.string p, .int .i64 mn, .int .u32 (sum : Nat), .int .i64 ln, .int .i64 wn, .int .i64 k, .int .i64 mdn, .int .u32 (t : Nat), .int .i64 pn] 51 ∧ Upd [] w z3 := ⟨hHeld.1.upd hz3 (by simp), hHeld.2.then hz3⟩
            go_wp2
            refine hK.out _ _ hS3 (fun hHeld => ?_)
            clear hK K
            try simp only [Act.put, List.setIfInBounds_toArray, List.set_cons_zero, List.set_cons_succ]
            change wpAnyH _ _ _ _ _ 4 #[true, true, true, true, true, true, true, true, true, true, false, true, false, false, false] _ _
            refine heldTake (i := 10) (d := some 70) (v := ?v10_12) rfl rfl (by kernel_rfl) (by kernel_rfl) (by kernel_rfl) (fun _ _ _ h => h) (by rfl) ?hy10_12 (by assumption) ?r10_12
            case hy10_12 => (intro w hSw; (try dsimp only at hSw); go_simp; try with_reducible rfl)
            try simp only [Act.put, List.setIfInBounds_toArray, List.set_cons_zero, List.set_cons_succ]
            change wpAnyH _ _ _ _ _ 3 #[true, true, true, true, true, true, true, true, true, true, true, true, false, false, false] _ _
            refine wpAnyH_ready (rs := [12]) (by kernel_rfl) (by simp) ?_
            refine AllReadyH.cons rfl (fun K hK => ?_) AllReadyH.nil
            go_simp
            refine (HN.out _).mono ?_
            rintro e z4 ⟨rfl, hz4⟩
            have hS4 : Blk z4 b0 [.string p, .int .i64 mn, .int .u32 (sum : Nat), .int .i64 ln, .int .i64 wn, .int .i64 k, .int .i64 mdn, .int .u32 (t : Nat), .int .i64 pn] 51 ∧ Upd [] w z4 := ⟨hHeld.1.upd hz4 (by simp), hHeld.2.then hz4⟩
            go_wp2
            refine hK.out _ _ hS4 (fun hHeld => ?_)
            clear hK K
            try simp only [Act.put, List.setIfInBounds_toArray, List.set_cons_zero, List.set_cons_succ]
            change wpAnyH _ _ _ _ _ 2 #[true, true, true, true, true, true, true, true, true, true, true, true, true, false, false] _ _
            refine heldTake (i := 13) (d := some 73) (v := ?v13_14) rfl rfl (by kernel_rfl) (by kernel_rfl) (by kernel_rfl) (fun _ _ _ h => h) (by rfl) ?hy13_14 (by assumption) ?r13_14
            case hy13_14 => (intro w hSw; (try dsimp only at hSw); go_simp; try with_reducible rfl)
            try simp only [Act.put, List.setIfInBounds_toArray, List.set_cons_zero, List.set_cons_succ]
            change wpAnyH _ _ _ _ _ 1 #[true, true, true, true, true, true, true, true, true, true, true, true, true, true, false] _ _
            refine heldTake (i := 14) (d := some 2) (v := ?v14_15) rfl rfl (by kernel_rfl) (by kernel_rfl) (by kernel_rfl) (fun _ _ _ h => h) (by rfl) ?hy14_15 (by assumption) ?r14_15
            case hy14_15 => (intro w hSw; (try dsimp only at hSw); go_simp; try with_reducible rfl)
            try simp only [Act.put, List.setIfInBounds_toArray, List.set_cons_zero, List.set_cons_succ]
            change wpAnyH _ _ _ _ _ 0 #[true, true, true, true, true, true, true, true, true, true, true, true, true, true, true] _ _
            refine wpAnyH_done (by kernel_rfl) ?_ 0
            have hUF := hHeld.2
            go_wp2_with fail
            go_ret
            exact ⟨by rw [HW.out, ← HFIN.out]; rfl, hUF⟩
end Go.Proofs.YtibmhadnfggmlaaDoor

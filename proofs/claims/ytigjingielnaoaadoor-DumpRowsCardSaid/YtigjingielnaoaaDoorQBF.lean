/- The law swinglelaw43: lives, for the laws beside DumpHex (lines of LawDH). -/
import Derived.Test.YtigjingielnaoaaDoorDHx
import Derived.Deep.CutBlock
import Derived.Test.YtigjingielnaoaaDoorDRec
import Derived.Deep.Slices
import Derived.Deep.Fields
import Derived.ChangeSame
import Derived.ProofKit
import Derived.OpenShut
namespace Go.Proofs.YtigjingielnaoaaDoor
set_option linter.unusedVariables false
set_option linter.unusedSimpArgs false
set_option linter.unusedSectionVars false
open Go.RowKit
set_option linter.unusedVariables false
set_option linter.unusedSimpArgs false

set_option maxRecDepth 100000 in
theorem lives43_any (w : World) : Calls Tryd.prog 6 #[] w fun e w' => e = .returned (.bool true) ∧ Upd [] w w' := by
  have HH := Lib.hid (fun w => dHex_any { data := #[65] } 0 w (by decide))
  have HE : Hid (hexLines (max 0 (min (0 : Int) 1073741824)).toNat (bytesOf { data := #[65] }) = [[48, 48, 48, 48, 48, 48, 48, 48, 32, 52, 49]]) := Lib.hid (by decide)
  rw [HE.out] at HH
  go_enter Tryd.func6, Tryd.ntmps6
  go_wp2_with fail
  refine (HH.out _).mono ?_
  rintro e w1 ⟨v, rfl, hO, hu⟩
  obtain ⟨a, c, rfl, hc, ht⟩ := hO.texts
  obtain ⟨b, o, rfl, hcell⟩ := ht 0 (by simp)
  rw [Nat.add_zero] at hcell
  have hst : ((strOf [48, 48, 48, 48, 48, 48, 48, 48, 32, 52, 49]).toList == [48, 48, 48, 48, 48, 48, 48, 48, 32, 52, 49]) = true := by decide +kernel
  clear ht hO HH
  go_wp2
  go_returns
  exact ⟨rfl, hu⟩
end Go.Proofs.YtigjingielnaoaaDoor
namespace Go.Proofs.YtigjingielnaoaaDoor
set_option linter.unusedVariables false
set_option linter.unusedSimpArgs false
set_option linter.unusedSectionVars false
open Go.RowKit
set_option linter.unusedVariables false
set_option linter.unusedSimpArgs false

set_option maxRecDepth 100000 in
set_option maxHeartbeats 12800000 in
theorem law_dumpRows (r : RecD) (s0 : ByteArray) (w : World) (hsum : r.sum < 4294967296) (ht : r.t < 4294967296) (hp0 : r.p.size ≤ 9223372036854775807) (hs0 : s0.size ≤ 9223372036854775807) :
    Calls Tryd.prog 3 #[r.v, .string s0] w fun e w' => e = .returned (.bool true) ∧ Upd [] w w' := by
  obtain ⟨n2, hn2⟩ : ∃ n, n = min s0.size 400 := ⟨_, rfl⟩
  have e2 : min (s0.size : Int) 400 = (n2 : Int) := by omega
  have b2 : n2 ≤ s0.size := by omega
  have HS2 : Hid ((s0.extract 0 n2).size ≤ 400) := Lib.hid (by rw [ByteArray.size_extract]; omega)
  clear hn2
  have HL := Lib.hid lives43_any
  by_cases hp3 : r.p.size ≤ 300
  · have HFIT : Hid r.Fits := Lib.hid ⟨by omega, hsum, ht⟩
    have HT1 := Lib.hid (fun w => rrow_any r w HFIT.out)
    have HT2 := Lib.hid (fun w => drow_any r w HFIT.out)
    obtain ⟨TX, hTX⟩ : ∃ TX, strOf (rowP r) = TX := ⟨_, rfl⟩
    have hb : bytesOf TX = rowP r := by rw [← hTX, bytesOf_strOf _ (rowP_lt _)]
    have hz : TX.size ≤ 900 := by
      rw [← hTX, size_strOf]
      by_cases h0 : recErr r = 0
      · rw [show rowP r = joinC 32 (rowW r) from if_neg (by rw [h0]; simp), joinC_tot]
        obtain ⟨_, hl, _, _, _⟩ := recErr_zero h0
        obtain ⟨c1, c2, c3, c4⟩ := laidB_bd hl
        have a1 := decL_len 10 r.pos.toNat (by omega)
        have a2 := decL_len 10 r.m.toNat (by omega)
        have a3 := decL_len 10 r.l.toNat (by omega)
        have a4 := decL_len 10 r.wh.toNat (by omega)
        have a5 := hexP_len 8 r.sum
        have a6 := permTo_len r.md.toNat 9
        have a7 := dosTextP_len r.t
        have a8 := nameP_len r.k r.p
        unfold rowW
        simp only [totC, List.map_cons, List.map_nil, List.sum_cons, List.sum_nil, List.length_cons, List.length_nil]
        omega
      · rw [show rowP r = [] from if_pos h0]; decide
    have HN1 := Lib.hid (fun w => drec_any TX w hz)
    have HN2 := Lib.hid (fun w => drec_any (s0.extract 0 n2) w (by have := HS2.out; omega))
    rw [hb] at HN1
    rw [hTX] at HT1 HT2
    obtain ⟨PA, hPA⟩ : ∃ PA, rowR (rowP r) = PA := ⟨_, rfl⟩
    obtain ⟨OA, hOA⟩ : ∃ OA, rowOk (rowP r) = OA := ⟨_, rfl⟩
    have HA : Hid ((OA = true → PA = r ∧ TX.toList ≠ []) ∧ (OA = false → TX = ⟨#[]⟩)) := Lib.hid (by
      have h1 := row_ok hsum ht
      rw [hOA, hPA] at h1
      refine ⟨fun h => ?_, fun h => ?_⟩
      · have h3 : recErr r = 0 := of_decide_eq_true (h1.1.symm.trans h)
        refine ⟨h1.2.1 h3, fun h4 => ?_⟩
        apply h1.2.2 h3
        rw [← hb]
        have := congrArg List.length h4
        apply List.eq_nil_of_length_eq_zero
        rw [length_bytesOf]
        rw [ByteArray.toList_eq] at this
        simpa using this
      · have h3 : recErr r ≠ 0 := of_decide_eq_false (h1.1.symm.trans h)
        rw [← hTX, show rowP r = [] from if_pos h3]
        rfl)
    rw [hPA, hOA] at HN1
    clear hTX hb hz hPA hOA HFIT
    generalize hSS : s0.extract 0 n2 = S at *
    have HB : Hid (rowOk (bytesOf S) = true → (rowR (bytesOf S)).Fits ∧ strOf (rowP (rowR (bytesOf S))) = S) := Lib.hid (fun h => by
      have h1 := rowR_ok h
      refine ⟨?_, by rw [h1, strOf_bytesOf]⟩
      unfold rowR
      rw [if_pos h]
      refine ⟨?_, (recW_bd _).1, (recW_bd _).2⟩
      show (strOf (pathP ((splitNC 32 8 (bytesOf S)).getD 8 [])).1).size ≤ 1000
      rw [size_strOf]
      have h2 := (of_decide_eq_true h).1
      rw [getD_atR _ 8 (by omega)]
      have h3 := (splitNC_mem 32 8 (bytesOf S) _ (List.getElem_mem (show 8 < (splitNC 32 8 (bytesOf S)).length by omega))).1
      have h4 := pathP_len (splitNC 32 8 (bytesOf S))[8]
      rw [length_bytesOf] at h3
      have := HS2.out
      omega)
    have HBN : Hid (rowOk (bytesOf S) = false → rowR (bytesOf S) = RecD.no) := Lib.hid rowR_no
    have HRB : Hid (rowOk (bytesOf S) = true → ∀ w, Calls Tryd.prog 7 #[(rowR (bytesOf S)).v] w fun e w' => e = .returned (.string S) ∧ Upd [] w w') := Lib.hid (fun h w => by
      have h1 := HB.out h
      have h2 := rrow_any _ w h1.1
      rw [h1.2] at h2
      exact h2)
    generalize rowOk (bytesOf S) = OB at *
    generalize rowR (bytesOf S) = PB at *
    clear HB
    obtain ⟨p, m, sum, l, wh, k, md, t, pos⟩ := r
    obtain ⟨p1, m1, sum1, l1, wh1, k1, md1, t1, pos1⟩ := PA
    obtain ⟨p2, m2, sum2, l2, wh2, k2, md2, t2, pos2⟩ := PB
    unfold RecD.v at HN1 HN2 HT1 HT2 HRB ⊢
    dsimp only at HN1 HN2 HT1 HT2 HRB hp3 ⊢
    clear hsum ht hp0
    have hpz : ¬ (300 : Int) < (p.size : Int) := by omega
    have hpn : ¬ 300 < p.size := by omega
    have HB0 := Lib.hid (Blk.new w [.string p, .int .i64 m, .int .u32 (sum : Nat), .int .i64 l, .int .i64 wh, .int .i64 k, .int .i64 md, .int .u32 (t : Nat), .int .i64 pos] 24)
    have HU0 := Lib.hid ((Upd.refl [] w).alloc (.cells #[.string p, .int .i64 m, .int .u32 (sum : Nat), .int .i64 l, .int .i64 wh, .int .i64 k, .int .i64 md, .int .u32 (t : Nat), .int .i64 pos] 24))
    go_enter Tryd.func3, Tryd.ntmps3
    go_upto_region 2 with fail
    change Code.wp _ _ _ _ (w.alloc (.cells #[.string p, .int .i64 m, .int .u32 (sum : Nat), .int .i64 l, .int .i64 wh, .int .i64 k, .int .i64 md, .int .u32 (t : Nat), .int .i64 pos] 24))
    generalize w.alloc (.cells #[.string p, .int .i64 m, .int .u32 (sum : Nat), .int .i64 l, .int .i64 wh, .int .i64 k, .int .i64 md, .int .u32 (t : Nat), .int .i64 pos] 24) = w0 at *
    obtain ⟨q0, hq0⟩ : ∃ q0, w.heap.size = q0 := ⟨_, rfl⟩
    rw [hq0] at HB0 ⊢
    clear hq0
    have a0 := HB0.out.cell 0 rfl
    have a1 := HB0.out.cell 1 rfl
    have a2 := HB0.out.cell 2 rfl
    have a3 := HB0.out.cell 3 rfl
    have a4 := HB0.out.cell 4 rfl
    have a5 := HB0.out.cell 5 rfl
    have a6 := HB0.out.cell 6 rfl
    have a7 := HB0.out.cell 7 rfl
    have a8 := HB0.out.cell 8 rfl
    go_wp2_with fail
    refine (HT1.out _).mono ?_
    rintro e w2 ⟨rfl, hu2⟩
    have HB2 := Lib.hid (HB0.out.upd hu2 (by simp))
    have HU2 := Lib.hid (HU0.out.then hu2)
    clear a0 a1 a2 a3 a4 a5 a6 a7 a8 HB0 HU0 hu2 HT1
    go_wp2_with fail
    refine (HN1.out _).mono ?_
    rintro e w3 ⟨rfl, hu3⟩
    have HB3 := Lib.hid (HB2.out.upd hu3 (by simp))
    have HU3 := Lib.hid (HU2.out.then hu3)
    clear HB2 HU2 hu3 HN1
    go_upto_region 6 with fail
    have HB4 := Lib.hid (HB3.out.alloc (.cells #[.string p1, .int .i64 m1, .int .u32 (sum1 : Nat), .int .i64 l1, .int .i64 wh1, .int .i64 k1, .int .i64 md1, .int .u32 (t1 : Nat), .int .i64 pos1] 24))
    have HP4 := Lib.hid (Blk.new w3 [.string p1, .int .i64 m1, .int .u32 (sum1 : Nat), .int .i64 l1, .int .i64 wh1, .int .i64 k1, .int .i64 md1, .int .u32 (t1 : Nat), .int .i64 pos1] 24)
    have HU4 := Lib.hid (HU3.out.alloc (.cells #[.string p1, .int .i64 m1, .int .u32 (sum1 : Nat), .int .i64 l1, .int .i64 wh1, .int .i64 k1, .int .i64 md1, .int .u32 (t1 : Nat), .int .i64 pos1] 24))
    change Code.wp _ _ _ _ (w3.alloc (.cells #[.string p1, .int .i64 m1, .int .u32 (sum1 : Nat), .int .i64 l1, .int .i64 wh1, .int .i64 k1, .int .i64 md1, .int .u32 (t1 : Nat), .int .i64 pos1] 24))
    generalize w3.alloc (.cells #[.string p1, .int .i64 m1, .int .u32 (sum1 : Nat), .int .i64 l1, .int .i64 wh1, .int .i64 k1, .int .i64 md1, .int .u32 (t1 : Nat), .int .i64 pos1] 24) = w4 at *
    generalize w3.heap.size = qp at *
    clear HB3 HU3
    go_wp2_with fail
    refine (HN2.out _).mono ?_
    rintro e w5 ⟨rfl, hu5⟩
    have HB5 := Lib.hid (HB4.out.upd hu5 (by simp))
    have HP5 := Lib.hid (HP4.out.upd hu5 (by simp))
    have HU5 := Lib.hid (HU4.out.then hu5)
    clear HB4 HP4 HU4 hu5 HN2
    go_upto_region 7 with fail
    have HB6 := Lib.hid (HB5.out.alloc (.cells #[.string p2, .int .i64 m2, .int .u32 (sum2 : Nat), .int .i64 l2, .int .i64 wh2, .int .i64 k2, .int .i64 md2, .int .u32 (t2 : Nat), .int .i64 pos2] 24))
    have HP6 := Lib.hid (HP5.out.alloc (.cells #[.string p2, .int .i64 m2, .int .u32 (sum2 : Nat), .int .i64 l2, .int .i64 wh2, .int .i64 k2, .int .i64 md2, .int .u32 (t2 : Nat), .int .i64 pos2] 24))
    have HQ6 := Lib.hid (Blk.new w5 [.string p2, .int .i64 m2, .int .u32 (sum2 : Nat), .int .i64 l2, .int .i64 wh2, .int .i64 k2, .int .i64 md2, .int .u32 (t2 : Nat), .int .i64 pos2] 24)
    have HU6 := Lib.hid (HU5.out.alloc (.cells #[.string p2, .int .i64 m2, .int .u32 (sum2 : Nat), .int .i64 l2, .int .i64 wh2, .int .i64 k2, .int .i64 md2, .int .u32 (t2 : Nat), .int .i64 pos2] 24))
    change Code.wp _ _ _ _ (w5.alloc (.cells #[.string p2, .int .i64 m2, .int .u32 (sum2 : Nat), .int .i64 l2, .int .i64 wh2, .int .i64 k2, .int .i64 md2, .int .u32 (t2 : Nat), .int .i64 pos2] 24))
    generalize w5.alloc (.cells #[.string p2, .int .i64 m2, .int .u32 (sum2 : Nat), .int .i64 l2, .int .i64 wh2, .int .i64 k2, .int .i64 md2, .int .u32 (t2 : Nat), .int .i64 pos2] 24) = w6 at *
    generalize w5.heap.size = qq at *
    clear HB5 HP5 HU5
    have a0 := HB6.out.cell 0 rfl
    have a1 := HB6.out.cell 1 rfl
    have a2 := HB6.out.cell 2 rfl
    have a3 := HB6.out.cell 3 rfl
    have a4 := HB6.out.cell 4 rfl
    have a5 := HB6.out.cell 5 rfl
    have a6 := HB6.out.cell 6 rfl
    have a7 := HB6.out.cell 7 rfl
    have a8 := HB6.out.cell 8 rfl
    go_wp2_with fail
    refine (HT2.out _).mono ?_
    rintro e w7 ⟨rfl, hu7⟩
    have HB7 := Lib.hid (HB6.out.upd hu7 (by simp))
    have HP7 := Lib.hid (HP6.out.upd hu7 (by simp))
    have HQ7 := Lib.hid (HQ6.out.upd hu7 (by simp))
    have HU7 := Lib.hid (HU6.out.then hu7)
    clear a0 a1 a2 a3 a4 a5 a6 a7 a8 HB6 HP6 HQ6 HU6 hu7 HT2
    have a0 := HB7.out.cell 0 rfl
    have a1 := HB7.out.cell 1 rfl
    have a2 := HB7.out.cell 2 rfl
    have a3 := HB7.out.cell 3 rfl
    have a4 := HB7.out.cell 4 rfl
    have a5 := HB7.out.cell 5 rfl
    have a6 := HB7.out.cell 6 rfl
    have a7 := HB7.out.cell 7 rfl
    have a8 := HB7.out.cell 8 rfl
    have b0 := HP7.out.cell 0 rfl
    have b1 := HP7.out.cell 1 rfl
    have b2 := HP7.out.cell 2 rfl
    have b3 := HP7.out.cell 3 rfl
    have b4 := HP7.out.cell 4 rfl
    have b5 := HP7.out.cell 5 rfl
    have b6 := HP7.out.cell 6 rfl
    have b7 := HP7.out.cell 7 rfl
    have b8 := HP7.out.cell 8 rfl
    have d0 := HQ7.out.cell 0 rfl
    have d1 := HQ7.out.cell 1 rfl
    have d2 := HQ7.out.cell 2 rfl
    have d3 := HQ7.out.cell 3 rfl
    have d4 := HQ7.out.cell 4 rfl
    have d5 := HQ7.out.cell 5 rfl
    have d6 := HQ7.out.cell 6 rfl
    have d7 := HQ7.out.cell 7 rfl
    have d8 := HQ7.out.cell 8 rfl
    cases OA with
    | true =>
      have hx := (HA.out.1 (by trivial)).1
      have hne : TX.toList.isEmpty = false := by
        have := (HA.out.1 (by trivial)).2
        cases h : TX.toList with
        | nil => exact absurd h this
        | cons => rfl
      obtain ⟨h1, h2, h3, h4, h5, h6, h7, h8, h9⟩ := RecD.mk.inj hx
      subst h1 h2 h3 h4 h5 h6 h7 h8 h9
      clear hx
      go_upto_region 9 with fail
      cases OB with
      | true =>
        go_wp2_with fail
        refine (HRB.out (by trivial) _).mono ?_
        rintro e w8 ⟨rfl, hu8⟩
        have HU8 := Lib.hid (HU7.out.then hu8)
        clear a0 a1 a2 a3 a4 a5 a6 a7 a8 b0 b1 b2 b3 b4 b5 b6 b7 b8 d0 d1 d2 d3 d4 d5 d6 d7 d8
        go_wp2_with fail
        refine (HL.out _).mono ?_
        rintro e w9 ⟨rfl, hu9⟩
        go_wp2
        go_returns
        exact ⟨rfl, HU8.out.then hu9⟩
      | false =>
        have hy := HBN.out (by trivial)
        obtain ⟨h1, h2, h3, h4, h5, h6, h7, h8, h9⟩ := RecD.mk.inj hy
        subst h1 h2 h3 h4 h5 h6 h7 h8 h9
        clear hy
        go_wp2_with fail
        refine (HL.out _).mono ?_
        rintro e w9 ⟨rfl, hu9⟩
        go_wp2
        go_returns
        exact ⟨rfl, HU7.out.then hu9⟩
    | false =>
      have hx := HA.out.2 (by trivial)
      subst hx
      go_upto_region 9 with fail
      cases OB with
      | true =>
        go_wp2_with fail
        refine (HRB.out (by trivial) _).mono ?_
        rintro e w8 ⟨rfl, hu8⟩
        have HU8 := Lib.hid (HU7.out.then hu8)
        clear a0 a1 a2 a3 a4 a5 a6 a7 a8 b0 b1 b2 b3 b4 b5 b6 b7 b8 d0 d1 d2 d3 d4 d5 d6 d7 d8
        go_wp2_with fail
        refine (HL.out _).mono ?_
        rintro e w9 ⟨rfl, hu9⟩
        go_wp2
        go_returns
        exact ⟨rfl, HU8.out.then hu9⟩
      | false =>
        have hy := HBN.out (by trivial)
        obtain ⟨h1, h2, h3, h4, h5, h6, h7, h8, h9⟩ := RecD.mk.inj hy
        subst h1 h2 h3 h4 h5 h6 h7 h8 h9
        clear hy
        go_wp2_with fail
        refine (HL.out _).mono ?_
        rintro e w9 ⟨rfl, hu9⟩
        go_wp2
        go_returns
        exact ⟨rfl, HU7.out.then hu9⟩
  · obtain ⟨p, m, sum, l, wh, k, md, t, pos⟩ := r
    unfold RecD.v
    dsimp only at hp3 ⊢
    have hpz : (300 : Int) < (p.size : Int) := by omega
    have hpn : 300 < p.size := by omega
    have HB0 := Lib.hid (Blk.new w [.string p, .int .i64 m, .int .u32 (sum : Nat), .int .i64 l, .int .i64 wh, .int .i64 k, .int .i64 md, .int .u32 (t : Nat), .int .i64 pos] 24)
    go_enter Tryd.func3, Tryd.ntmps3
    go_upto_region 2 with fail
    have c0 := HB0.out.cell 0 rfl
    go_wp2_with fail
    refine (HL.out _).mono ?_
    rintro e w9 ⟨rfl, hu9⟩
    go_wp2
    go_returns
    exact ⟨rfl, ((Upd.refl _ _).alloc _).then hu9⟩
end Go.Proofs.YtigjingielnaoaaDoor
namespace Go.Proofs.YtigjingielnaoaaDoor
set_option linter.unusedVariables false
set_option linter.unusedSimpArgs false
set_option linter.unusedSectionVars false
open Go.ChangeShapes Go.WideShapes Go.Deep

theorem add_zero (a : Addr) : a.add 0 = a := by unfold Addr.add; simp

section
variable {H : Type} {enc : TypeId × Value → H} {P : Program} {w : World} {base : Nat} {spare : Nat → Bool} {held : Bool}
/-- A struct by value: each field reads as a datum of the field's type. -/
theorem open_rec {t : TypeId} {fs : Array Field} {fuel : Nat} {cs : List Value} {x : DataW H × List MemPlace} (he : P.underlying t = some (.struct fs)) (hone : oneCellFields P fs = true) (hlen : cs.length = fs.size)
    (h : DataW.trod enc P w base spare held fuel t cs = some x) :
    ∃ n, ∀ (j : Nat) (f : Field), fs[j]? = some f → ∃ u y, cs[j]? = some u ∧ DataW.trod enc P w base spare held n f.type [u] = some y := by
  obtain ⟨ys, k, _, _, _, hyl, hf⟩ := DataW.trod_struct he h
  refine ⟨k, fun j f hj => ?_⟩
  obtain ⟨ho, hk⟩ := hone_of hone j f hj
  have hjl : j < fs.size := (Array.getElem?_eq_some_iff.1 hj).1
  have hd := hf j f hj
  rw [ho, hk, List.drop_eq_getElem_cons (by omega)] at hd
  refine ⟨cs[j]'(by omega), ys[j]'(by omega), List.getElem?_eq_getElem (by omega), ?_⟩
  rw [List.getElem?_eq_getElem (by omega)] at hd; exact hd
end
end Go.Proofs.YtigjingielnaoaaDoor

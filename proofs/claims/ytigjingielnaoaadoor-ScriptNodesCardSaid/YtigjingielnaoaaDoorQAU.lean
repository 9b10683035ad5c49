/- The law swinglelaw35.ScriptNodes: its walk. -/
import Derived.Deep.CutBlock
import Derived.Test.YtigjingielnaoaaDoorScLv
import Derived.Test.YtigjingielnaoaaDoorQAT
import Derived.Deep.Slices
import Derived.Deep.Fields
import Derived.ChangeSame
import Derived.ProofKit
import Derived.OpenShut
namespace Go.Proofs.YtigjingielnaoaaDoor
set_option linter.unusedVariables false
set_option linter.unusedSimpArgs false
set_option linter.unusedSectionVars false
open Go.RowKit
set_option linter.unusedVariables false
set_option linter.unusedSimpArgs false

set_option maxRecDepth 100000 in
set_option maxHeartbeats 3200000 in
theorem lives35_any (w : World) : Calls Tryd.prog 13 #[] w fun e w' => e = .returned (.bool true) ∧ Upd [] w w' := by
  have HL := Lib.hid line0
  have hs : strOf (joinC 9 [[115, 121, 110, 99], [110, 101, 119, 101, 114]]) = ⟨#[115, 121, 110, 99, 9, 110, 101, 119, 101, 114]⟩ := rfl
  rw [hs] at HL
  unfold ev0 at HL
  clear hs
  go_enter Tryd.func13, Tryd.ntmps13
  go_wp2_with fail
  refine (HL.out _).mono ?_
  rintro e w1 ⟨rfl, hu1⟩
  go_wp2
  go_ret
  exact ⟨rfl, hu1⟩
theorem text_len {n : NodN} (h : n.D.size ≤ 400) : n.text.length ≤ 2000 := by
  unfold NodN.text
  split
  · simp
  · split
    · simp
    · split
      · rw [List.length_append, permTo_len]; simp
      · rw [joinC_tot]
        have h1 := hexT_len (bytesOf n.D)
        rw [length_bytesOf] at h1
        have h2 := dosTextP_len n.t
        have h4 := permTo_len n.m.toNat 9
        unfold fileW4
        simp only [totC, List.map_cons, List.map_nil, List.sum_cons, List.sum_nil, List.length_cons, List.length_nil]
        omega
theorem text_lenD {n : NodN} (h : n.text.length ≤ 1000) (hok : nodeErr n.k n.m n.t n.D = 0) : n.D.size ≤ 1000 := by
  rcases nodeErr_zero hok with ⟨_, _, _, h0⟩ | ⟨_, _, _, _, h0⟩ | ⟨h1, h2, h3, h4, h5⟩
  · rw [empty_of h0]; decide
  · rw [empty_of h0]; decide
  · unfold NodN.text at h
    rw [if_neg (by omega), if_neg (by omega), if_neg (by omega), joinC_tot] at h
    have h6 : (hexT (bytesOf n.D)).length ≥ n.D.size := by
      unfold hexT
      split
      · rename_i h7
        have := congrArg List.length h7
        rw [length_bytesOf] at this
        have h8 : n.D.size = 0 := this
        omega
      · rw [hexF_len, length_bytesOf]; omega
    unfold fileW4 at h
    simp only [totC, List.map_cons, List.map_nil, List.sum_cons, List.sum_nil, List.length_cons, List.length_nil] at h
    omega
set_option maxRecDepth 100000 in
set_option maxHeartbeats 12800000 in
theorem law_scriptNodes (k m : Int) (t : Nat) (E s0 : ByteArray) (w : World) (ht : t < 4294967296) (hE : E.size ≤ 9223372036854775807) (hs0 : s0.size ≤ 9223372036854775807) :
    Calls Tryd.prog 4 #[nodeV k m t E, .string s0] w fun e w' => e = .returned (.bool true) ∧ Upd [] w w' := by
  obtain ⟨n1, hn1⟩ : ∃ n, n = min E.size 400 := ⟨_, rfl⟩
  obtain ⟨n2, hn2⟩ : ∃ n, n = min s0.size 1000 := ⟨_, rfl⟩
  have e1 : min (E.size : Int) 400 = (n1 : Int) := by omega
  have e2 : min (s0.size : Int) 1000 = (n2 : Int) := by omega
  have b1 : n1 ≤ E.size := by omega
  have b2 : n2 ≤ s0.size := by omega
  have HS1 : Hid ((E.extract 0 n1).size ≤ 400) := Lib.hid (by rw [ByteArray.size_extract]; omega)
  have HS2 : Hid ((s0.extract 0 n2).size ≤ 1000) := Lib.hid (by rw [ByteArray.size_extract]; omega)
  clear hn1 hn2
  unfold nodeV
  go_enter Tryd.func4, Tryd.ntmps4
  go_upto_region 1 with fail
  have hA := Blk.new w [.int .i64 k, .int .i64 m, .int .u32 (t : Nat), .string E] 31
  have hU := (Upd.refl [] w).alloc (.cells ([.int .i64 k, .int .i64 m, .int .u32 (t : Nat), .string E]).toArray 31)
  change Code.wp _ _ _ _ (w.alloc (.cells ([.int .i64 k, .int .i64 m, .int .u32 (t : Nat), .string E]).toArray 31))
  generalize w.alloc (.cells ([.int .i64 k, .int .i64 m, .int .u32 (t : Nat), .string E]).toArray 31) = w1 at *
  obtain ⟨b, hb⟩ : ∃ b, w.heap.size = b := ⟨_, rfl⟩
  rw [hb] at hA ⊢
  have HW0 := Lib.hid (show w.heap.size ≤ b by omega)
  clear hb
  go_cut [1] (fun s1 wx => s1 = .string (s0.extract 0 n2) ∧ Blk wx b [.int .i64 k, .int .i64 m, .int .u32 (t : Nat), .string (E.extract 0 n1)] 31 ∧ Upd [] w wx)
  case first =>
    have a0 := hA.cell 0 rfl
    have a1 := hA.cell 1 rfl
    have a2 := hA.cell 2 rfl
    have a3 := hA.cell 3 rfl
    have f3 := hA.frz 3
    have HA := Lib.hid hA
    have HU := Lib.hid hU
    clear hA hU
    go_region_law fail
    all_goals go_wp2
    all_goals go_meet
    all_goals exact ⟨rfl, (HA.out.drew).set 3 _, (HU.out.drew).setCell (.inr HW0.out) _⟩
  case rest =>
    obtain ⟨rfl, hA, hU⟩ := hcut
    generalize E.extract 0 n1 = D at *
    generalize s0.extract 0 n2 = S at *
    clear e1 e2 b1 b2 hE hs0
    have HT1 := Lib.hid (fun w => rtext35_any k m t D w ht (Nat.le_trans HS1.out (by omega)))
    have HT2 := Lib.hid (fun w => stext_any k m t D w ht (Nat.le_trans HS1.out (by omega)))
    obtain ⟨TX, hTX⟩ : ∃ TX, strOf (NodN.mk k m t D).text = TX := ⟨_, rfl⟩
    have hb : bytesOf TX = (NodN.mk k m t D).text := by rw [← hTX, bytesOf_strOf _ (NodN.text_lt _)]
    have hz : TX.size ≤ 2000 := by rw [← hTX, size_strOf]; exact text_len (n := NodN.mk k m t D) HS1.out
    have HN1 := Lib.hid (fun w => snode_any TX w (by omega))
    have HN2 := Lib.hid (fun w => snode_any S w (by have := HS2.out; omega))
    rw [hb] at HN1
    rw [hTX] at HT1 HT2
    obtain ⟨PA, hPA⟩ : ∃ PA, nodN (NodN.mk k m t D).text = PA := ⟨_, rfl⟩
    obtain ⟨OA, hOA⟩ : ∃ OA, nodOk (NodN.mk k m t D).text = OA := ⟨_, rfl⟩
    have HA : Hid ((OA = true → PA = ⟨k, m, t, D⟩ ∧ TX.toList ≠ []) ∧ (OA = false → TX = ⟨#[]⟩)) := Lib.hid (by
      have h1 := nod_ok (n := ⟨k, m, t, D⟩) ht
      rw [hOA, hPA] at h1
      have h2 := text_empty (n := ⟨k, m, t, D⟩) ht
      refine ⟨fun h => ?_, fun h => ?_⟩
      · have h3 : nodeErr k m t D = 0 := of_decide_eq_true (h1.1.symm.trans h)
        refine ⟨h1.2 h3, fun h4 => ?_⟩
        have h5 := (nod_text (n := ⟨k, m, t, D⟩) ht h3).2
        apply h5
        rw [← hb]
        have := congrArg List.length h4
        apply List.eq_nil_of_length_eq_zero
        rw [length_bytesOf]
        rw [ByteArray.toList_eq] at this
        simpa using this
      · have h3 : nodeErr k m t D ≠ 0 := of_decide_eq_false (h1.1.symm.trans h)
        rw [← hTX, h2.2 h3]
        rfl)
    rw [hPA, hOA] at HN1
    clear hTX hb hz hPA hOA
    have HB : Hid (nodOk (bytesOf S) = true → (nodN (bytesOf S)).D.size ≤ 1000 ∧ strOf (nodN (bytesOf S)).text = S) := Lib.hid (fun h => by
      have h1 := nodN_ok h
      refine ⟨text_lenD (by rw [h1, length_bytesOf]; exact HS2.out) ?_, by rw [h1, strOf_bytesOf]⟩
      cases Nat.eq_zero_or_pos (nodeErr (nodN (bytesOf S)).k (nodN (bytesOf S)).m (nodN (bytesOf S)).t (nodN (bytesOf S)).D) with
      | inl h2 => exact h2
      | inr h2 =>
        exfalso
        have h3 : (nodN (bytesOf S)).text = [] := (text_empty (nodN_lt _)).2 (by omega)
        unfold nodOk at h
        have h4 := (of_decide_eq_true h).1
        rw [← h1] at h4
        exact h4 h3)
    have HBN : Hid (nodOk (bytesOf S) = false → nodN (bytesOf S) = NodN.no) := Lib.hid nodN_no
    have HBT := Lib.hid (nodN_lt (bytesOf S))
    generalize nodOk (bytesOf S) = OB at *
    generalize nodN (bytesOf S) = PB at *
    obtain ⟨k2, m2, t2, D2⟩ := PB
    obtain ⟨k1, m1, t1, D1⟩ := PA
    have HRB : Hid (OB = true → ∀ w, Calls Tryd.prog 10 #[nodeV k2 m2 t2 D2] w fun e w' => e = .returned (.string S) ∧ Upd [] w w') := Lib.hid (fun h w => by
      have h1 := HB.out h
      have h2 := rtext35_any k2 m2 t2 D2 w HBT.out h1.1
      rw [h1.2] at h2
      exact h2)
    unfold NodN.v at HN1 HN2
    unfold nodeV at HT1 HT2 HN1 HN2 HRB
    clear HB
    have HL := Lib.hid lives35_any
    have a0 := hA.cell 0 rfl
    have a1 := hA.cell 1 rfl
    have a2 := hA.cell 2 rfl
    have a3 := hA.cell 3 rfl
    go_wp2_with fail
    refine (HT1.out _).mono ?_
    rintro e w2 ⟨rfl, hu2⟩
    have hA2 := hA.upd hu2 (by simp)
    have hU2 := hU.then hu2
    clear a0 a1 a2 a3 hA hU hu2 HT1
    go_wp2_with fail
    refine (HN1.out _).mono ?_
    rintro e w3 ⟨rfl, hu3⟩
    have hA3 := hA2.upd hu3 (by simp)
    have hU3 := hU2.then hu3
    clear hA2 hU2 hu3 HN1
    go_upto_region 4 with fail
    have hA4 := hA3.alloc (.cells ([.int .i64 k1, .int .i64 m1, .int .u32 (t1 : Nat), .string D1]).toArray 31)
    have hP4 := Blk.new w3 [.int .i64 k1, .int .i64 m1, .int .u32 (t1 : Nat), .string D1] 31
    have hU4 := hU3.alloc (.cells ([.int .i64 k1, .int .i64 m1, .int .u32 (t1 : Nat), .string D1]).toArray 31)
    have HW3 := Lib.hid (show w.heap.size ≤ w3.heap.size from hU3.size)
    change Code.wp _ _ _ _ (w3.alloc (.cells ([.int .i64 k1, .int .i64 m1, .int .u32 (t1 : Nat), .string D1]).toArray 31))
    generalize w3.alloc (.cells ([.int .i64 k1, .int .i64 m1, .int .u32 (t1 : Nat), .string D1]).toArray 31) = w4 at *
    generalize w3.heap.size = p at *
    clear hA3 hU3
    go_wp2_with fail
    refine (HN2.out _).mono ?_
    rintro e w5 ⟨rfl, hu5⟩
    have hA5 := hA4.upd hu5 (by simp)
    have hP5 := hP4.upd hu5 (by simp)
    have hU5 := hU4.then hu5
    clear hA4 hP4 hU4 hu5 HN2
    go_upto_region 5 with fail
    have hA6 := hA5.alloc (.cells ([.int .i64 k2, .int .i64 m2, .int .u32 (t2 : Nat), .string D2]).toArray 31)
    have hP6 := hP5.alloc (.cells ([.int .i64 k2, .int .i64 m2, .int .u32 (t2 : Nat), .string D2]).toArray 31)
    have hQ6 := Blk.new w5 [.int .i64 k2, .int .i64 m2, .int .u32 (t2 : Nat), .string D2] 31
    have hU6 := hU5.alloc (.cells ([.int .i64 k2, .int .i64 m2, .int .u32 (t2 : Nat), .string D2]).toArray 31)
    change Code.wp _ _ _ _ (w5.alloc (.cells ([.int .i64 k2, .int .i64 m2, .int .u32 (t2 : Nat), .string D2]).toArray 31))
    generalize w5.alloc (.cells ([.int .i64 k2, .int .i64 m2, .int .u32 (t2 : Nat), .string D2]).toArray 31) = w6 at *
    generalize w5.heap.size = q at *
    clear hA5 hP5 hU5
    have a0 := hA6.cell 0 rfl
    have a1 := hA6.cell 1 rfl
    have a2 := hA6.cell 2 rfl
    have a3 := hA6.cell 3 rfl
    go_wp2_with fail
    refine (HT2.out _).mono ?_
    rintro e w7 ⟨rfl, hu7⟩
    have hA7 := hA6.upd hu7 (by simp)
    have hP7 := hP6.upd hu7 (by simp)
    have hQ7 := hQ6.upd hu7 (by simp)
    have hU7 := hU6.then hu7
    clear hA6 hP6 hQ6 hU6 hu7 HT2 a0 a1 a2 a3
    have a0 := hA7.cell 0 rfl
    have a1 := hA7.cell 1 rfl
    have a2 := hA7.cell 2 rfl
    have a3 := hA7.cell 3 rfl
    have p0 := hP7.cell 0 rfl
    have p1 := hP7.cell 1 rfl
    have p2 := hP7.cell 2 rfl
    have p3 := hP7.cell 3 rfl
    have q0 := hQ7.cell 0 rfl
    have q1 := hQ7.cell 1 rfl
    have q2 := hQ7.cell 2 rfl
    have q3 := hQ7.cell 3 rfl
    have HQ7 := Lib.hid hQ7
    have HU7 := Lib.hid hU7
    clear hA7 hP7 hQ7 hU7
    cases OA with
    | true =>
      have hx := (HA.out.1 (by trivial)).1
      have hne : TX.toList.isEmpty = false := by
        have := (HA.out.1 (by trivial)).2
        cases h : TX.toList with
        | nil => exact absurd h this
        | cons => rfl
      obtain ⟨h1, h2, h3, h4⟩ := NodN.mk.inj hx
      subst h1 h2 h3 h4
      clear hx
      go_upto_region 7 with fail
      cases OB with
      | true =>
        go_wp2_with fail
        refine (HRB.out (by trivial) _).mono ?_
        rintro e w8 ⟨rfl, hu8⟩
        have HU8 := Lib.hid (HU7.out.then hu8)
        clear a0 a1 a2 a3 p0 p1 p2 p3 q0 q1 q2 q3
        go_wp2_with fail
        refine (HL.out _).mono ?_
        rintro e w9 ⟨rfl, hu9⟩
        go_wp2
        go_returns
        exact ⟨rfl, HU8.out.then hu9⟩
      | false =>
        have hy := HBN.out (by trivial)
        obtain ⟨h1, h2, h3, h4⟩ := NodN.mk.inj hy
        subst h1 h2 h3 h4
        clear hy
        go_wp2_with fail
        refine (HL.out _).mono ?_
        rintro e w9 ⟨rfl, hu9⟩
        go_wp2
        go_returns
        exact ⟨rfl, HU7.out.then hu9⟩
    | false =>
      have hx := HA.out.2 (by trivial)
      subst hx
      go_upto_region 7 with fail
      cases OB with
      | true =>
        go_wp2_with fail
        refine (HRB.out (by trivial) _).mono ?_
        rintro e w8 ⟨rfl, hu8⟩
        have HU8 := Lib.hid (HU7.out.then hu8)
        clear a0 a1 a2 a3 p0 p1 p2 p3 q0 q1 q2 q3
        go_wp2_with fail
        refine (HL.out _).mono ?_
        rintro e w9 ⟨rfl, hu9⟩
        go_wp2
        go_returns
        exact ⟨rfl, HU8.out.then hu9⟩
      | false =>
        have hy := HBN.out (by trivial)
        obtain ⟨h1, h2, h3, h4⟩ := NodN.mk.inj hy
        subst h1 h2 h3 h4
        clear hy
        go_wp2_with fail
        refine (HL.out _).mono ?_
        rintro e w9 ⟨rfl, hu9⟩
        go_wp2
        go_returns
        exact ⟨rfl, HU7.out.then hu9⟩
end Go.Proofs.YtigjingielnaoaaDoor
namespace Go.Proofs.YtigjingielnaoaaDoor
set_option linter.unusedVariables false
set_option linter.unusedSimpArgs false
set_option linter.unusedSectionVars false
open Go.ChangeShapes Go.WideShapes Go.Deep

theorem add_zero (a : Addr) : a.add 0 = a := by unfold Addr.add; simp

section
variable {H : Type} {enc : TypeId × Value → H} {P : Program} {w : World} {base : Nat} {spare : Nat → Bool} {held : Bool}
/-- A struct by value: each field reads as a datum of the field's type. -/
theorem open_rec {t : TypeId} {fs : Array Field} {fuel : Nat} {cs : List Value} {x : DataW H × List MemPlace} (he : P.underlying t = some (.struct fs)) (hone : oneCellFields P fs = true) (hlen : cs.length = fs.size)
    (h : DataW.trod enc P w base spare held fuel t cs = some x) :
    ∃ n, ∀ (j : Nat) (f : Field), fs[j]? = some f → ∃ u y, cs[j]? = some u ∧ DataW.trod enc P w base spare held n f.type [u] = some y := by
  obtain ⟨ys, k, _, _, _, hyl, hf⟩ := DataW.trod_struct he h
  refine ⟨k, fun j f hj => ?_⟩
  obtain ⟨ho, hk⟩ := hone_of hone j f hj
  have hjl : j < fs.size := (Array.getElem?_eq_some_iff.1 hj).1
  have hd := hf j f hj
  rw [ho, hk, List.drop_eq_getElem_cons (by omega)] at hd
  refine ⟨cs[j]'(by omega), ys[j]'(by omega), List.getElem?_eq_getElem (by omega), ?_⟩
  rw [List.getElem?_eq_getElem (by omega)] at hd; exact hd
end
end Go.Proofs.YtigjingielnaoaaDoor

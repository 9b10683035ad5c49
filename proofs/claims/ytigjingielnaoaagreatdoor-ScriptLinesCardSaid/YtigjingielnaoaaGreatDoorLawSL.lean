/- The statement ScriptLines: its walk. -/
import Derived.Test.YtigjingielnaoaaGreatDoorSRd
import Derived.Test.YtigjingielnaoaaGreatDoorQBD
import Derived.Test.YtigjingielnaoaaGreatDoorRLn
import Derived.Test.YtigjingielnaoaaGreatDoorLawSN
namespace Go.Proofs.YtigjingielnaoaaGreatDoor
set_option linter.unusedVariables false
set_option linter.unusedSimpArgs false
set_option linter.unusedSectionVars false
open Go.RowKit
set_option linter.unusedVariables false
set_option linter.unusedSimpArgs false

/-- An event with short texts. -/
def lightE (e : EvN) : Bool := decide (e.p.size ≤ 300) && decide (e.q.size ≤ 300) && decide (e.D.size ≤ 400) && decide (e.l.length ≤ 60)
theorem light_any (e : EvN) (w : World) (hv : IntsAt w e.v e.l) : Calls Tryz.prog 5 #[e.val] w fun r w' => r = .returned (.bool (lightE e)) ∧ Upd [] w w' := by
  obtain ⟨op, p, q, k, m, t, D, n, v, l⟩ := e
  dsimp only at hv
  obtain ⟨va, vc, rfl, hv1, hv2⟩ := hv
  clear hv1 hv2
  have HV : Hid (lightE ⟨op, p, q, k, m, t, D, n, .slice va l.length vc, l⟩ = (decide (p.size ≤ 300) && decide (q.size ≤ 300) && decide (D.size ≤ 400) && decide (l.length ≤ 60))) := Lib.hid rfl
  unfold EvN.val EvN.cells
  dsimp only
  generalize lightE ⟨op, p, q, k, m, t, D, n, .slice va l.length vc, l⟩ = LL at *
  generalize l.length = len at *
  have HB0 := Lib.hid (Blk.new w [.int .i64 op, .string p, .string q, .int .i64 k, .int .i64 m, .int .u32 (t : Nat), .string D, .int .i64 n, .slice va len vc] 27)
  by_cases h1 : p.size ≤ 300
  · by_cases h2 : q.size ≤ 300
    · by_cases h3 : D.size ≤ 400
      · have HL : Hid (LL = decide ((len : Int) ≤ 60)) := Lib.hid (by rw [HV.out]; simp [h1, h2, h3]; omega)
        clear HV
        go_enter Tryz.func5, Tryz.ntmps5
        go_wp2
        go_ret
        exact ⟨by rw [HL.out]; rfl, (Upd.refl _ _).alloc _⟩
      · have HL : Hid (LL = false) := Lib.hid (by rw [HV.out]; simp [h1, h2, h3])
        clear HV
        go_enter Tryz.func5, Tryz.ntmps5
        go_wp2
        go_ret
        exact ⟨by rw [HL.out]; rfl, (Upd.refl _ _).alloc _⟩
    · have HL : Hid (LL = false) := Lib.hid (by rw [HV.out]; simp [h1, h2])
      clear HV
      go_enter Tryz.func5, Tryz.ntmps5
      go_wp2
      go_ret
      exact ⟨by rw [HL.out]; rfl, (Upd.refl _ _).alloc _⟩
  · have HL : Hid (LL = false) := Lib.hid (by rw [HV.out]; simp [h1])
    clear HV
    go_enter Tryz.func5, Tryz.ntmps5
    go_wp2
    go_ret
    exact ⟨by rw [HL.out]; rfl, (Upd.refl _ _).alloc _⟩
theorem argsE_light {e : EvN} (h : mayE e = true) (hD : e.D.size ≤ 400) : ∀ p ∈ nameN e.op :: argsE e, p.length ≤ 2000 := by
  intro p hp
  have w1 : ∀ {S : ByteArray}, rightP (bytesOf S) = true → (bytesOf S).length ≤ 2000 := fun {S} hS => by have := rightP_len hS; omega
  rcases List.mem_cons.1 hp with rfl | hp
  · have := nameN_len e.op; omega
  · unfold argsE at hp
    unfold mayE at h
    by_cases h1 : e.op = 1
    · rw [if_pos h1] at h
      rw [if_pos (.inl h1)] at hp
      simp only [Bool.and_eq_true, decide_eq_true_eq] at h
      simp only [List.mem_cons, List.not_mem_nil, or_false] at hp
      rcases hp with rfl | rfl
      · exact w1 h.1.1
      · exact text_len (n := ⟨e.k, e.m, e.t, e.D⟩) hD
    · rw [if_neg h1] at h
      by_cases h4 : e.op = 4
      · rw [if_pos h4] at h
        rw [if_pos (.inr h4)] at hp
        simp only [Bool.and_eq_true, decide_eq_true_eq] at h
        simp only [List.mem_cons, List.not_mem_nil, or_false] at hp
        rcases hp with rfl | rfl
        · exact w1 h.1
        · exact text_len (n := ⟨e.k, e.m, e.t, e.D⟩) hD
      · rw [if_neg h4] at h
        rw [if_neg (by omega)] at hp
        by_cases h2 : e.op = 2
        · rw [if_pos h2] at h hp
          simp only [List.mem_cons, List.not_mem_nil, or_false] at hp
          rw [hp]; exact w1 h
        · rw [if_neg h2] at h hp
          by_cases h3 : e.op = 3
          · rw [if_pos h3] at h hp
            simp only [Bool.and_eq_true] at h
            simp only [List.mem_cons, List.not_mem_nil, or_false] at hp
            rcases hp with rfl | rfl
            · exact w1 h.1
            · exact w1 h.2
          · rw [if_neg h3] at h hp
            by_cases h5 : e.op = 5
            · rw [if_pos h5] at h hp
              simp only [List.mem_cons, List.not_mem_nil, or_false] at hp
              rw [hp]
              have := polN_len e.n; omega
            · rw [if_neg h5] at h hp
              by_cases h6 : e.op = 11 ∨ e.op = 12 ∨ e.op = 13
              · rw [if_pos h6] at h hp
                have h := of_decide_eq_true h
                simp only [List.mem_cons, List.not_mem_nil, or_false] at hp
                rw [hp]
                have := decZ_len (n := e.n) (by omega) (by omega); omega
              · rw [if_neg h6] at h hp
                by_cases h7 : e.op = 14
                · rw [if_pos h7] at h hp
                  have h := of_decide_eq_true h
                  simp only [List.mem_cons, List.not_mem_nil, or_false] at hp
                  rw [hp]
                  have := listP_bd h.2 h.1; omega
                · rw [if_neg h7] at hp
                  cases hp
theorem lineE_light {e : EvN} (hD : e.D.size ≤ 400) : (lineE e).length ≤ 10000 := by
  unfold lineE
  split
  · rename_i h
    have hm := (rightE_iff.1 h).1
    have h1 := totC_le 2000 (nameN e.op :: argsE e) (argsE_light hm hD)
    have h2 := argsE_count e
    rw [joinC_tot]
    rw [List.length_cons] at *
    have h3 : (2000 + 1) * ((argsE e).length + 1) ≤ (2000 + 1) * 3 := Nat.mul_le_mul_left _ (by omega)
    omega
  · simp
theorem fillE_D (o : Int) (w : List (List Nat)) (B : Nat) (hw : ∀ p ∈ w, p.length ≤ B) : 2 * (fillE o w).D.size ≤ B := by
  unfold fillE
  by_cases h : w = []
  · rw [if_pos h]; simp [ByteArray.size]
  · rw [if_neg h]
    dsimp only
    have h2 : (w.getLastD []).length ≤ B := by
      have hl : 0 < w.length := List.length_pos_iff.2 h
      rw [lastD_at w hl]
      exact hw _ (List.getElem_mem _)
    generalize w.getLastD [] = L at *
    unfold nodN
    split
    · unfold NodN.pre
      split
      · simp [ByteArray.size]
      · split
        · show 2 * (strOf (bytesP ((splitC 32 L).getD 4 []))).size ≤ B
          rw [size_strOf]
          unfold bytesP
          rw [bytesN_len]
          have h4 : ((splitC 32 L).getD 4 []).length ≤ L.length := by
            rw [List.getD_eq_getElem?_getD]
            by_cases h4 : 4 < (splitC 32 L).length
            · rw [List.getElem?_eq_getElem h4]
              exact (splitC_mem 32 L _ (List.getElem_mem h4)).2
            · rw [List.getElem?_eq_none (by omega)]; simp
          omega
        · simp [NodN.no, ByteArray.size]
    · simp [NodN.no, ByteArray.size]
theorem bareE_D {e : EvN} {B : Nat} (h : 2 * e.D.size ≤ B) : 2 * (bareE e).D.size ≤ B := by
  have z : 2 * (⟨#[]⟩ : ByteArray).size ≤ B := by simp [ByteArray.size]
  unfold bareE
  repeat' split
  all_goals first | exact h | exact z
theorem readR_D (l : List Nat) : 2 * (readR l).D.size ≤ l.length := by
  unfold readR
  split
  · exact bareE_D (fillE_D _ _ _ (fun p hp => (splitC_mem 9 l p (List.mem_of_mem_tail hp)).2))
  · simp [EvN.no, ByteArray.size]
theorem readR_bd (l : List Nat) : (readR l).p.size ≤ l.length ∧ (readR l).q.size ≤ l.length ∧ (readR l).l.length ≤ l.length + 1 ∧ (readR l).t < 4294967296 := by
  unfold readR
  split
  · have := readE_bd l
    exact ⟨this.1, this.2.1, this.2.2.2, readE_lt l⟩
  · simp [EvN.no, ByteArray.size]
theorem nameN_empty {n : Int} (h : ¬ (1 ≤ n ∧ n ≤ 14)) : nameN n = [] := if_neg h
set_option maxRecDepth 100000 in
set_option maxHeartbeats 12800000 in
theorem law_scriptLines (e o : EvN) (line : ByteArray) (w : World) (hve : IntsAt w e.v e.l) (hvo : IntsAt w o.v o.l) (hle : e.l.length ≤ 9223372036854775807) (hlo : o.l.length ≤ 9223372036854775807) (hte : e.t < 4294967296) (hto : o.t < 4294967296) (hls : line.size ≤ 9223372036854775807) :
    Calls Tryz.prog 3 #[e.val, o.val, .string line] w fun r w' => r = .returned (.bool true) ∧ Upd [] w w' := by
  have HL := Lib.hid lives35_any
  have HLE := Lib.hid (fun z (hz : Upd [] w z) => light_any e z (hve.upd hz))
  have HLO := Lib.hid (fun z (hz : Upd [] w z) => light_any o z (hvo.upd hz))
  obtain ⟨n2, hn2⟩ : ∃ n, n = min line.size 1500 := ⟨_, rfl⟩
  have e2 : min (line.size : Int) 1500 = (n2 : Int) := by omega
  have b2 : n2 ≤ line.size := by omega
  have HSZ : Hid ((line.extract 0 n2).size ≤ 1500) := Lib.hid (by rw [ByteArray.size_extract]; omega)
  clear hn2
  have HB0 := Lib.hid ((Blk.new w e.cells 27).alloc (.cells o.cells.toArray 27))
  have HC0 : Hid (Blk ((w.alloc (.cells e.cells.toArray 27)).alloc (.cells o.cells.toArray 27)) (w.heap.size + 1) o.cells 27) := Lib.hid (by
    have h := Blk.new (w.alloc (.cells e.cells.toArray 27)) o.cells 27
    simpa using h)
  have HU0 := Lib.hid (((Upd.refl [] w).alloc (.cells e.cells.toArray 27)).alloc (.cells o.cells.toArray 27))
  cases hl1 : lightE e with
  | false =>
    rw [hl1] at HLE
    clear hl1 hve hvo hle hlo hte hto
    obtain ⟨eop, ep, eq, ek, em, et, eD, en, ev, el⟩ := e
    obtain ⟨oop, op, oq, ok, om, ot, oD, on, ov, ol⟩ := o
    unfold EvN.val EvN.cells at *
    dsimp only at *
    go_enter Tryz.func3, Tryz.ntmps3
    go_upto_region 2 with fail
    change Code.wp _ _ _ _ ((w.alloc (.cells #[.int .i64 eop, .string ep, .string eq, .int .i64 ek, .int .i64 em, .int .u32 (et : Nat), .string eD, .int .i64 en, ev] 27)).alloc (.cells #[.int .i64 oop, .string op, .string oq, .int .i64 ok, .int .i64 om, .int .u32 (ot : Nat), .string oD, .int .i64 on, ov] 27))
    generalize (w.alloc (.cells #[.int .i64 eop, .string ep, .string eq, .int .i64 ek, .int .i64 em, .int .u32 (et : Nat), .string eD, .int .i64 en, ev] 27)).alloc (.cells #[.int .i64 oop, .string op, .string oq, .int .i64 ok, .int .i64 om, .int .u32 (ot : Nat), .string oD, .int .i64 on, ov] 27) = w0 at *
    generalize w.heap.size = q0 at *
    have c0 := HB0.out.cell 0 rfl; have c1 := HB0.out.cell 1 rfl; have c2 := HB0.out.cell 2 rfl; have c3 := HB0.out.cell 3 rfl; have c4 := HB0.out.cell 4 rfl; have c5 := HB0.out.cell 5 rfl; have c6 := HB0.out.cell 6 rfl; have c7 := HB0.out.cell 7 rfl; have c8 := HB0.out.cell 8 rfl; have d0 := HC0.out.cell 0 rfl; have d1 := HC0.out.cell 1 rfl; have d2 := HC0.out.cell 2 rfl; have d3 := HC0.out.cell 3 rfl; have d4 := HC0.out.cell 4 rfl; have d5 := HC0.out.cell 5 rfl; have d6 := HC0.out.cell 6 rfl; have d7 := HC0.out.cell 7 rfl; have d8 := HC0.out.cell 8 rfl
    go_wp2_with fail
    refine (HLE.out _ HU0.out).mono ?_
    rintro r w1 ⟨rfl, hu1⟩
    go_wp2_with fail
    refine (HL.out _).mono ?_
    rintro r w2 ⟨rfl, hu2⟩
    go_wp2
    go_ret
    exact ⟨rfl, (HU0.out.then hu1).then hu2⟩
  | true =>
    cases hl2 : lightE o with
    | false =>
      rw [hl1] at HLE
      rw [hl2] at HLO
      clear hl1 hl2 hve hvo hle hlo hte hto
      obtain ⟨eop, ep, eq, ek, em, et, eD, en, ev, el⟩ := e
      obtain ⟨oop, op, oq, ok, om, ot, oD, on, ov, ol⟩ := o
      unfold EvN.val EvN.cells at *
      dsimp only at *
      go_enter Tryz.func3, Tryz.ntmps3
      go_upto_region 2 with fail
      change Code.wp _ _ _ _ ((w.alloc (.cells #[.int .i64 eop, .string ep, .string eq, .int .i64 ek, .int .i64 em, .int .u32 (et : Nat), .string eD, .int .i64 en, ev] 27)).alloc (.cells #[.int .i64 oop, .string op, .string oq, .int .i64 ok, .int .i64 om, .int .u32 (ot : Nat), .string oD, .int .i64 on, ov] 27))
      generalize (w.alloc (.cells #[.int .i64 eop, .string ep, .string eq, .int .i64 ek, .int .i64 em, .int .u32 (et : Nat), .string eD, .int .i64 en, ev] 27)).alloc (.cells #[.int .i64 oop, .string op, .string oq, .int .i64 ok, .int .i64 om, .int .u32 (ot : Nat), .string oD, .int .i64 on, ov] 27) = w0 at *
      obtain ⟨q0, hq0⟩ : ∃ q0, w.heap.size = q0 := ⟨_, rfl⟩
      obtain ⟨q1, hq1⟩ : ∃ q1, q0 + 1 = q1 := ⟨_, rfl⟩
      rw [hq0] at HB0 HC0 ⊢
      rw [hq1] at HC0 ⊢
      clear hq0 hq1
      have c0 := HB0.out.cell 0 rfl; have c1 := HB0.out.cell 1 rfl; have c2 := HB0.out.cell 2 rfl; have c3 := HB0.out.cell 3 rfl; have c4 := HB0.out.cell 4 rfl; have c5 := HB0.out.cell 5 rfl; have c6 := HB0.out.cell 6 rfl; have c7 := HB0.out.cell 7 rfl; have c8 := HB0.out.cell 8 rfl; have d0 := HC0.out.cell 0 rfl; have d1 := HC0.out.cell 1 rfl; have d2 := HC0.out.cell 2 rfl; have d3 := HC0.out.cell 3 rfl; have d4 := HC0.out.cell 4 rfl; have d5 := HC0.out.cell 5 rfl; have d6 := HC0.out.cell 6 rfl; have d7 := HC0.out.cell 7 rfl; have d8 := HC0.out.cell 8 rfl
      go_wp2_with fail
      refine (HLE.out _ HU0.out).mono ?_
      rintro r w1 ⟨rfl, hu1⟩
      have HC1 := Lib.hid (HC0.out.upd hu1 (by simp))
      have HU1 := Lib.hid (HU0.out.then hu1)
      clear hu1 c0 d0 c1 d1 c2 d2 c3 d3 c4 d4 c5 d5 c6 d6 c7 d7 c8 d8
      have d0 := HC1.out.cell 0 rfl; have d1 := HC1.out.cell 1 rfl; have d2 := HC1.out.cell 2 rfl; have d3 := HC1.out.cell 3 rfl; have d4 := HC1.out.cell 4 rfl; have d5 := HC1.out.cell 5 rfl; have d6 := HC1.out.cell 6 rfl; have d7 := HC1.out.cell 7 rfl; have d8 := HC1.out.cell 8 rfl
      go_wp2_with fail
      refine (HLO.out _ HU1.out).mono ?_
      rintro r w2 ⟨rfl, hu2⟩
      go_wp2_with fail
      refine (HL.out _).mono ?_
      rintro r w3 ⟨rfl, hu3⟩
      go_wp2
      go_ret
      exact ⟨rfl, (HU1.out.then hu2).then hu3⟩
    | true =>
      rw [hl1] at HLE
      rw [hl2] at HLO
      have hb1 : e.p.size ≤ 300 ∧ e.q.size ≤ 300 ∧ e.D.size ≤ 400 ∧ e.l.length ≤ 60 := by
        unfold lightE at hl1; simp at hl1; exact ⟨hl1.1.1.1, hl1.1.1.2, hl1.1.2, hl1.2⟩
      have HRL := Lib.hid (fun z (hz : Upd [] w z) => rline35_any e z (hve.upd hz) hle hte (by omega) (by omega) (by omega))
      have HSR := Lib.hid (fun z (hz : Upd [] w z) => sright_any e z (hve.upd hz) hle hte (by omega) (by omega) (by omega))
      have HRR := Lib.hid (fun z (hz : Upd [] w z) => rright35_any e z (hve.upd hz) hle hte (by omega) (by omega) (by omega))
      have HSL := Lib.hid (fun z (hz : Upd [] w z) => sline_any e z (hve.upd hz) hle hte (by omega) (by omega) (by omega))
      have HSS := Lib.hid (fun z (hz : Upd [] w z) => ssame_any e o z (hve.upd hz) (hvo.upd hz) hle hlo)
      have HRS := Lib.hid (fun z (hz : Upd [] w z) => rsame35_any e o z (hve.upd hz) (hvo.upd hz) hle hlo)
      have HNM := Lib.hid (fun z => sname_any e.op z)
      have hll := lineE_light (e := e) hb1.2.2.1
      obtain ⟨L, hL⟩ : ∃ L, lineE e = L := ⟨_, rfl⟩
      have hLlt : ∀ x ∈ L, x < 256 := by rw [← hL]; exact lineE_lt e
      have hbk := line_back (e := e) hte
      have hA0 : rightE e = true → sameE (readR L) e = true := fun h => by
        have h1 := (read_back hte h).2
        have h2 : readOk (lineE e) = true := by rw [hbk]; exact h
        rw [← hL]; unfold readR; rw [if_pos h2]; exact h1
      rw [hL] at HRL HSL hll hbk
      have HRA := sread_any (strOf L)
      rw [bytesOf_strOf L hLlt] at HRA
      have HRA := Lib.hid (fun z => HRA z (by rw [size_strOf]; omega))
      have HAB := readR_bd L
      have HAX := Lib.hid (fun z (hz : Upd [] w z) va (hva : IntsAt z va (readR L).l) => (show Calls Tryz.prog 13 #[((readR L).at va).val, e.val] z fun r w' => r = .returned (.bool (sameE (readR L) e)) ∧ Upd [] z w' from rsame35_any ((readR L).at va) e z hva (hve.upd hz) (by show (readR L).l.length ≤ _; omega) hle))
      rw [hbk] at HRA
      have hSsz := HSZ.out
      obtain ⟨S, hS⟩ : ∃ S, line.extract 0 n2 = S := ⟨_, rfl⟩
      rw [hS] at HSZ hSsz
      have HRB := Lib.hid (fun z => sread_any S z (by omega))
      have hBb := readR_bd (bytesOf S)
      have hBd := readR_D (bytesOf S)
      have hBl := length_bytesOf S
      have HX1 : Hid (readOk (bytesOf S) = true → rightE (readR (bytesOf S)) = true ∧ lineE (readR (bytesOf S)) = bytesOf S) := Lib.hid (fun h => by
        have h1 := readOk_right h
        unfold readR; rw [if_pos h]; exact h1)
      have HX2 : Hid (readOk (bytesOf S) = false → readR (bytesOf S) = EvN.no) := Lib.hid (fun h => by unfold readR; rw [if_neg (by rw [h]; decide)])
      have HBR := Lib.hid (fun z vb (hvb : IntsAt z vb (readR (bytesOf S)).l) => rright35_any ((readR (bytesOf S)).at vb) z hvb (by show (readR (bytesOf S)).l.length ≤ _; omega) hBb.2.2.2 (by show (readR (bytesOf S)).p.size ≤ _; omega) (by show (readR (bytesOf S)).q.size ≤ _; omega) (by show (readR (bytesOf S)).D.size ≤ _; omega))
      have HBL := Lib.hid (fun z vb (hvb : IntsAt z vb (readR (bytesOf S)).l) => rline35_any ((readR (bytesOf S)).at vb) z hvb (by show (readR (bytesOf S)).l.length ≤ _; omega) hBb.2.2.2 (by show (readR (bytesOf S)).p.size ≤ _; omega) (by show (readR (bytesOf S)).q.size ≤ _; omega) (by show (readR (bytesOf S)).D.size ≤ _; omega))
      have HBS := Lib.hid (fun z vb (hvb : IntsAt z vb (readR (bytesOf S)).l) => (show Calls Tryz.prog 13 #[((readR (bytesOf S)).at vb).val, EvN.no.val] z fun r w' => r = .returned (.bool (sameE (readR (bytesOf S)) EvN.no)) ∧ Upd [] z w' from rsame35_any ((readR (bytesOf S)).at vb) EvN.no z hvb (IntsAt.nil z) (by show (readR (bytesOf S)).l.length ≤ _; omega) (by simp [EvN.no])))
      simp only [rightE_at] at HBR
      simp only [lineE_at] at HBL
      have hSS2 : strOf (bytesOf S) = S := strOf_bytesOf S
      have HB1 : Hid (readOk (bytesOf S) = true → rightE (readR (bytesOf S)) = true ∧ strOf (lineE (readR (bytesOf S))) = S) := Lib.hid (fun h => ⟨(HX1.out h).1, by rw [(HX1.out h).2, hSS2]⟩)
      have HB2 : Hid (readOk (bytesOf S) = false → sameE (readR (bytesOf S)) EvN.no = true) := Lib.hid (fun h => by rw [HX2.out h]; exact sameE_refl _)
      clear hSS2 HX1 HX2
      clear hl1 hl2 hve hvo hle hlo hte hto hll hLlt hbk hL hb1 HAB hBb hBd hBl hSsz
      generalize readOk (bytesOf S) = OB at *
      have HA0 := Lib.hid hA0
      clear hA0
      generalize rightE e = OA at *
      generalize sameE e o = SEO at *
      generalize sameE (readR L) e = SAE at *
      generalize rightE (readR (bytesOf S)) = RB at *
      generalize strOf (lineE (readR (bytesOf S))) = LB at *
      generalize sameE (readR (bytesOf S)) EvN.no = SBN at *
      generalize readR L = A at *
      generalize readR (bytesOf S) = B at *
      obtain ⟨SL, hSL⟩ : ∃ SL, strOf L = SL := ⟨_, rfl⟩
      rw [hSL] at HRL HSL HRA
      clear hSL

      obtain ⟨eop, ep, eq, ek, em, et, eD, en, ev, el⟩ := e
      obtain ⟨oop, op, oq, ok, om, ot, oD, on, ov, ol⟩ := o
      obtain ⟨aop, ap, aq, ak, am, at_, aD, an, av0, al⟩ := A
      obtain ⟨bop, bp, bq, bk, bm, bt, bD, bn, bv0, bl⟩ := B
      unfold EvN.val EvN.cells EvN.at at HRA HRB HAX HBR HBL HBS
      unfold EvN.val at HLE HLO HRL HSR HRR HSL HSS HRS ⊢
      unfold EvN.cells at HB0 HC0 HU0 HLE HLO HRL HSR HRR HSL HSS HRS ⊢
      dsimp only at HRA HRB HAX HBR HBL HBS HB0 HC0 HU0 HLE HLO HRL HSR HRR HSL HSS HRS HNM ⊢
      go_enter Tryz.func3, Tryz.ntmps3
      go_upto_region 2 with fail
      change Code.wp _ _ _ _ ((w.alloc (.cells #[.int .i64 eop, .string ep, .string eq, .int .i64 ek, .int .i64 em, .int .u32 (et : Nat), .string eD, .int .i64 en, ev] 27)).alloc (.cells #[.int .i64 oop, .string op, .string oq, .int .i64 ok, .int .i64 om, .int .u32 (ot : Nat), .string oD, .int .i64 on, ov] 27))
      generalize (w.alloc (.cells #[.int .i64 eop, .string ep, .string eq, .int .i64 ek, .int .i64 em, .int .u32 (et : Nat), .string eD, .int .i64 en, ev] 27)).alloc (.cells #[.int .i64 oop, .string op, .string oq, .int .i64 ok, .int .i64 om, .int .u32 (ot : Nat), .string oD, .int .i64 on, ov] 27) = w0 at *
      obtain ⟨q0, hq0⟩ : ∃ q0, w.heap.size = q0 := ⟨_, rfl⟩
      obtain ⟨q1, hq1⟩ : ∃ q1, q0 + 1 = q1 := ⟨_, rfl⟩
      rw [hq0] at HB0 HC0 ⊢
      rw [hq1] at HC0 ⊢
      try rw [hS]
      clear hq0 hq1 hS e2 b2 hls
      have c0 := HB0.out.cell 0 rfl; have c1 := HB0.out.cell 1 rfl; have c2 := HB0.out.cell 2 rfl; have c3 := HB0.out.cell 3 rfl; have c4 := HB0.out.cell 4 rfl; have c5 := HB0.out.cell 5 rfl; have c6 := HB0.out.cell 6 rfl; have c7 := HB0.out.cell 7 rfl; have c8 := HB0.out.cell 8 rfl; have d0 := HC0.out.cell 0 rfl; have d1 := HC0.out.cell 1 rfl; have d2 := HC0.out.cell 2 rfl; have d3 := HC0.out.cell 3 rfl; have d4 := HC0.out.cell 4 rfl; have d5 := HC0.out.cell 5 rfl; have d6 := HC0.out.cell 6 rfl; have d7 := HC0.out.cell 7 rfl; have d8 := HC0.out.cell 8 rfl
      go_wp2_with fail
      refine (HLE.out _ HU0.out).mono ?_
      rintro r w1 ⟨rfl, hu1⟩
      have HB1' := Lib.hid (HB0.out.upd hu1 (by simp))
      have HC1 := Lib.hid (HC0.out.upd hu1 (by simp))
      have HU1 := Lib.hid (HU0.out.then hu1)
      clear hu1 HB0 HC0 HU0 c0 d0 c1 d1 c2 d2 c3 d3 c4 d4 c5 d5 c6 d6 c7 d7 c8 d8
      have c0 := HB1'.out.cell 0 rfl; have c1 := HB1'.out.cell 1 rfl; have c2 := HB1'.out.cell 2 rfl; have c3 := HB1'.out.cell 3 rfl; have c4 := HB1'.out.cell 4 rfl; have c5 := HB1'.out.cell 5 rfl; have c6 := HB1'.out.cell 6 rfl; have c7 := HB1'.out.cell 7 rfl; have c8 := HB1'.out.cell 8 rfl; have d0 := HC1.out.cell 0 rfl; have d1 := HC1.out.cell 1 rfl; have d2 := HC1.out.cell 2 rfl; have d3 := HC1.out.cell 3 rfl; have d4 := HC1.out.cell 4 rfl; have d5 := HC1.out.cell 5 rfl; have d6 := HC1.out.cell 6 rfl; have d7 := HC1.out.cell 7 rfl; have d8 := HC1.out.cell 8 rfl
      go_wp2_with fail
      refine (HLO.out _ HU1.out).mono ?_
      rintro r w2 ⟨rfl, hu2⟩
      have HB2' := Lib.hid (HB1'.out.upd hu2 (by simp))
      have HC2 := Lib.hid (HC1.out.upd hu2 (by simp))
      have HU2 := Lib.hid (HU1.out.then hu2)
      clear hu2 HB1' HC1 HU1 c0 d0 c1 d1 c2 d2 c3 d3 c4 d4 c5 d5 c6 d6 c7 d7 c8 d8 HLE HLO
      have c0 := HB2'.out.cell 0 rfl; have c1 := HB2'.out.cell 1 rfl; have c2 := HB2'.out.cell 2 rfl; have c3 := HB2'.out.cell 3 rfl; have c4 := HB2'.out.cell 4 rfl; have c5 := HB2'.out.cell 5 rfl; have c6 := HB2'.out.cell 6 rfl; have c7 := HB2'.out.cell 7 rfl; have c8 := HB2'.out.cell 8 rfl; have d0 := HC2.out.cell 0 rfl; have d1 := HC2.out.cell 1 rfl; have d2 := HC2.out.cell 2 rfl; have d3 := HC2.out.cell 3 rfl; have d4 := HC2.out.cell 4 rfl; have d5 := HC2.out.cell 5 rfl; have d6 := HC2.out.cell 6 rfl; have d7 := HC2.out.cell 7 rfl; have d8 := HC2.out.cell 8 rfl
      go_wp2_with fail
      refine (HRL.out _ HU2.out).mono ?_
      rintro r w3 ⟨rfl, hu3⟩
      have HB3 := Lib.hid (HB2'.out.upd hu3 (by simp))
      have HC3 := Lib.hid (HC2.out.upd hu3 (by simp))
      have HU3 := Lib.hid (HU2.out.then hu3)
      clear hu3 HB2' HC2 HU2 c0 d0 c1 d1 c2 d2 c3 d3 c4 d4 c5 d5 c6 d6 c7 d7 c8 d8 HRL
      go_wp2_with fail
      refine (HRA.out _).mono ?_
      rintro r w4 ⟨⟨va, rfl, hva, -⟩, hu4⟩
      obtain ⟨vaa, vac, hvf⟩ := hva.form
      have hvf2 : va = .slice vaa al.length vac := hvf
      clear hvf
      subst hvf2
      have HB4 := Lib.hid (HB3.out.upd hu4 (by simp))
      have HC4 := Lib.hid (HC3.out.upd hu4 (by simp))
      have HU4 := Lib.hid (HU3.out.then hu4)
      have HVA := Lib.hid (show IntsAt w4 (.slice vaa al.length vac) al from Row.intsAt hva)
      clear hu4 HB3 HC3 HU3 HRA hva
      go_upto_region 6 with fail
      have HP5 := Lib.hid (Blk.new w4 [.int .i64 aop, .string ap, .string aq, .int .i64 ak, .int .i64 am, .int .u32 (at_ : Nat), .string aD, .int .i64 an, .slice vaa al.length vac] 27)
      have HB5 := Lib.hid (HB4.out.alloc (.cells #[.int .i64 aop, .string ap, .string aq, .int .i64 ak, .int .i64 am, .int .u32 (at_ : Nat), .string aD, .int .i64 an, .slice vaa al.length vac] 27))
      have HC5 := Lib.hid (HC4.out.alloc (.cells #[.int .i64 aop, .string ap, .string aq, .int .i64 ak, .int .i64 am, .int .u32 (at_ : Nat), .string aD, .int .i64 an, .slice vaa al.length vac] 27))
      have HU5 := Lib.hid (HU4.out.alloc (.cells #[.int .i64 aop, .string ap, .string aq, .int .i64 ak, .int .i64 am, .int .u32 (at_ : Nat), .string aD, .int .i64 an, .slice vaa al.length vac] 27))
      have HVA5 := Lib.hid (HVA.out.upd ((Upd.refl [] w4).alloc (.cells #[.int .i64 aop, .string ap, .string aq, .int .i64 ak, .int .i64 am, .int .u32 (at_ : Nat), .string aD, .int .i64 an, .slice vaa al.length vac] 27)))
      clear HB4 HC4 HU4 HVA
      change Code.wp _ _ _ _ (w4.alloc (.cells #[.int .i64 aop, .string ap, .string aq, .int .i64 ak, .int .i64 am, .int .u32 (at_ : Nat), .string aD, .int .i64 an, .slice vaa al.length vac] 27))
      generalize w4.alloc (.cells #[.int .i64 aop, .string ap, .string aq, .int .i64 ak, .int .i64 am, .int .u32 (at_ : Nat), .string aD, .int .i64 an, .slice vaa al.length vac] 27) = w5 at *
      generalize w4.heap.size = q8 at *
      go_wp2_with fail
      refine (HRB.out _).mono ?_
      rintro r w6 ⟨⟨vb, rfl, hvb, -⟩, hu6⟩
      obtain ⟨vba, vbc, hvf⟩ := hvb.form
      have hvf2 : vb = .slice vba bl.length vbc := hvf
      clear hvf
      subst hvf2
      have HB6 := Lib.hid (HB5.out.upd hu6 (by simp))
      have HC6 := Lib.hid (HC5.out.upd hu6 (by simp))
      have HP6 := Lib.hid (HP5.out.upd hu6 (by simp))
      have HU6 := Lib.hid (HU5.out.then hu6)
      have HVA6 := Lib.hid (HVA5.out.upd hu6)
      have HVB := Lib.hid (show IntsAt w6 (.slice vba bl.length vbc) bl from Row.intsAt hvb)
      clear hu6 HB5 HC5 HP5 HU5 HVA5 HRB hvb
      go_upto_region 7 with fail
      have HQ7 := Lib.hid (Blk.new w6 [.int .i64 bop, .string bp, .string bq, .int .i64 bk, .int .i64 bm, .int .u32 (bt : Nat), .string bD, .int .i64 bn, .slice vba bl.length vbc] 27)
      have HB7 := Lib.hid (HB6.out.alloc (.cells #[.int .i64 bop, .string bp, .string bq, .int .i64 bk, .int .i64 bm, .int .u32 (bt : Nat), .string bD, .int .i64 bn, .slice vba bl.length vbc] 27))
      have HC7 := Lib.hid (HC6.out.alloc (.cells #[.int .i64 bop, .string bp, .string bq, .int .i64 bk, .int .i64 bm, .int .u32 (bt : Nat), .string bD, .int .i64 bn, .slice vba bl.length vbc] 27))
      have HP7 := Lib.hid (HP6.out.alloc (.cells #[.int .i64 bop, .string bp, .string bq, .int .i64 bk, .int .i64 bm, .int .u32 (bt : Nat), .string bD, .int .i64 bn, .slice vba bl.length vbc] 27))
      have HU7 := Lib.hid (HU6.out.alloc (.cells #[.int .i64 bop, .string bp, .string bq, .int .i64 bk, .int .i64 bm, .int .u32 (bt : Nat), .string bD, .int .i64 bn, .slice vba bl.length vbc] 27))
      have HVA7 := Lib.hid (HVA6.out.upd ((Upd.refl [] w6).alloc (.cells #[.int .i64 bop, .string bp, .string bq, .int .i64 bk, .int .i64 bm, .int .u32 (bt : Nat), .string bD, .int .i64 bn, .slice vba bl.length vbc] 27)))
      have HVB7 := Lib.hid (HVB.out.upd ((Upd.refl [] w6).alloc (.cells #[.int .i64 bop, .string bp, .string bq, .int .i64 bk, .int .i64 bm, .int .u32 (bt : Nat), .string bD, .int .i64 bn, .slice vba bl.length vbc] 27)))
      clear HB6 HC6 HP6 HU6 HVA6 HVB
      change Code.wp _ _ _ _ (w6.alloc (.cells #[.int .i64 bop, .string bp, .string bq, .int .i64 bk, .int .i64 bm, .int .u32 (bt : Nat), .string bD, .int .i64 bn, .slice vba bl.length vbc] 27))
      generalize w6.alloc (.cells #[.int .i64 bop, .string bp, .string bq, .int .i64 bk, .int .i64 bm, .int .u32 (bt : Nat), .string bD, .int .i64 bn, .slice vba bl.length vbc] 27) = w7 at *
      generalize w6.heap.size = q10 at *
      have c0 := HB7.out.cell 0 rfl
      go_upto_region 8 with fail
      go_cut [46] (fun s46 wx => s46 = .bool (decide (1 ≤ eop ∧ eop ≤ 14)) ∧ wx = w7)
      case first =>
        by_cases hop1 : 1 ≤ eop
        · have HD : Hid (decide (1 ≤ eop ∧ eop ≤ 14) = decide (eop ≤ 14)) := Lib.hid (by simp [hop1])
          go_wp2
          go_meet
          exact ⟨by rw [HD.out], rfl⟩
        · have HD : Hid (decide (1 ≤ eop ∧ eop ≤ 14) = false) := Lib.hid (by simp [hop1])
          go_wp2
          go_meet
          exact ⟨by rw [HD.out], rfl⟩
      case rest =>
      obtain ⟨rfl, rfl⟩ := hcut
      generalize wc = w7 at *
      obtain ⟨b46, hb46⟩ : ∃ b, decide (1 ≤ eop ∧ eop ≤ 14) = b := ⟨_, rfl⟩
      rw [hb46]
      have HB46 := Lib.hid hb46
      clear hb46
      go_upto_if 46 with fail
      go_cut [12] (fun s12 wx => s12 = .string (strOf (nameN eop)) ∧ Hid (Upd [] w7 wx))
      case first =>
        as_aux_lemma =>
        by_cases hop : 1 ≤ eop ∧ eop ≤ 14
        · obtain ⟨i, hi⟩ : ∃ i : Nat, eop = (i : Int) := ⟨eop.toNat, by omega⟩
          have HI := Lib.hid hi
          have hi1 : 1 ≤ i ∧ i ≤ 14 := by omega
          have HNA := Lib.hid (rnames_at i hi1)
          have hop1 := hop.1
          have hop2 := hop.2
          have hi15 : (i : Int) < 15 := by omega
          have hi15n : i < 15 := by omega
          obtain rfl : b46 = true := by rw [← HB46.out]; exact decide_eq_true hop
          clear hop hi
          go_upto_region 9 with fail
          refine wp_region_held_drew (S := fun w' => Blk w' q0 [.int .i64 eop, .string ep, .string eq, .int .i64 ek, .int .i64 em, .int .u32 (et : Nat), .string eD, .int .i64 en, ev] 27) (by kernel_rfl) (HB7.out.upd ((Upd.refl [] _).drew) (by simp)) (fun hHeld => ?_)
          change wpAnyH _ _ _ _ _ 6 #[false, false, false, false, false, false] _ _
          refine heldTake (i := 1) (d := some 48) (v := ?v1_1) rfl rfl (by kernel_rfl) (by kernel_rfl) (by kernel_rfl) (fun _ _ _ h => h) (by rfl) ?hy1_1 (by assumption) ?r1_1
          case hy1_1 => (intro w hSw; (try dsimp only at hSw); go_simp; try with_reducible rfl)
          try simp only [Act.put, List.setIfInBounds_toArray, List.set_cons_zero, List.set_cons_succ]
          change wpAnyH _ _ _ _ _ 5 #[false, true, false, false, false, false] _ _
          refine heldTake (i := 2) (d := some 49) (v := ?v2_2) rfl rfl (by kernel_rfl) (by kernel_rfl) (by kernel_rfl) (fun _ _ _ h => h) (by rfl) ?hy2_2 (by assumption) ?r2_2
          case hy2_2 => (intro w5 hSw; have q0c0 := hSw.cell 0 rfl; rw [HI.out] at q0c0; go_simp; try with_reducible rfl)
          try simp only [Act.put, List.setIfInBounds_toArray, List.set_cons_zero, List.set_cons_succ]
          change wpAnyH _ _ _ _ _ 4 #[false, true, true, false, false, false] _ _
          refine wpAnyH_ready (rs := [0]) (by kernel_rfl) (by simp) ?_
          refine AllReadyH.cons rfl (fun K hK => ?_) AllReadyH.nil
          go_simp
          refine (rnames_any _).mono ?_
          rintro e z1 ⟨rfl, hz1⟩
          have HZ1 : Hid (Upd [] w7 z1) := Lib.hid (by rw [hz1]; exact ((Upd.refl [] w7).drew).alloc _)
          have HN1 : Hid (Blk z1 w7.heap.size [.string ⟨#[]⟩, .string ⟨#[112, 117, 116]⟩, .string ⟨#[99, 108, 101, 97, 114]⟩, .string ⟨#[114, 101, 110, 97, 109, 101]⟩, .string ⟨#[101, 100, 105, 116]⟩, .string ⟨#[115, 121, 110, 99]⟩, .string ⟨#[112, 97, 99, 107]⟩, .string ⟨#[117, 110, 112, 97, 99, 107]⟩, .string ⟨#[99, 111, 109, 112, 97, 99, 116]⟩, .string ⟨#[118, 101, 114, 105, 102, 121]⟩, .string ⟨#[115, 116, 97, 116, 117, 115]⟩, .string ⟨#[112, 111, 119, 101, 114]⟩, .string ⟨#[102, 97, 105, 108]⟩, .string ⟨#[108, 105, 109, 105, 116]⟩, .string ⟨#[114, 101, 99, 111, 118, 101, 114]⟩] 9) := Lib.hid (by rw [hz1]; exact Blk.new w7.drew [.string ⟨#[]⟩, .string ⟨#[112, 117, 116]⟩, .string ⟨#[99, 108, 101, 97, 114]⟩, .string ⟨#[114, 101, 110, 97, 109, 101]⟩, .string ⟨#[101, 100, 105, 116]⟩, .string ⟨#[115, 121, 110, 99]⟩, .string ⟨#[112, 97, 99, 107]⟩, .string ⟨#[117, 110, 112, 97, 99, 107]⟩, .string ⟨#[99, 111, 109, 112, 97, 99, 116]⟩, .string ⟨#[118, 101, 114, 105, 102, 121]⟩, .string ⟨#[115, 116, 97, 116, 117, 115]⟩, .string ⟨#[112, 111, 119, 101, 114]⟩, .string ⟨#[102, 97, 105, 108]⟩, .string ⟨#[108, 105, 109, 105, 116]⟩, .string ⟨#[114, 101, 99, 111, 118, 101, 114]⟩] 9)
          have cn := HN1.out.cell i HNA.out
          have hb1z : Blk z1 q0 [.int .i64 eop, .string ep, .string eq, .int .i64 ek, .int .i64 em, .int .u32 (et : Nat), .string eD, .int .i64 en, ev] 27 := by rw [hz1]; exact hHeld.alloc _
          clear hz1
          go_wp2
          refine hK.out _ _ hb1z (fun hHeld => ?_)
          clear hK K
          try simp only [Act.put, List.setIfInBounds_toArray, List.set_cons_zero, List.set_cons_succ]
          change wpAnyH _ _ _ _ _ 3 #[true, true, true, false, false, false] _ _
          refine heldTake (i := 3) (d := some 50) (v := ?v3_4) rfl rfl (by kernel_rfl) (by kernel_rfl) (by kernel_rfl) (fun _ _ _ h => h) (by rfl) ?hy3_4 (by assumption) ?r3_4
          case hy3_4 => (intro w hSw; (try dsimp only at hSw); go_simp; try with_reducible rfl)
          try simp only [Act.put, List.setIfInBounds_toArray, List.set_cons_zero, List.set_cons_succ]
          change wpAnyH _ _ _ _ _ 2 #[true, true, true, true, false, false] _ _
          refine wpAnyH_ready (rs := [4]) (by kernel_rfl) (by simp) ?_
          refine AllReadyH.cons rfl (fun K hK => ?_) AllReadyH.nil
          go_simp
          skip
          go_wp2
          refine hK.out _ _ hHeld (fun hHeld => ?_)
          clear hK K
          try simp only [Act.put, List.setIfInBounds_toArray, List.set_cons_zero, List.set_cons_succ]
          change wpAnyH _ _ _ _ _ 1 #[true, true, true, true, true, false] _ _
          refine heldTake (i := 5) (d := some 12) (v := ?v5_6) rfl rfl (by kernel_rfl) (by kernel_rfl) (by kernel_rfl) (fun _ _ _ h => h) (by rfl) ?hy5_6 (by assumption) ?r5_6
          case hy5_6 => (intro w hSw; (try dsimp only at hSw); go_simp; try with_reducible rfl)
          try simp only [Act.put, List.setIfInBounds_toArray, List.set_cons_zero, List.set_cons_succ]
          change wpAnyH _ _ _ _ _ 0 #[true, true, true, true, true, true] _ _
          refine wpAnyH_done (by kernel_rfl) ?_ 0
          go_wp2
          go_meet
          exact ⟨by rw [HI.out], HZ1⟩
        · have HE : Hid (strOf (nameN eop) = ⟨#[]⟩) := Lib.hid (by rw [nameN_empty hop]; rfl)
          obtain rfl : b46 = false := by rw [← HB46.out]; exact decide_eq_false hop
          clear hop
          go_wp2
          go_meet
          exact ⟨by rw [HE.out], Lib.hid (Upd.refl _ _)⟩
      case rest =>
      as_aux_lemma =>
      obtain ⟨rfl, HW⟩ := hcut
      have HB8 := Lib.hid (HB7.out.upd HW.out (by simp))
      have HC8 := Lib.hid (HC7.out.upd HW.out (by simp))
      have HP8 := Lib.hid (HP7.out.upd HW.out (by simp))
      have HQ8 := Lib.hid (HQ7.out.upd HW.out (by simp))
      have HU8 := Lib.hid (HU7.out.then HW.out)
      have HVA8 := Lib.hid (HVA7.out.upd HW.out)
      have HVB8 := Lib.hid (HVB7.out.upd HW.out)
      clear HB7 HC7 HP7 HQ7 HU7 HVA7 HVB7 HW c0
      generalize wc = w8 at *
      generalize strOf (nameN eop) = NMS at *
      cases OA
      · clear HA0
        go_upto_region 10 with fail
        refine wp_region_held_drew (S := fun w' => Blk w' q0 [.int .i64 eop, .string ep, .string eq, .int .i64 ek, .int .i64 em, .int .u32 (et : Nat), .string eD, .int .i64 en, ev] 27 ∧ Blk w' q1 [.int .i64 oop, .string op, .string oq, .int .i64 ok, .int .i64 om, .int .u32 (ot : Nat), .string oD, .int .i64 on, ov] 27 ∧ Blk w' q8 [.int .i64 aop, .string ap, .string aq, .int .i64 ak, .int .i64 am, .int .u32 (at_ : Nat), .string aD, .int .i64 an, .slice vaa al.length vac] 27 ∧ Upd [] w8 w') (by kernel_rfl) ⟨HB8.out.upd ((Upd.refl [] _).drew) (by simp), HC8.out.upd ((Upd.refl [] _).drew) (by simp), HP8.out.upd ((Upd.refl [] _).drew) (by simp), (Upd.refl [] _).drew⟩ (fun hHeld => ?_)
        change wpAnyH _ _ _ _ _ 42 #[false, false, false, false, false, false, false, false, false, false, false, false, false, false, false, false, false, false, false, false, false, false, false, false, false, false, false, false, false, false, false, false, false, false, false, false, false, false, false, false, false, false] _ _
        refine heldTake (i := 0) (d := some 52) (v := ?v0_7) rfl rfl (by kernel_rfl) (by kernel_rfl) (by kernel_rfl) (fun _ _ _ h => h) (by rfl) ?hy0_7 (by assumption) ?r0_7
        case hy0_7 => (intro w5 hSw; have q0c0 := hSw.1.cell 0 rfl; have q0c1 := hSw.1.cell 1 rfl; have q0c2 := hSw.1.cell 2 rfl; have q0c3 := hSw.1.cell 3 rfl; have q0c4 := hSw.1.cell 4 rfl; have q0c5 := hSw.1.cell 5 rfl; have q0c6 := hSw.1.cell 6 rfl; have q0c7 := hSw.1.cell 7 rfl; have q0c8 := hSw.1.cell 8 rfl; go_simp; try with_reducible rfl)
        try simp only [Act.put, List.setIfInBounds_toArray, List.set_cons_zero, List.set_cons_succ]
        change wpAnyH _ _ _ _ _ 41 #[true, false, false, false, false, false, false, false, false, false, false, false, false, false, false, false, false, false, false, false, false, false, false, false, false, false, false, false, false, false, false, false, false, false, false, false, false, false, false, false, false, false] _ _
        refine heldTake (i := 2) (d := some 54) (v := ?v2_8) rfl rfl (by kernel_rfl) (by kernel_rfl) (by kernel_rfl) (fun _ _ _ h => h) (by rfl) ?hy2_8 (by assumption) ?r2_8
        case hy2_8 => (intro w5 hSw; have q0c0 := hSw.1.cell 0 rfl; have q0c1 := hSw.1.cell 1 rfl; have q0c2 := hSw.1.cell 2 rfl; have q0c3 := hSw.1.cell 3 rfl; have q0c4 := hSw.1.cell 4 rfl; have q0c5 := hSw.1.cell 5 rfl; have q0c6 := hSw.1.cell 6 rfl; have q0c7 := hSw.1.cell 7 rfl; have q0c8 := hSw.1.cell 8 rfl; go_simp; try with_reducible rfl)
        try simp only [Act.put, List.setIfInBounds_toArray, List.set_cons_zero, List.set_cons_succ]
        change wpAnyH _ _ _ _ _ 40 #[true, false, true, false, false, false, false, false, false, false, false, false, false, false, false, false, false, false, false, false, false, false, false, false, false, false, false, false, false, false, false, false, false, false, false, false, false, false, false, false, false, false] _ _
        refine wpAnyH_ready (rs := [1]) (by kernel_rfl) (by simp) ?_
        refine AllReadyH.cons rfl (fun K hK => ?_) AllReadyH.nil
        go_simp
        refine (HSR.out _ (HU8.out.then hHeld.2.2.2)).mono ?_
        rintro e z9 ⟨rfl, hz9⟩
        go_wp2
        refine hK.out _ _ ⟨hHeld.1.upd hz9 (by simp), hHeld.2.1.upd hz9 (by simp), hHeld.2.2.1.upd hz9 (by simp), hHeld.2.2.2.then hz9⟩ (fun hHeld => ?_)
        clear hK K
        try simp only [Act.put, List.setIfInBounds_toArray, List.set_cons_zero, List.set_cons_succ]
        change wpAnyH _ _ _ _ _ 39 #[true, true, true, false, false, false, false, false, false, false, false, false, false, false, false, false, false, false, false, false, false, false, false, false, false, false, false, false, false, false, false, false, false, false, false, false, false, false, false, false, false, false] _ _
        refine wpAnyH_ready (rs := [3]) (by kernel_rfl) (by simp) ?_
        refine AllReadyH.cons rfl (fun K hK => ?_) AllReadyH.nil
        go_simp
        refine (HRR.out _ (HU8.out.then hHeld.2.2.2)).mono ?_
        rintro e z9 ⟨rfl, hz9⟩
        go_wp2
        refine hK.out _ _ ⟨hHeld.1.upd hz9 (by simp), hHeld.2.1.upd hz9 (by simp), hHeld.2.2.1.upd hz9 (by simp), hHeld.2.2.2.then hz9⟩ (fun hHeld => ?_)
        clear hK K
        try simp only [Act.put, List.setIfInBounds_toArray, List.set_cons_zero, List.set_cons_succ]
        change wpAnyH _ _ _ _ _ 38 #[true, true, true, true, false, false, false, false, false, false, false, false, false, false, false, false, false, false, false, false, false, false, false, false, false, false, false, false, false, false, false, false, false, false, false, false, false, false, false, false, false, false] _ _
        refine heldTake (i := 4) (d := some 56) (v := ?v4_11) rfl rfl (by kernel_rfl) (by kernel_rfl) (by kernel_rfl) (fun _ _ _ h => h) (by rfl) ?hy4_11 (by assumption) ?r4_11
        case hy4_11 => (intro w hSw; (try dsimp only at hSw); go_simp; try with_reducible rfl)
        try simp only [Act.put, List.setIfInBounds_toArray, List.set_cons_zero, List.set_cons_succ]
        change wpAnyH _ _ _ _ _ 37 #[true, true, true, true, true, false, false, false, false, false, false, false, false, false, false, false, false, false, false, false, false, false, false, false, false, false, false, false, false, false, false, false, false, false, false, false, false, false, false, false, false, false] _ _
        refine heldTake (i := 5) (d := some 57) (v := ?v5_12) rfl rfl (by kernel_rfl) (by kernel_rfl) (by kernel_rfl) (fun _ _ _ h => h) (by rfl) ?hy5_12 (by assumption) ?r5_12
        case hy5_12 => (intro w hSw; (try dsimp only at hSw); go_simp; try with_reducible rfl)
        try simp only [Act.put, List.setIfInBounds_toArray, List.set_cons_zero, List.set_cons_succ]
        change wpAnyH _ _ _ _ _ 36 #[true, true, true, true, true, true, false, false, false, false, false, false, false, false, false, false, false, false, false, false, false, false, false, false, false, false, false, false, false, false, false, false, false, false, false, false, false, false, false, false, false, false] _ _
        refine heldTake (i := 6) (d := some 58) (v := ?v6_13) rfl rfl (by kernel_rfl) (by kernel_rfl) (by kernel_rfl) (fun _ _ _ h => h) (by rfl) ?hy6_13 (by assumption) ?r6_13
        case hy6_13 => (intro w5 hSw; have q0c0 := hSw.1.cell 0 rfl; have q0c1 := hSw.1.cell 1 rfl; have q0c2 := hSw.1.cell 2 rfl; have q0c3 := hSw.1.cell 3 rfl; have q0c4 := hSw.1.cell 4 rfl; have q0c5 := hSw.1.cell 5 rfl; have q0c6 := hSw.1.cell 6 rfl; have q0c7 := hSw.1.cell 7 rfl; have q0c8 := hSw.1.cell 8 rfl; go_simp; try with_reducible rfl)
        try simp only [Act.put, List.setIfInBounds_toArray, List.set_cons_zero, List.set_cons_succ]
        change wpAnyH _ _ _ _ _ 35 #[true, true, true, true, true, true, true, false, false, false, false, false, false, false, false, false, false, false, false, false, false, false, false, false, false, false, false, false, false, false, false, false, false, false, false, false, false, false, false, false, false, false] _ _
        refine heldTake (i := 8) (d := some 60) (v := ?v8_14) rfl rfl (by kernel_rfl) (by kernel_rfl) (by kernel_rfl) (fun _ _ _ h => h) (by rfl) ?hy8_14 (by assumption) ?r8_14
        case hy8_14 => (intro w hSw; (try dsimp only at hSw); go_simp; try with_reducible rfl)
        try simp only [Act.put, List.setIfInBounds_toArray, List.set_cons_zero, List.set_cons_succ]
        change wpAnyH _ _ _ _ _ 34 #[true, true, true, true, true, true, true, false, true, false, false, false, false, false, false, false, false, false, false, false, false, false, false, false, false, false, false, false, false, false, false, false, false, false, false, false, false, false, false, false, false, false] _ _
        refine wpAnyH_ready (rs := [7]) (by kernel_rfl) (by simp) ?_
        refine AllReadyH.cons rfl (fun K hK => ?_) AllReadyH.nil
        go_simp
        refine (HSL.out _ (HU8.out.then hHeld.2.2.2)).mono ?_
        rintro e z9 ⟨rfl, hz9⟩
        go_wp2
        refine hK.out _ _ ⟨hHeld.1.upd hz9 (by simp), hHeld.2.1.upd hz9 (by simp), hHeld.2.2.1.upd hz9 (by simp), hHeld.2.2.2.then hz9⟩ (fun hHeld => ?_)
        clear hK K
        try simp only [Act.put, List.setIfInBounds_toArray, List.set_cons_zero, List.set_cons_succ]
        change wpAnyH _ _ _ _ _ 33 #[true, true, true, true, true, true, true, true, true, false, false, false, false, false, false, false, false, false, false, false, false, false, false, false, false, false, false, false, false, false, false, false, false, false, false, false, false, false, false, false, false, false] _ _
        refine heldTake (i := 9) (d := some 61) (v := ?v9_16) rfl rfl (by kernel_rfl) (by kernel_rfl) (by kernel_rfl) (fun _ _ _ h => h) (by rfl) ?hy9_16 (by assumption) ?r9_16
        case hy9_16 => (intro w hSw; (try dsimp only at hSw); go_simp; try with_reducible rfl)
        try simp only [Act.put, List.setIfInBounds_toArray, List.set_cons_zero, List.set_cons_succ]
        change wpAnyH _ _ _ _ _ 32 #[true, true, true, true, true, true, true, true, true, true, false, false, false, false, false, false, false, false, false, false, false, false, false, false, false, false, false, false, false, false, false, false, false, false, false, false, false, false, false, false, false, false] _ _
        refine heldTake (i := 10) (d := some 62) (v := ?v10_17) rfl rfl (by kernel_rfl) (by kernel_rfl) (by kernel_rfl) (fun _ _ _ h => h) (by rfl) ?hy10_17 (by assumption) ?r10_17
        case hy10_17 => (intro w hSw; (try dsimp only at hSw); go_simp; try with_reducible rfl)
        try simp only [Act.put, List.setIfInBounds_toArray, List.set_cons_zero, List.set_cons_succ]
        change wpAnyH _ _ _ _ _ 31 #[true, true, true, true, true, true, true, true, true, true, true, false, false, false, false, false, false, false, false, false, false, false, false, false, false, false, false, false, false, false, false, false, false, false, false, false, false, false, false, false, false, false] _ _
        refine heldTake (i := 11) (d := some 63) (v := ?v11_18) rfl rfl (by kernel_rfl) (by kernel_rfl) (by kernel_rfl) (fun _ _ _ h => h) (by rfl) ?hy11_18 (by assumption) ?r11_18
        case hy11_18 => (intro w hSw; (try dsimp only at hSw); go_simp; try with_reducible rfl)
        try simp only [Act.put, List.setIfInBounds_toArray, List.set_cons_zero, List.set_cons_succ]
        change wpAnyH _ _ _ _ _ 30 #[true, true, true, true, true, true, true, true, true, true, true, true, false, false, false, false, false, false, false, false, false, false, false, false, false, false, false, false, false, false, false, false, false, false, false, false, false, false, false, false, false, false] _ _
        refine heldTake (i := 12) (d := some 64) (v := ?v12_19) rfl rfl (by kernel_rfl) (by kernel_rfl) (by kernel_rfl) (fun _ _ _ h => h) (by rfl) ?hy12_19 (by assumption) ?r12_19
        case hy12_19 => (intro w hSw; (try dsimp only at hSw); go_simp; try with_reducible rfl)
        try simp only [Act.put, List.setIfInBounds_toArray, List.set_cons_zero, List.set_cons_succ]
        change wpAnyH _ _ _ _ _ 29 #[true, true, true, true, true, true, true, true, true, true, true, true, true, false, false, false, false, false, false, false, false, false, false, false, false, false, false, false, false, false, false, false, false, false, false, false, false, false, false, false, false, false] _ _
        refine heldTake (i := 13) (d := some 65) (v := ?v13_20) rfl rfl (by kernel_rfl) (by kernel_rfl) (by kernel_rfl) (fun _ _ _ h => h) (by rfl) ?hy13_20 (by assumption) ?r13_20
        case hy13_20 => (intro w5 hSw; have q0c0 := hSw.1.cell 0 rfl; have q0c1 := hSw.1.cell 1 rfl; have q0c2 := hSw.1.cell 2 rfl; have q0c3 := hSw.1.cell 3 rfl; have q0c4 := hSw.1.cell 4 rfl; have q0c5 := hSw.1.cell 5 rfl; have q0c6 := hSw.1.cell 6 rfl; have q0c7 := hSw.1.cell 7 rfl; have q0c8 := hSw.1.cell 8 rfl; go_simp; try with_reducible rfl)
        try simp only [Act.put, List.setIfInBounds_toArray, List.set_cons_zero, List.set_cons_succ]
        change wpAnyH _ _ _ _ _ 28 #[true, true, true, true, true, true, true, true, true, true, true, true, true, true, false, false, false, false, false, false, false, false, false, false, false, false, false, false, false, false, false, false, false, false, false, false, false, false, false, false, false, false] _ _
        refine wpAnyH_ready (rs := [14]) (by kernel_rfl) (by simp) ?_
        refine AllReadyH.cons rfl (fun K hK => ?_) AllReadyH.nil
        go_simp
        refine (HRR.out _ (HU8.out.then hHeld.2.2.2)).mono ?_
        rintro e z9 ⟨rfl, hz9⟩
        go_wp2
        refine hK.out _ _ ⟨hHeld.1.upd hz9 (by simp), hHeld.2.1.upd hz9 (by simp), hHeld.2.2.1.upd hz9 (by simp), hHeld.2.2.2.then hz9⟩ (fun hHeld => ?_)
        clear hK K
        try simp only [Act.put, List.setIfInBounds_toArray, List.set_cons_zero, List.set_cons_succ]
        change wpAnyH _ _ _ _ _ 27 #[true, true, true, true, true, true, true, true, true, true, true, true, true, true, true, false, false, false, false, false, false, false, false, false, false, false, false, false, false, false, false, false, false, false, false, false, false, false, false, false, false, false] _ _
        refine heldTake (i := 15) (d := some 67) (v := ?v15_22) rfl rfl (by kernel_rfl) (by kernel_rfl) (by kernel_rfl) (fun _ _ _ h => h) (by rfl) ?hy15_22 (by assumption) ?r15_22
        case hy15_22 => (intro w hSw; (try dsimp only at hSw); go_simp; try with_reducible rfl)
        try simp only [Act.put, List.setIfInBounds_toArray, List.set_cons_zero, List.set_cons_succ]
        change wpAnyH _ _ _ _ _ 26 #[true, true, true, true, true, true, true, true, true, true, true, true, true, true, true, true, false, false, false, false, false, false, false, false, false, false, false, false, false, false, false, false, false, false, false, false, false, false, false, false, false, false] _ _
        refine heldTake (i := 16) (d := some 68) (v := ?v16_23) rfl rfl (by kernel_rfl) (by kernel_rfl) (by kernel_rfl) (fun _ _ _ h => h) (by rfl) ?hy16_23 (by assumption) ?r16_23
        case hy16_23 => (intro w hSw; (try dsimp only at hSw); go_simp; try with_reducible rfl)
        try simp only [Act.put, List.setIfInBounds_toArray, List.set_cons_zero, List.set_cons_succ]
        change wpAnyH _ _ _ _ _ 25 #[true, true, true, true, true, true, true, true, true, true, true, true, true, true, true, true, true, false, false, false, false, false, false, false, false, false, false, false, false, false, false, false, false, false, false, false, false, false, false, false, false, false] _ _
        refine heldTake (i := 17) (d := some 69) (v := ?v17_24) rfl rfl (by kernel_rfl) (by kernel_rfl) (by kernel_rfl) (fun _ _ _ h => h) (by rfl) ?hy17_24 (by assumption) ?r17_24
        case hy17_24 => (intro w hSw; (try dsimp only at hSw); go_simp; try with_reducible rfl)
        try simp only [Act.put, List.setIfInBounds_toArray, List.set_cons_zero, List.set_cons_succ]
        change wpAnyH _ _ _ _ _ 24 #[true, true, true, true, true, true, true, true, true, true, true, true, true, true, true, true, true, true, false, false, false, false, false, false, false, false, false, false, false, false, false, false, false, false, false, false, false, false, false, false, false, false] _ _
        refine heldTake (i := 18) (d := some 70) (v := ?v18_25) rfl rfl (by kernel_rfl) (by kernel_rfl) (by kernel_rfl) (fun _ _ _ h => h) (by rfl) ?hy18_25 (by assumption) ?r18_25
        case hy18_25 => (intro w hSw; (try dsimp only at hSw); go_simp; try with_reducible rfl)
        try simp only [Act.put, List.setIfInBounds_toArray, List.set_cons_zero, List.set_cons_succ]
        change wpAnyH _ _ _ _ _ 23 #[true, true, true, true, true, true, true, true, true, true, true, true, true, true, true, true, true, true, true, false, false, false, false, false, false, false, false, false, false, false, false, false, false, false, false, false, false, false, false, false, false, false] _ _
        refine heldTake (i := 19) (d := some 71) (v := ?v19_26) rfl rfl (by kernel_rfl) (by kernel_rfl) (by kernel_rfl) (fun _ _ _ h => h) (by rfl) ?hy19_26 (by assumption) ?r19_26
        case hy19_26 => (intro w hSw; (try dsimp only at hSw); go_simp; try with_reducible rfl)
        try simp only [Act.put, List.setIfInBounds_toArray, List.set_cons_zero, List.set_cons_succ]
        change wpAnyH _ _ _ _ _ 22 #[true, true, true, true, true, true, true, true, true, true, true, true, true, true, true, true, true, true, true, true, false, false, false, false, false, false, false, false, false, false, false, false, false, false, false, false, false, false, false, false, false, false] _ _
        refine heldSkip (i := 20) (d := some 72) rfl rfl (by kernel_rfl) (by kernel_rfl) (by kernel_rfl) (fun _ _ _ h => h) (by rfl) (by assumption) ?r20_27
        try simp only [Act.put, List.setIfInBounds_toArray, List.set_cons_zero, List.set_cons_succ]
        change wpAnyH _ _ _ _ _ 21 #[true, true, true, true, true, true, true, true, true, true, true, true, true, true, true, true, true, true, true, true, true, false, false, false, false, false, false, false, false, false, false, false, false, false, false, false, false, false, false, false, false, false] _ _
        refine heldSkip (i := 21) (d := some 73) rfl rfl (by kernel_rfl) (by kernel_rfl) (by kernel_rfl) (fun _ _ _ h => h) (by rfl) (by assumption) ?r21_28
        try simp only [Act.put, List.setIfInBounds_toArray, List.set_cons_zero, List.set_cons_succ]
        change wpAnyH _ _ _ _ _ 20 #[true, true, true, true, true, true, true, true, true, true, true, true, true, true, true, true, true, true, true, true, true, true, false, false, false, false, false, false, false, false, false, false, false, false, false, false, false, false, false, false, false, false] _ _
        refine heldSkip (i := 22) (d := some 74) rfl rfl (by kernel_rfl) (by kernel_rfl) (by kernel_rfl) (fun _ _ _ h => h) (by rfl) (by assumption) ?r22_29
        try simp only [Act.put, List.setIfInBounds_toArray, List.set_cons_zero, List.set_cons_succ]
        change wpAnyH _ _ _ _ _ 19 #[true, true, true, true, true, true, true, true, true, true, true, true, true, true, true, true, true, true, true, true, true, true, true, false, false, false, false, false, false, false, false, false, false, false, false, false, false, false, false, false, false, false] _ _
        refine heldSkip (i := 23) (d := some 75) rfl rfl (by kernel_rfl) (by kernel_rfl) (by kernel_rfl) (fun _ _ _ h => h) (by rfl) (by assumption) ?r23_30
        try simp only [Act.put, List.setIfInBounds_toArray, List.set_cons_zero, List.set_cons_succ]
        change wpAnyH _ _ _ _ _ 18 #[true, true, true, true, true, true, true, true, true, true, true, true, true, true, true, true, true, true, true, true, true, true, true, true, false, false, false, false, false, false, false, false, false, false, false, false, false, false, false, false, false, false] _ _
        refine heldTake (i := 24) (d := some 76) (v := ?v24_31) rfl rfl (by kernel_rfl) (by kernel_rfl) (by kernel_rfl) (fun _ _ _ h => h) (by rfl) ?hy24_31 (by assumption) ?r24_31
        case hy24_31 => (intro w hSw; (try dsimp only at hSw); go_simp; try with_reducible rfl)
        try simp only [Act.put, List.setIfInBounds_toArray, List.set_cons_zero, List.set_cons_succ]
        change wpAnyH _ _ _ _ _ 17 #[true, true, true, true, true, true, true, true, true, true, true, true, true, true, true, true, true, true, true, true, true, true, true, true, true, false, false, false, false, false, false, false, false, false, false, false, false, false, false, false, false, false] _ _
        refine heldTake (i := 25) (d := some 77) (v := ?v25_32) rfl rfl (by kernel_rfl) (by kernel_rfl) (by kernel_rfl) (fun _ _ _ h => h) (by rfl) ?hy25_32 (by assumption) ?r25_32
        case hy25_32 => (intro w hSw; (try dsimp only at hSw); go_simp; try with_reducible rfl)
        try simp only [Act.put, List.setIfInBounds_toArray, List.set_cons_zero, List.set_cons_succ]
        change wpAnyH _ _ _ _ _ 16 #[true, true, true, true, true, true, true, true, true, true, true, true, true, true, true, true, true, true, true, true, true, true, true, true, true, true, false, false, false, false, false, false, false, false, false, false, false, false, false, false, false, false] _ _
        refine heldTake (i := 26) (d := some 78) (v := ?v26_33) rfl rfl (by kernel_rfl) (by kernel_rfl) (by kernel_rfl) (fun _ _ _ h => h) (by rfl) ?hy26_33 (by assumption) ?r26_33
        case hy26_33 => (intro w hSw; (try dsimp only at hSw); go_simp; try with_reducible rfl)
        try simp only [Act.put, List.setIfInBounds_toArray, List.set_cons_zero, List.set_cons_succ]
        change wpAnyH _ _ _ _ _ 15 #[true, true, true, true, true, true, true, true, true, true, true, true, true, true, true, true, true, true, true, true, true, true, true, true, true, true, true, false, false, false, false, false, false, false, false, false, false, false, false, false, false, false] _ _
        refine heldTake (i := 27) (d := some 79) (v := ?v27_34) rfl rfl (by kernel_rfl) (by kernel_rfl) (by kernel_rfl) (fun _ _ _ h => h) (by rfl) ?hy27_34 (by assumption) ?r27_34
        case hy27_34 => (intro w5 hSw; have q0c0 := hSw.1.cell 0 rfl; have q0c1 := hSw.1.cell 1 rfl; have q0c2 := hSw.1.cell 2 rfl; have q0c3 := hSw.1.cell 3 rfl; have q0c4 := hSw.1.cell 4 rfl; have q0c5 := hSw.1.cell 5 rfl; have q0c6 := hSw.1.cell 6 rfl; have q0c7 := hSw.1.cell 7 rfl; have q0c8 := hSw.1.cell 8 rfl; go_simp; try with_reducible rfl)
        try simp only [Act.put, List.setIfInBounds_toArray, List.set_cons_zero, List.set_cons_succ]
        change wpAnyH _ _ _ _ _ 14 #[true, true, true, true, true, true, true, true, true, true, true, true, true, true, true, true, true, true, true, true, true, true, true, true, true, true, true, true, false, false, false, false, false, false, false, false, false, false, false, false, false, false] _ _
        refine heldTake (i := 28) (d := some 80) (v := ?v28_35) rfl rfl (by kernel_rfl) (by kernel_rfl) (by kernel_rfl) (fun _ _ _ h => h) (by rfl) ?hy28_35 (by assumption) ?r28_35
        case hy28_35 => (intro w5 hSw; have q0c0 := hSw.2.1.cell 0 rfl; have q0c1 := hSw.2.1.cell 1 rfl; have q0c2 := hSw.2.1.cell 2 rfl; have q0c3 := hSw.2.1.cell 3 rfl; have q0c4 := hSw.2.1.cell 4 rfl; have q0c5 := hSw.2.1.cell 5 rfl; have q0c6 := hSw.2.1.cell 6 rfl; have q0c7 := hSw.2.1.cell 7 rfl; have q0c8 := hSw.2.1.cell 8 rfl; go_simp; try with_reducible rfl)
        try simp only [Act.put, List.setIfInBounds_toArray, List.set_cons_zero, List.set_cons_succ]
        change wpAnyH _ _ _ _ _ 13 #[true, true, true, true, true, true, true, true, true, true, true, true, true, true, true, true, true, true, true, true, true, true, true, true, true, true, true, true, true, false, false, false, false, false, false, false, false, false, false, false, false, false] _ _
        refine heldTake (i := 30) (d := some 82) (v := ?v30_36) rfl rfl (by kernel_rfl) (by kernel_rfl) (by kernel_rfl) (fun _ _ _ h => h) (by rfl) ?hy30_36 (by assumption) ?r30_36
        case hy30_36 => (intro w5 hSw; have q0c0 := hSw.1.cell 0 rfl; have q0c1 := hSw.1.cell 1 rfl; have q0c2 := hSw.1.cell 2 rfl; have q0c3 := hSw.1.cell 3 rfl; have q0c4 := hSw.1.cell 4 rfl; have q0c5 := hSw.1.cell 5 rfl; have q0c6 := hSw.1.cell 6 rfl; have q0c7 := hSw.1.cell 7 rfl; have q0c8 := hSw.1.cell 8 rfl; go_simp; try with_reducible rfl)
        try simp only [Act.put, List.setIfInBounds_toArray, List.set_cons_zero, List.set_cons_succ]
        change wpAnyH _ _ _ _ _ 12 #[true, true, true, true, true, true, true, true, true, true, true, true, true, true, true, true, true, true, true, true, true, true, true, true, true, true, true, true, true, false, true, false, false, false, false, false, false, false, false, false, false, false] _ _
        refine heldTake (i := 31) (d := some 83) (v := ?v31_37) rfl rfl (by kernel_rfl) (by kernel_rfl) (by kernel_rfl) (fun _ _ _ h => h) (by rfl) ?hy31_37 (by assumption) ?r31_37
        case hy31_37 => (intro w5 hSw; have q0c0 := hSw.2.1.cell 0 rfl; have q0c1 := hSw.2.1.cell 1 rfl; have q0c2 := hSw.2.1.cell 2 rfl; have q0c3 := hSw.2.1.cell 3 rfl; have q0c4 := hSw.2.1.cell 4 rfl; have q0c5 := hSw.2.1.cell 5 rfl; have q0c6 := hSw.2.1.cell 6 rfl; have q0c7 := hSw.2.1.cell 7 rfl; have q0c8 := hSw.2.1.cell 8 rfl; go_simp; try with_reducible rfl)
        try simp only [Act.put, List.setIfInBounds_toArray, List.set_cons_zero, List.set_cons_succ]
        change wpAnyH _ _ _ _ _ 11 #[true, true, true, true, true, true, true, true, true, true, true, true, true, true, true, true, true, true, true, true, true, true, true, true, true, true, true, true, true, false, true, true, false, false, false, false, false, false, false, false, false, false] _ _
        refine wpAnyH_ready (rs := [29]) (by kernel_rfl) (by simp) ?_
        refine AllReadyH.cons rfl (fun K hK => ?_) AllReadyH.nil
        go_simp
        refine (HSS.out _ (HU8.out.then hHeld.2.2.2)).mono ?_
        rintro e z9 ⟨rfl, hz9⟩
        go_wp2
        refine hK.out _ _ ⟨hHeld.1.upd hz9 (by simp), hHeld.2.1.upd hz9 (by simp), hHeld.2.2.1.upd hz9 (by simp), hHeld.2.2.2.then hz9⟩ (fun hHeld => ?_)
        clear hK K
        try simp only [Act.put, List.setIfInBounds_toArray, List.set_cons_zero, List.set_cons_succ]
        change wpAnyH _ _ _ _ _ 10 #[true, true, true, true, true, true, true, true, true, true, true, true, true, true, true, true, true, true, true, true, true, true, true, true, true, true, true, true, true, true, true, true, false, false, false, false, false, false, false, false, false, false] _ _
        refine wpAnyH_ready (rs := [32]) (by kernel_rfl) (by simp) ?_
        refine AllReadyH.cons rfl (fun K hK => ?_) AllReadyH.nil
        go_simp
        refine (HRS.out _ (HU8.out.then hHeld.2.2.2)).mono ?_
        rintro e z9 ⟨rfl, hz9⟩
        go_wp2
        refine hK.out _ _ ⟨hHeld.1.upd hz9 (by simp), hHeld.2.1.upd hz9 (by simp), hHeld.2.2.1.upd hz9 (by simp), hHeld.2.2.2.then hz9⟩ (fun hHeld => ?_)
        clear hK K
        try simp only [Act.put, List.setIfInBounds_toArray, List.set_cons_zero, List.set_cons_succ]
        change wpAnyH _ _ _ _ _ 9 #[true, true, true, true, true, true, true, true, true, true, true, true, true, true, true, true, true, true, true, true, true, true, true, true, true, true, true, true, true, true, true, true, true, false, false, false, false, false, false, false, false, false] _ _
        refine heldTake (i := 33) (d := some 85) (v := ?v33_40) rfl rfl (by kernel_rfl) (by kernel_rfl) (by kernel_rfl) (fun _ _ _ h => h) (by rfl) ?hy33_40 (by assumption) ?r33_40
        case hy33_40 => (intro w hSw; (try dsimp only at hSw); go_simp; try with_reducible rfl)
        try simp only [Act.put, List.setIfInBounds_toArray, List.set_cons_zero, List.set_cons_succ]
        change wpAnyH _ _ _ _ _ 8 #[true, true, true, true, true, true, true, true, true, true, true, true, true, true, true, true, true, true, true, true, true, true, true, true, true, true, true, true, true, true, true, true, true, true, false, false, false, false, false, false, false, false] _ _
        refine heldTake (i := 34) (d := some 86) (v := ?v34_41) rfl rfl (by kernel_rfl) (by kernel_rfl) (by kernel_rfl) (fun _ _ _ h => h) (by rfl) ?hy34_41 (by assumption) ?r34_41
        case hy34_41 => (intro w hSw; (try dsimp only at hSw); go_simp; try with_reducible rfl)
        try simp only [Act.put, List.setIfInBounds_toArray, List.set_cons_zero, List.set_cons_succ]
        change wpAnyH _ _ _ _ _ 7 #[true, true, true, true, true, true, true, true, true, true, true, true, true, true, true, true, true, true, true, true, true, true, true, true, true, true, true, true, true, true, true, true, true, true, true, false, false, false, false, false, false, false] _ _
        refine heldTake (i := 35) (d := some 87) (v := ?v35_42) rfl rfl (by kernel_rfl) (by kernel_rfl) (by kernel_rfl) (fun _ _ _ h => h) (by rfl) ?hy35_42 (by assumption) ?r35_42
        case hy35_42 => (intro w hSw; (try dsimp only at hSw); go_simp; try with_reducible rfl)
        try simp only [Act.put, List.setIfInBounds_toArray, List.set_cons_zero, List.set_cons_succ]
        change wpAnyH _ _ _ _ _ 6 #[true, true, true, true, true, true, true, true, true, true, true, true, true, true, true, true, true, true, true, true, true, true, true, true, true, true, true, true, true, true, true, true, true, true, true, true, false, false, false, false, false, false] _ _
        refine heldTake (i := 36) (d := some 88) (v := ?v36_43) rfl rfl (by kernel_rfl) (by kernel_rfl) (by kernel_rfl) (fun _ _ _ h => h) (by rfl) ?hy36_43 (by assumption) ?r36_43
        case hy36_43 => (intro w hSw; (try dsimp only at hSw); go_simp; try with_reducible rfl)
        try simp only [Act.put, List.setIfInBounds_toArray, List.set_cons_zero, List.set_cons_succ]
        change wpAnyH _ _ _ _ _ 5 #[true, true, true, true, true, true, true, true, true, true, true, true, true, true, true, true, true, true, true, true, true, true, true, true, true, true, true, true, true, true, true, true, true, true, true, true, true, false, false, false, false, false] _ _
        refine heldTake (i := 37) (d := some 89) (v := ?v37_44) rfl rfl (by kernel_rfl) (by kernel_rfl) (by kernel_rfl) (fun _ _ _ h => h) (by rfl) ?hy37_44 (by assumption) ?r37_44
        case hy37_44 => (intro w5 hSw; have q0c0 := hSw.1.cell 0 rfl; have q0c1 := hSw.1.cell 1 rfl; have q0c2 := hSw.1.cell 2 rfl; have q0c3 := hSw.1.cell 3 rfl; have q0c4 := hSw.1.cell 4 rfl; have q0c5 := hSw.1.cell 5 rfl; have q0c6 := hSw.1.cell 6 rfl; have q0c7 := hSw.1.cell 7 rfl; have q0c8 := hSw.1.cell 8 rfl; go_simp; try with_reducible rfl)
        try simp only [Act.put, List.setIfInBounds_toArray, List.set_cons_zero, List.set_cons_succ]
        change wpAnyH _ _ _ _ _ 4 #[true, true, true, true, true, true, true, true, true, true, true, true, true, true, true, true, true, true, true, true, true, true, true, true, true, true, true, true, true, true, true, true, true, true, true, true, true, true, false, false, false, false] _ _
        refine heldTake (i := 39) (d := some 91) (v := ?v39_45) rfl rfl (by kernel_rfl) (by kernel_rfl) (by kernel_rfl) (fun _ _ _ h => h) (by rfl) ?hy39_45 (by assumption) ?r39_45
        case hy39_45 => (intro w hSw; (try dsimp only at hSw); go_simp; try with_reducible rfl)
        try simp only [Act.put, List.setIfInBounds_toArray, List.set_cons_zero, List.set_cons_succ]
        change wpAnyH _ _ _ _ _ 3 #[true, true, true, true, true, true, true, true, true, true, true, true, true, true, true, true, true, true, true, true, true, true, true, true, true, true, true, true, true, true, true, true, true, true, true, true, true, true, false, true, false, false] _ _
        refine wpAnyH_ready (rs := [38]) (by kernel_rfl) (by simp) ?_
        refine AllReadyH.cons rfl (fun K hK => ?_) AllReadyH.nil
        go_simp
        refine (HNM.out _).mono ?_
        rintro e z9 ⟨rfl, hz9⟩
        subst hz9
        go_wp2
        refine hK.out _ _ hHeld (fun hHeld => ?_)
        clear hK K
        try simp only [Act.put, List.setIfInBounds_toArray, List.set_cons_zero, List.set_cons_succ]
        change wpAnyH _ _ _ _ _ 2 #[true, true, true, true, true, true, true, true, true, true, true, true, true, true, true, true, true, true, true, true, true, true, true, true, true, true, true, true, true, true, true, true, true, true, true, true, true, true, true, true, false, false] _ _
        refine heldTake (i := 40) (d := some 92) (v := ?v40_47) rfl rfl (by kernel_rfl) (by kernel_rfl) (by kernel_rfl) (fun _ _ _ h => h) (by rfl) ?hy40_47 (by assumption) ?r40_47
        case hy40_47 => (intro w hSw; (try dsimp only at hSw); go_simp; try with_reducible rfl)
        try simp only [Act.put, List.setIfInBounds_toArray, List.set_cons_zero, List.set_cons_succ]
        change wpAnyH _ _ _ _ _ 1 #[true, true, true, true, true, true, true, true, true, true, true, true, true, true, true, true, true, true, true, true, true, true, true, true, true, true, true, true, true, true, true, true, true, true, true, true, true, true, true, true, true, false] _ _
        refine heldTake (i := 41) (d := some 93) (v := ?v41_48) rfl rfl (by kernel_rfl) (by kernel_rfl) (by kernel_rfl) (fun _ _ _ h => h) (by rfl) ?hy41_48 (by assumption) ?r41_48
        case hy41_48 => (intro w hSw; (try dsimp only at hSw); go_simp; try with_reducible rfl)
        try simp only [Act.put, List.setIfInBounds_toArray, List.set_cons_zero, List.set_cons_succ]
        change wpAnyH _ _ _ _ _ 0 #[true, true, true, true, true, true, true, true, true, true, true, true, true, true, true, true, true, true, true, true, true, true, true, true, true, true, true, true, true, true, true, true, true, true, true, true, true, true, true, true, true, true] _ _
        refine wpAnyH_done (by kernel_rfl) ?_ 0
        have HU9 := Lib.hid (HU8.out.then hHeld.2.2.2)
        have HQ9 := Lib.hid (HQ8.out.upd hHeld.2.2.2 (by simp))
        have HVB9 := Lib.hid (HVB8.out.upd hHeld.2.2.2)
        clear hHeld HB8 HC8 HP8 HQ8 HU8 HVA8 HVB8
        generalize z9 = w9 at *
        have k0 := HQ9.out.cell 0 rfl
        have k1 := HQ9.out.cell 1 rfl
        have k2 := HQ9.out.cell 2 rfl
        have k3 := HQ9.out.cell 3 rfl
        have k4 := HQ9.out.cell 4 rfl
        have k5 := HQ9.out.cell 5 rfl
        have k6 := HQ9.out.cell 6 rfl
        have k7 := HQ9.out.cell 7 rfl
        have k8 := HQ9.out.cell 8 rfl
        cases OB
        · have hsb := HB2.out rfl
          subst hsb
          go_wp2_with fail
          refine (HBS.out _ _ HVB9.out).mono ?_
          rintro r w10 ⟨rfl, hu10⟩
          go_wp2_with fail
          refine (HL.out _).mono ?_
          rintro r w11 ⟨rfl, hu11⟩
          go_wp2
          go_ret
          exact ⟨rfl, (HU9.out.then hu10).then hu11⟩
        · obtain ⟨hrb, hlb⟩ := HB1.out rfl
          subst hrb
          subst hlb
          go_wp2_with fail
          refine (HBR.out _ _ HVB9.out).mono ?_
          rintro r w10 ⟨rfl, hu10⟩
          have HQ10 := Lib.hid (HQ9.out.upd hu10 (by simp))
          have HVB10 := Lib.hid (HVB9.out.upd hu10)
          have HU10 := Lib.hid (HU9.out.then hu10)
          clear hu10 HQ9 HVB9 HU9 k0 k1 k2 k3 k4 k5 k6 k7 k8
          have k0 := HQ10.out.cell 0 rfl
          have k1 := HQ10.out.cell 1 rfl
          have k2 := HQ10.out.cell 2 rfl
          have k3 := HQ10.out.cell 3 rfl
          have k4 := HQ10.out.cell 4 rfl
          have k5 := HQ10.out.cell 5 rfl
          have k6 := HQ10.out.cell 6 rfl
          have k7 := HQ10.out.cell 7 rfl
          have k8 := HQ10.out.cell 8 rfl
          go_wp2_with fail
          refine (HBL.out _ _ HVB10.out).mono ?_
          rintro r w11 ⟨rfl, hu11⟩
          go_wp2_with fail
          refine (HL.out _).mono ?_
          rintro r w12 ⟨rfl, hu12⟩
          go_wp2
          go_ret
          exact ⟨rfl, (HU10.out.then hu11).then hu12⟩
      · have hsae := HA0.out rfl
        subst hsae
        clear HA0
        go_upto_region 10 with fail
        refine wp_region_held_drew (S := fun w' => Blk w' q0 [.int .i64 eop, .string ep, .string eq, .int .i64 ek, .int .i64 em, .int .u32 (et : Nat), .string eD, .int .i64 en, ev] 27 ∧ Blk w' q1 [.int .i64 oop, .string op, .string oq, .int .i64 ok, .int .i64 om, .int .u32 (ot : Nat), .string oD, .int .i64 on, ov] 27 ∧ Blk w' q8 [.int .i64 aop, .string ap, .string aq, .int .i64 ak, .int .i64 am, .int .u32 (at_ : Nat), .string aD, .int .i64 an, .slice vaa al.length vac] 27 ∧ Upd [] w8 w') (by kernel_rfl) ⟨HB8.out.upd ((Upd.refl [] _).drew) (by simp), HC8.out.upd ((Upd.refl [] _).drew) (by simp), HP8.out.upd ((Upd.refl [] _).drew) (by simp), (Upd.refl [] _).drew⟩ (fun hHeld => ?_)
        change wpAnyH _ _ _ _ _ 42 #[false, false, false, false, false, false, false, false, false, false, false, false, false, false, false, false, false, false, false, false, false, false, false, false, false, false, false, false, false, false, false, false, false, false, false, false, false, false, false, false, false, false] _ _
        refine heldTake (i := 0) (d := some 52) (v := ?v0_49) rfl rfl (by kernel_rfl) (by kernel_rfl) (by kernel_rfl) (fun _ _ _ h => h) (by rfl) ?hy0_49 (by assumption) ?r0_49
        case hy0_49 => (intro w5 hSw; have q0c0 := hSw.1.cell 0 rfl; have q0c1 := hSw.1.cell 1 rfl; have q0c2 := hSw.1.cell 2 rfl; have q0c3 := hSw.1.cell 3 rfl; have q0c4 := hSw.1.cell 4 rfl; have q0c5 := hSw.1.cell 5 rfl; have q0c6 := hSw.1.cell 6 rfl; have q0c7 := hSw.1.cell 7 rfl; have q0c8 := hSw.1.cell 8 rfl; go_simp; try with_reducible rfl)
        try simp only [Act.put, List.setIfInBounds_toArray, List.set_cons_zero, List.set_cons_succ]
        change wpAnyH _ _ _ _ _ 41 #[true, false, false, false, false, false, false, false, false, false, false, false, false, false, false, false, false, false, false, false, false, false, false, false, false, false, false, false, false, false, false, false, false, false, false, false, false, false, false, false, false, false] _ _
        refine heldTake (i := 2) (d := some 54) (v := ?v2_50) rfl rfl (by kernel_rfl) (by kernel_rfl) (by kernel_rfl) (fun _ _ _ h => h) (by rfl) ?hy2_50 (by assumption) ?r2_50
        case hy2_50 => (intro w5 hSw; have q0c0 := hSw.1.cell 0 rfl; have q0c1 := hSw.1.cell 1 rfl; have q0c2 := hSw.1.cell 2 rfl; have q0c3 := hSw.1.cell 3 rfl; have q0c4 := hSw.1.cell 4 rfl; have q0c5 := hSw.1.cell 5 rfl; have q0c6 := hSw.1.cell 6 rfl; have q0c7 := hSw.1.cell 7 rfl; have q0c8 := hSw.1.cell 8 rfl; go_simp; try with_reducible rfl)
        try simp only [Act.put, List.setIfInBounds_toArray, List.set_cons_zero, List.set_cons_succ]
        change wpAnyH _ _ _ _ _ 40 #[true, false, true, false, false, false, false, false, false, false, false, false, false, false, false, false, false, false, false, false, false, false, false, false, false, false, false, false, false, false, false, false, false, false, false, false, false, false, false, false, false, false] _ _
        refine wpAnyH_ready (rs := [1]) (by kernel_rfl) (by simp) ?_
        refine AllReadyH.cons rfl (fun K hK => ?_) AllReadyH.nil
        go_simp
        refine (HSR.out _ (HU8.out.then hHeld.2.2.2)).mono ?_
        rintro e z9 ⟨rfl, hz9⟩
        go_wp2
        refine hK.out _ _ ⟨hHeld.1.upd hz9 (by simp), hHeld.2.1.upd hz9 (by simp), hHeld.2.2.1.upd hz9 (by simp), hHeld.2.2.2.then hz9⟩ (fun hHeld => ?_)
        clear hK K
        try simp only [Act.put, List.setIfInBounds_toArray, List.set_cons_zero, List.set_cons_succ]
        change wpAnyH _ _ _ _ _ 39 #[true, true, true, false, false, false, false, false, false, false, false, false, false, false, false, false, false, false, false, false, false, false, false, false, false, false, false, false, false, false, false, false, false, false, false, false, false, false, false, false, false, false] _ _
        refine wpAnyH_ready (rs := [3]) (by kernel_rfl) (by simp) ?_
        refine AllReadyH.cons rfl (fun K hK => ?_) AllReadyH.nil
        go_simp
        refine (HRR.out _ (HU8.out.then hHeld.2.2.2)).mono ?_
        rintro e z9 ⟨rfl, hz9⟩
        go_wp2
        refine hK.out _ _ ⟨hHeld.1.upd hz9 (by simp), hHeld.2.1.upd hz9 (by simp), hHeld.2.2.1.upd hz9 (by simp), hHeld.2.2.2.then hz9⟩ (fun hHeld => ?_)
        clear hK K
        try simp only [Act.put, List.setIfInBounds_toArray, List.set_cons_zero, List.set_cons_succ]
        change wpAnyH _ _ _ _ _ 38 #[true, true, true, true, false, false, false, false, false, false, false, false, false, false, false, false, false, false, false, false, false, false, false, false, false, false, false, false, false, false, false, false, false, false, false, false, false, false, false, false, false, false] _ _
        refine heldTake (i := 4) (d := some 56) (v := ?v4_53) rfl rfl (by kernel_rfl) (by kernel_rfl) (by kernel_rfl) (fun _ _ _ h => h) (by rfl) ?hy4_53 (by assumption) ?r4_53
        case hy4_53 => (intro w hSw; (try dsimp only at hSw); go_simp; try with_reducible rfl)
        try simp only [Act.put, List.setIfInBounds_toArray, List.set_cons_zero, List.set_cons_succ]
        change wpAnyH _ _ _ _ _ 37 #[true, true, true, true, true, false, false, false, false, false, false, false, false, false, false, false, false, false, false, false, false, false, false, false, false, false, false, false, false, false, false, false, false, false, false, false, false, false, false, false, false, false] _ _
        refine heldTake (i := 5) (d := some 57) (v := ?v5_54) rfl rfl (by kernel_rfl) (by kernel_rfl) (by kernel_rfl) (fun _ _ _ h => h) (by rfl) ?hy5_54 (by assumption) ?r5_54
        case hy5_54 => (intro w hSw; (try dsimp only at hSw); go_simp; try with_reducible rfl)
        try simp only [Act.put, List.setIfInBounds_toArray, List.set_cons_zero, List.set_cons_succ]
        change wpAnyH _ _ _ _ _ 36 #[true, true, true, true, true, true, false, false, false, false, false, false, false, false, false, false, false, false, false, false, false, false, false, false, false, false, false, false, false, false, false, false, false, false, false, false, false, false, false, false, false, false] _ _
        refine heldTake (i := 6) (d := some 58) (v := ?v6_55) rfl rfl (by kernel_rfl) (by kernel_rfl) (by kernel_rfl) (fun _ _ _ h => h) (by rfl) ?hy6_55 (by assumption) ?r6_55
        case hy6_55 => (intro w5 hSw; have q0c0 := hSw.1.cell 0 rfl; have q0c1 := hSw.1.cell 1 rfl; have q0c2 := hSw.1.cell 2 rfl; have q0c3 := hSw.1.cell 3 rfl; have q0c4 := hSw.1.cell 4 rfl; have q0c5 := hSw.1.cell 5 rfl; have q0c6 := hSw.1.cell 6 rfl; have q0c7 := hSw.1.cell 7 rfl; have q0c8 := hSw.1.cell 8 rfl; go_simp; try with_reducible rfl)
        try simp only [Act.put, List.setIfInBounds_toArray, List.set_cons_zero, List.set_cons_succ]
        change wpAnyH _ _ _ _ _ 35 #[true, true, true, true, true, true, true, false, false, false, false, false, false, false, false, false, false, false, false, false, false, false, false, false, false, false, false, false, false, false, false, false, false, false, false, false, false, false, false, false, false, false] _ _
        refine heldTake (i := 8) (d := some 60) (v := ?v8_56) rfl rfl (by kernel_rfl) (by kernel_rfl) (by kernel_rfl) (fun _ _ _ h => h) (by rfl) ?hy8_56 (by assumption) ?r8_56
        case hy8_56 => (intro w hSw; (try dsimp only at hSw); go_simp; try with_reducible rfl)
        try simp only [Act.put, List.setIfInBounds_toArray, List.set_cons_zero, List.set_cons_succ]
        change wpAnyH _ _ _ _ _ 34 #[true, true, true, true, true, true, true, false, true, false, false, false, false, false, false, false, false, false, false, false, false, false, false, false, false, false, false, false, false, false, false, false, false, false, false, false, false, false, false, false, false, false] _ _
        refine wpAnyH_ready (rs := [7]) (by kernel_rfl) (by simp) ?_
        refine AllReadyH.cons rfl (fun K hK => ?_) AllReadyH.nil
        go_simp
        refine (HSL.out _ (HU8.out.then hHeld.2.2.2)).mono ?_
        rintro e z9 ⟨rfl, hz9⟩
        go_wp2
        refine hK.out _ _ ⟨hHeld.1.upd hz9 (by simp), hHeld.2.1.upd hz9 (by simp), hHeld.2.2.1.upd hz9 (by simp), hHeld.2.2.2.then hz9⟩ (fun hHeld => ?_)
        clear hK K
        try simp only [Act.put, List.setIfInBounds_toArray, List.set_cons_zero, List.set_cons_succ]
        change wpAnyH _ _ _ _ _ 33 #[true, true, true, true, true, true, true, true, true, false, false, false, false, false, false, false, false, false, false, false, false, false, false, false, false, false, false, false, false, false, false, false, false, false, false, false, false, false, false, false, false, false] _ _
        refine heldTake (i := 9) (d := some 61) (v := ?v9_58) rfl rfl (by kernel_rfl) (by kernel_rfl) (by kernel_rfl) (fun _ _ _ h => h) (by rfl) ?hy9_58 (by assumption) ?r9_58
        case hy9_58 => (intro w hSw; (try dsimp only at hSw); go_simp; try with_reducible rfl)
        try simp only [Act.put, List.setIfInBounds_toArray, List.set_cons_zero, List.set_cons_succ]
        change wpAnyH _ _ _ _ _ 32 #[true, true, true, true, true, true, true, true, true, true, false, false, false, false, false, false, false, false, false, false, false, false, false, false, false, false, false, false, false, false, false, false, false, false, false, false, false, false, false, false, false, false] _ _
        refine heldTake (i := 10) (d := some 62) (v := ?v10_59) rfl rfl (by kernel_rfl) (by kernel_rfl) (by kernel_rfl) (fun _ _ _ h => h) (by rfl) ?hy10_59 (by assumption) ?r10_59
        case hy10_59 => (intro w hSw; (try dsimp only at hSw); go_simp; try with_reducible rfl)
        try simp only [Act.put, List.setIfInBounds_toArray, List.set_cons_zero, List.set_cons_succ]
        change wpAnyH _ _ _ _ _ 31 #[true, true, true, true, true, true, true, true, true, true, true, false, false, false, false, false, false, false, false, false, false, false, false, false, false, false, false, false, false, false, false, false, false, false, false, false, false, false, false, false, false, false] _ _
        refine heldTake (i := 11) (d := some 63) (v := ?v11_60) rfl rfl (by kernel_rfl) (by kernel_rfl) (by kernel_rfl) (fun _ _ _ h => h) (by rfl) ?hy11_60 (by assumption) ?r11_60
        case hy11_60 => (intro w hSw; (try dsimp only at hSw); go_simp; try with_reducible rfl)
        try simp only [Act.put, List.setIfInBounds_toArray, List.set_cons_zero, List.set_cons_succ]
        change wpAnyH _ _ _ _ _ 30 #[true, true, true, true, true, true, true, true, true, true, true, true, false, false, false, false, false, false, false, false, false, false, false, false, false, false, false, false, false, false, false, false, false, false, false, false, false, false, false, false, false, false] _ _
        refine heldTake (i := 12) (d := some 64) (v := ?v12_61) rfl rfl (by kernel_rfl) (by kernel_rfl) (by kernel_rfl) (fun _ _ _ h => h) (by rfl) ?hy12_61 (by assumption) ?r12_61
        case hy12_61 => (intro w hSw; (try dsimp only at hSw); go_simp; try with_reducible rfl)
        try simp only [Act.put, List.setIfInBounds_toArray, List.set_cons_zero, List.set_cons_succ]
        change wpAnyH _ _ _ _ _ 29 #[true, true, true, true, true, true, true, true, true, true, true, true, true, false, false, false, false, false, false, false, false, false, false, false, false, false, false, false, false, false, false, false, false, false, false, false, false, false, false, false, false, false] _ _
        refine heldTake (i := 13) (d := some 65) (v := ?v13_62) rfl rfl (by kernel_rfl) (by kernel_rfl) (by kernel_rfl) (fun _ _ _ h => h) (by rfl) ?hy13_62 (by assumption) ?r13_62
        case hy13_62 => (intro w5 hSw; have q0c0 := hSw.1.cell 0 rfl; have q0c1 := hSw.1.cell 1 rfl; have q0c2 := hSw.1.cell 2 rfl; have q0c3 := hSw.1.cell 3 rfl; have q0c4 := hSw.1.cell 4 rfl; have q0c5 := hSw.1.cell 5 rfl; have q0c6 := hSw.1.cell 6 rfl; have q0c7 := hSw.1.cell 7 rfl; have q0c8 := hSw.1.cell 8 rfl; go_simp; try with_reducible rfl)
        try simp only [Act.put, List.setIfInBounds_toArray, List.set_cons_zero, List.set_cons_succ]
        change wpAnyH _ _ _ _ _ 28 #[true, true, true, true, true, true, true, true, true, true, true, true, true, true, false, false, false, false, false, false, false, false, false, false, false, false, false, false, false, false, false, false, false, false, false, false, false, false, false, false, false, false] _ _
        refine wpAnyH_ready (rs := [14]) (by kernel_rfl) (by simp) ?_
        refine AllReadyH.cons rfl (fun K hK => ?_) AllReadyH.nil
        go_simp
        refine (HRR.out _ (HU8.out.then hHeld.2.2.2)).mono ?_
        rintro e z9 ⟨rfl, hz9⟩
        go_wp2
        refine hK.out _ _ ⟨hHeld.1.upd hz9 (by simp), hHeld.2.1.upd hz9 (by simp), hHeld.2.2.1.upd hz9 (by simp), hHeld.2.2.2.then hz9⟩ (fun hHeld => ?_)
        clear hK K
        try simp only [Act.put, List.setIfInBounds_toArray, List.set_cons_zero, List.set_cons_succ]
        change wpAnyH _ _ _ _ _ 27 #[true, true, true, true, true, true, true, true, true, true, true, true, true, true, true, false, false, false, false, false, false, false, false, false, false, false, false, false, false, false, false, false, false, false, false, false, false, false, false, false, false, false] _ _
        refine heldTake (i := 15) (d := some 67) (v := ?v15_64) rfl rfl (by kernel_rfl) (by kernel_rfl) (by kernel_rfl) (fun _ _ _ h => h) (by rfl) ?hy15_64 (by assumption) ?r15_64
        case hy15_64 => (intro w hSw; (try dsimp only at hSw); go_simp; try with_reducible rfl)
        try simp only [Act.put, List.setIfInBounds_toArray, List.set_cons_zero, List.set_cons_succ]
        change wpAnyH _ _ _ _ _ 26 #[true, true, true, true, true, true, true, true, true, true, true, true, true, true, true, true, false, false, false, false, false, false, false, false, false, false, false, false, false, false, false, false, false, false, false, false, false, false, false, false, false, false] _ _
        refine heldTake (i := 16) (d := some 68) (v := ?v16_65) rfl rfl (by kernel_rfl) (by kernel_rfl) (by kernel_rfl) (fun _ _ _ h => h) (by rfl) ?hy16_65 (by assumption) ?r16_65
        case hy16_65 => (intro w hSw; (try dsimp only at hSw); go_simp; try with_reducible rfl)
        try simp only [Act.put, List.setIfInBounds_toArray, List.set_cons_zero, List.set_cons_succ]
        change wpAnyH _ _ _ _ _ 25 #[true, true, true, true, true, true, true, true, true, true, true, true, true, true, true, true, true, false, false, false, false, false, false, false, false, false, false, false, false, false, false, false, false, false, false, false, false, false, false, false, false, false] _ _
        refine heldTake (i := 17) (d := some 69) (v := ?v17_66) rfl rfl (by kernel_rfl) (by kernel_rfl) (by kernel_rfl) (fun _ _ _ h => h) (by rfl) ?hy17_66 (by assumption) ?r17_66
        case hy17_66 => (intro w hSw; (try dsimp only at hSw); go_simp; try with_reducible rfl)
        try simp only [Act.put, List.setIfInBounds_toArray, List.set_cons_zero, List.set_cons_succ]
        change wpAnyH _ _ _ _ _ 24 #[true, true, true, true, true, true, true, true, true, true, true, true, true, true, true, true, true, true, false, false, false, false, false, false, false, false, false, false, false, false, false, false, false, false, false, false, false, false, false, false, false, false] _ _
        refine heldTake (i := 18) (d := some 70) (v := ?v18_67) rfl rfl (by kernel_rfl) (by kernel_rfl) (by kernel_rfl) (fun _ _ _ h => h) (by rfl) ?hy18_67 (by assumption) ?r18_67
        case hy18_67 => (intro w hSw; (try dsimp only at hSw); go_simp; try with_reducible rfl)
        try simp only [Act.put, List.setIfInBounds_toArray, List.set_cons_zero, List.set_cons_succ]
        change wpAnyH _ _ _ _ _ 23 #[true, true, true, true, true, true, true, true, true, true, true, true, true, true, true, true, true, true, true, false, false, false, false, false, false, false, false, false, false, false, false, false, false, false, false, false, false, false, false, false, false, false] _ _
        refine heldTake (i := 19) (d := some 71) (v := ?v19_68) rfl rfl (by kernel_rfl) (by kernel_rfl) (by kernel_rfl) (fun _ _ _ h => h) (by rfl) ?hy19_68 (by assumption) ?r19_68
        case hy19_68 => (intro w hSw; (try dsimp only at hSw); go_simp; try with_reducible rfl)
        try simp only [Act.put, List.setIfInBounds_toArray, List.set_cons_zero, List.set_cons_succ]
        change wpAnyH _ _ _ _ _ 22 #[true, true, true, true, true, true, true, true, true, true, true, true, true, true, true, true, true, true, true, true, false, false, false, false, false, false, false, false, false, false, false, false, false, false, false, false, false, false, false, false, false, false] _ _
        refine heldTake (i := 20) (d := some 72) (v := ?v20_69) rfl rfl (by kernel_rfl) (by kernel_rfl) (by kernel_rfl) (fun _ _ _ h => h) (by rfl) ?hy20_69 (by assumption) ?r20_69
        case hy20_69 => (intro w5 hSw; have q0c0 := hSw.2.2.1.cell 0 rfl; have q0c1 := hSw.2.2.1.cell 1 rfl; have q0c2 := hSw.2.2.1.cell 2 rfl; have q0c3 := hSw.2.2.1.cell 3 rfl; have q0c4 := hSw.2.2.1.cell 4 rfl; have q0c5 := hSw.2.2.1.cell 5 rfl; have q0c6 := hSw.2.2.1.cell 6 rfl; have q0c7 := hSw.2.2.1.cell 7 rfl; have q0c8 := hSw.2.2.1.cell 8 rfl; go_simp; try with_reducible rfl)
        try simp only [Act.put, List.setIfInBounds_toArray, List.set_cons_zero, List.set_cons_succ]
        change wpAnyH _ _ _ _ _ 21 #[true, true, true, true, true, true, true, true, true, true, true, true, true, true, true, true, true, true, true, true, true, false, false, false, false, false, false, false, false, false, false, false, false, false, false, false, false, false, false, false, false, false] _ _
        refine heldTake (i := 21) (d := some 73) (v := ?v21_70) rfl rfl (by kernel_rfl) (by kernel_rfl) (by kernel_rfl) (fun _ _ _ h => h) (by rfl) ?hy21_70 (by assumption) ?r21_70
        case hy21_70 => (intro w5 hSw; have q0c0 := hSw.1.cell 0 rfl; have q0c1 := hSw.1.cell 1 rfl; have q0c2 := hSw.1.cell 2 rfl; have q0c3 := hSw.1.cell 3 rfl; have q0c4 := hSw.1.cell 4 rfl; have q0c5 := hSw.1.cell 5 rfl; have q0c6 := hSw.1.cell 6 rfl; have q0c7 := hSw.1.cell 7 rfl; have q0c8 := hSw.1.cell 8 rfl; go_simp; try with_reducible rfl)
        try simp only [Act.put, List.setIfInBounds_toArray, List.set_cons_zero, List.set_cons_succ]
        change wpAnyH _ _ _ _ _ 20 #[true, true, true, true, true, true, true, true, true, true, true, true, true, true, true, true, true, true, true, true, true, true, false, false, false, false, false, false, false, false, false, false, false, false, false, false, false, false, false, false, false, false] _ _
        refine wpAnyH_ready (rs := [22]) (by kernel_rfl) (by simp) ?_
        refine AllReadyH.cons rfl (fun K hK => ?_) AllReadyH.nil
        go_simp
        refine (HAX.out _ (HU8.out.then hHeld.2.2.2) _ (HVA8.out.upd hHeld.2.2.2)).mono ?_
        rintro e z9 ⟨rfl, hz9⟩
        go_wp2
        refine hK.out _ _ ⟨hHeld.1.upd hz9 (by simp), hHeld.2.1.upd hz9 (by simp), hHeld.2.2.1.upd hz9 (by simp), hHeld.2.2.2.then hz9⟩ (fun hHeld => ?_)
        clear hK K
        try simp only [Act.put, List.setIfInBounds_toArray, List.set_cons_zero, List.set_cons_succ]
        change wpAnyH _ _ _ _ _ 19 #[true, true, true, true, true, true, true, true, true, true, true, true, true, true, true, true, true, true, true, true, true, true, true, false, false, false, false, false, false, false, false, false, false, false, false, false, false, false, false, false, false, false] _ _
        refine heldTake (i := 23) (d := some 75) (v := ?v23_72) rfl rfl (by kernel_rfl) (by kernel_rfl) (by kernel_rfl) (fun _ _ _ h => h) (by rfl) ?hy23_72 (by assumption) ?r23_72
        case hy23_72 => (intro w hSw; (try dsimp only at hSw); go_simp; try with_reducible rfl)
        try simp only [Act.put, List.setIfInBounds_toArray, List.set_cons_zero, List.set_cons_succ]
        change wpAnyH _ _ _ _ _ 18 #[true, true, true, true, true, true, true, true, true, true, true, true, true, true, true, true, true, true, true, true, true, true, true, true, false, false, false, false, false, false, false, false, false, false, false, false, false, false, false, false, false, false] _ _
        refine heldTake (i := 24) (d := some 76) (v := ?v24_73) rfl rfl (by kernel_rfl) (by kernel_rfl) (by kernel_rfl) (fun _ _ _ h => h) (by rfl) ?hy24_73 (by assumption) ?r24_73
        case hy24_73 => (intro w hSw; (try dsimp only at hSw); go_simp; try with_reducible rfl)
        try simp only [Act.put, List.setIfInBounds_toArray, List.set_cons_zero, List.set_cons_succ]
        change wpAnyH _ _ _ _ _ 17 #[true, true, true, true, true, true, true, true, true, true, true, true, true, true, true, true, true, true, true, true, true, true, true, true, true, false, false, false, false, false, false, false, false, false, false, false, false, false, false, false, false, false] _ _
        refine heldTake (i := 25) (d := some 77) (v := ?v25_74) rfl rfl (by kernel_rfl) (by kernel_rfl) (by kernel_rfl) (fun _ _ _ h => h) (by rfl) ?hy25_74 (by assumption) ?r25_74
        case hy25_74 => (intro w hSw; (try dsimp only at hSw); go_simp; try with_reducible rfl)
        try simp only [Act.put, List.setIfInBounds_toArray, List.set_cons_zero, List.set_cons_succ]
        change wpAnyH _ _ _ _ _ 16 #[true, true, true, true, true, true, true, true, true, true, true, true, true, true, true, true, true, true, true, true, true, true, true, true, true, true, false, false, false, false, false, false, false, false, false, false, false, false, false, false, false, false] _ _
        refine heldTake (i := 26) (d := some 78) (v := ?v26_75) rfl rfl (by kernel_rfl) (by kernel_rfl) (by kernel_rfl) (fun _ _ _ h => h) (by rfl) ?hy26_75 (by assumption) ?r26_75
        case hy26_75 => (intro w hSw; (try dsimp only at hSw); go_simp; try with_reducible rfl)
        try simp only [Act.put, List.setIfInBounds_toArray, List.set_cons_zero, List.set_cons_succ]
        change wpAnyH _ _ _ _ _ 15 #[true, true, true, true, true, true, true, true, true, true, true, true, true, true, true, true, true, true, true, true, true, true, true, true, true, true, true, false, false, false, false, false, false, false, false, false, false, false, false, false, false, false] _ _
        refine heldTake (i := 27) (d := some 79) (v := ?v27_76) rfl rfl (by kernel_rfl) (by kernel_rfl) (by kernel_rfl) (fun _ _ _ h => h) (by rfl) ?hy27_76 (by assumption) ?r27_76
        case hy27_76 => (intro w5 hSw; have q0c0 := hSw.1.cell 0 rfl; have q0c1 := hSw.1.cell 1 rfl; have q0c2 := hSw.1.cell 2 rfl; have q0c3 := hSw.1.cell 3 rfl; have q0c4 := hSw.1.cell 4 rfl; have q0c5 := hSw.1.cell 5 rfl; have q0c6 := hSw.1.cell 6 rfl; have q0c7 := hSw.1.cell 7 rfl; have q0c8 := hSw.1.cell 8 rfl; go_simp; try with_reducible rfl)
        try simp only [Act.put, List.setIfInBounds_toArray, List.set_cons_zero, List.set_cons_succ]
        change wpAnyH _ _ _ _ _ 14 #[true, true, true, true, true, true, true, true, true, true, true, true, true, true, true, true, true, true, true, true, true, true, true, true, true, true, true, true, false, false, false, false, false, false, false, false, false, false, false, false, false, false] _ _
        refine heldTake (i := 28) (d := some 80) (v := ?v28_77) rfl rfl (by kernel_rfl) (by kernel_rfl) (by kernel_rfl) (fun _ _ _ h => h) (by rfl) ?hy28_77 (by assumption) ?r28_77
        case hy28_77 => (intro w5 hSw; have q0c0 := hSw.2.1.cell 0 rfl; have q0c1 := hSw.2.1.cell 1 rfl; have q0c2 := hSw.2.1.cell 2 rfl; have q0c3 := hSw.2.1.cell 3 rfl; have q0c4 := hSw.2.1.cell 4 rfl; have q0c5 := hSw.2.1.cell 5 rfl; have q0c6 := hSw.2.1.cell 6 rfl; have q0c7 := hSw.2.1.cell 7 rfl; have q0c8 := hSw.2.1.cell 8 rfl; go_simp; try with_reducible rfl)
        try simp only [Act.put, List.setIfInBounds_toArray, List.set_cons_zero, List.set_cons_succ]
        change wpAnyH _ _ _ _ _ 13 #[true, true, true, true, true, true, true, true, true, true, true, true, true, true, true, true, true, true, true, true, true, true, true, true, true, true, true, true, true, false, false, false, false, false, false, false, false, false, false, false, false, false] _ _
        refine heldTake (i := 30) (d := some 82) (v := ?v30_78) rfl rfl (by kernel_rfl) (by kernel_rfl) (by kernel_rfl) (fun _ _ _ h => h) (by rfl) ?hy30_78 (by assumption) ?r30_78
        case hy30_78 => (intro w5 hSw; have q0c0 := hSw.1.cell 0 rfl; have q0c1 := hSw.1.cell 1 rfl; have q0c2 := hSw.1.cell 2 rfl; have q0c3 := hSw.1.cell 3 rfl; have q0c4 := hSw.1.cell 4 rfl; have q0c5 := hSw.1.cell 5 rfl; have q0c6 := hSw.1.cell 6 rfl; have q0c7 := hSw.1.cell 7 rfl; have q0c8 := hSw.1.cell 8 rfl; go_simp; try with_reducible rfl)
        try simp only [Act.put, List.setIfInBounds_toArray, List.set_cons_zero, List.set_cons_succ]
        change wpAnyH _ _ _ _ _ 12 #[true, true, true, true, true, true, true, true, true, true, true, true, true, true, true, true, true, true, true, true, true, true, true, true, true, true, true, true, true, false, true, false, false, false, false, false, false, false, false, false, false, false] _ _
        refine heldTake (i := 31) (d := some 83) (v := ?v31_79) rfl rfl (by kernel_rfl) (by kernel_rfl) (by kernel_rfl) (fun _ _ _ h => h) (by rfl) ?hy31_79 (by assumption) ?r31_79
        case hy31_79 => (intro w5 hSw; have q0c0 := hSw.2.1.cell 0 rfl; have q0c1 := hSw.2.1.cell 1 rfl; have q0c2 := hSw.2.1.cell 2 rfl; have q0c3 := hSw.2.1.cell 3 rfl; have q0c4 := hSw.2.1.cell 4 rfl; have q0c5 := hSw.2.1.cell 5 rfl; have q0c6 := hSw.2.1.cell 6 rfl; have q0c7 := hSw.2.1.cell 7 rfl; have q0c8 := hSw.2.1.cell 8 rfl; go_simp; try with_reducible rfl)
        try simp only [Act.put, List.setIfInBounds_toArray, List.set_cons_zero, List.set_cons_succ]
        change wpAnyH _ _ _ _ _ 11 #[true, true, true, true, true, true, true, true, true, true, true, true, true, true, true, true, true, true, true, true, true, true, true, true, true, true, true, true, true, false, true, true, false, false, false, false, false, false, false, false, false, false] _ _
        refine wpAnyH_ready (rs := [29]) (by kernel_rfl) (by simp) ?_
        refine AllReadyH.cons rfl (fun K hK => ?_) AllReadyH.nil
        go_simp
        refine (HSS.out _ (HU8.out.then hHeld.2.2.2)).mono ?_
        rintro e z9 ⟨rfl, hz9⟩
        go_wp2
        refine hK.out _ _ ⟨hHeld.1.upd hz9 (by simp), hHeld.2.1.upd hz9 (by simp), hHeld.2.2.1.upd hz9 (by simp), hHeld.2.2.2.then hz9⟩ (fun hHeld => ?_)
        clear hK K
        try simp only [Act.put, List.setIfInBounds_toArray, List.set_cons_zero, List.set_cons_succ]
        change wpAnyH _ _ _ _ _ 10 #[true, true, true, true, true, true, true, true, true, true, true, true, true, true, true, true, true, true, true, true, true, true, true, true, true, true, true, true, true, true, true, true, false, false, false, false, false, false, false, false, false, false] _ _
        refine wpAnyH_ready (rs := [32]) (by kernel_rfl) (by simp) ?_
        refine AllReadyH.cons rfl (fun K hK => ?_) AllReadyH.nil
        go_simp
        refine (HRS.out _ (HU8.out.then hHeld.2.2.2)).mono ?_
        rintro e z9 ⟨rfl, hz9⟩
        go_wp2
        refine hK.out _ _ ⟨hHeld.1.upd hz9 (by simp), hHeld.2.1.upd hz9 (by simp), hHeld.2.2.1.upd hz9 (by simp), hHeld.2.2.2.then hz9⟩ (fun hHeld => ?_)
        clear hK K
        try simp only [Act.put, List.setIfInBounds_toArray, List.set_cons_zero, List.set_cons_succ]
        change wpAnyH _ _ _ _ _ 9 #[true, true, true, true, true, true, true, true, true, true, true, true, true, true, true, true, true, true, true, true, true, true, true, true, true, true, true, true, true, true, true, true, true, false, false, false, false, false, false, false, false, false] _ _
        refine heldTake (i := 33) (d := some 85) (v := ?v33_82) rfl rfl (by kernel_rfl) (by kernel_rfl) (by kernel_rfl) (fun _ _ _ h => h) (by rfl) ?hy33_82 (by assumption) ?r33_82
        case hy33_82 => (intro w hSw; (try dsimp only at hSw); go_simp; try with_reducible rfl)
        try simp only [Act.put, List.setIfInBounds_toArray, List.set_cons_zero, List.set_cons_succ]
        change wpAnyH _ _ _ _ _ 8 #[true, true, true, true, true, true, true, true, true, true, true, true, true, true, true, true, true, true, true, true, true, true, true, true, true, true, true, true, true, true, true, true, true, true, false, false, false, false, false, false, false, false] _ _
        refine heldTake (i := 34) (d := some 86) (v := ?v34_83) rfl rfl (by kernel_rfl) (by kernel_rfl) (by kernel_rfl) (fun _ _ _ h => h) (by rfl) ?hy34_83 (by assumption) ?r34_83
        case hy34_83 => (intro w hSw; (try dsimp only at hSw); go_simp; try with_reducible rfl)
        try simp only [Act.put, List.setIfInBounds_toArray, List.set_cons_zero, List.set_cons_succ]
        change wpAnyH _ _ _ _ _ 7 #[true, true, true, true, true, true, true, true, true, true, true, true, true, true, true, true, true, true, true, true, true, true, true, true, true, true, true, true, true, true, true, true, true, true, true, false, false, false, false, false, false, false] _ _
        refine heldTake (i := 35) (d := some 87) (v := ?v35_84) rfl rfl (by kernel_rfl) (by kernel_rfl) (by kernel_rfl) (fun _ _ _ h => h) (by rfl) ?hy35_84 (by assumption) ?r35_84
        case hy35_84 => (intro w hSw; (try dsimp only at hSw); go_simp; try with_reducible rfl)
        try simp only [Act.put, List.setIfInBounds_toArray, List.set_cons_zero, List.set_cons_succ]
        change wpAnyH _ _ _ _ _ 6 #[true, true, true, true, true, true, true, true, true, true, true, true, true, true, true, true, true, true, true, true, true, true, true, true, true, true, true, true, true, true, true, true, true, true, true, true, false, false, false, false, false, false] _ _
        refine heldTake (i := 36) (d := some 88) (v := ?v36_85) rfl rfl (by kernel_rfl) (by kernel_rfl) (by kernel_rfl) (fun _ _ _ h => h) (by rfl) ?hy36_85 (by assumption) ?r36_85
        case hy36_85 => (intro w hSw; (try dsimp only at hSw); go_simp; try with_reducible rfl)
        try simp only [Act.put, List.setIfInBounds_toArray, List.set_cons_zero, List.set_cons_succ]
        change wpAnyH _ _ _ _ _ 5 #[true, true, true, true, true, true, true, true, true, true, true, true, true, true, true, true, true, true, true, true, true, true, true, true, true, true, true, true, true, true, true, true, true, true, true, true, true, false, false, false, false, false] _ _
        refine heldTake (i := 37) (d := some 89) (v := ?v37_86) rfl rfl (by kernel_rfl) (by kernel_rfl) (by kernel_rfl) (fun _ _ _ h => h) (by rfl) ?hy37_86 (by assumption) ?r37_86
        case hy37_86 => (intro w5 hSw; have q0c0 := hSw.1.cell 0 rfl; have q0c1 := hSw.1.cell 1 rfl; have q0c2 := hSw.1.cell 2 rfl; have q0c3 := hSw.1.cell 3 rfl; have q0c4 := hSw.1.cell 4 rfl; have q0c5 := hSw.1.cell 5 rfl; have q0c6 := hSw.1.cell 6 rfl; have q0c7 := hSw.1.cell 7 rfl; have q0c8 := hSw.1.cell 8 rfl; go_simp; try with_reducible rfl)
        try simp only [Act.put, List.setIfInBounds_toArray, List.set_cons_zero, List.set_cons_succ]
        change wpAnyH _ _ _ _ _ 4 #[true, true, true, true, true, true, true, true, true, true, true, true, true, true, true, true, true, true, true, true, true, true, true, true, true, true, true, true, true, true, true, true, true, true, true, true, true, true, false, false, false, false] _ _
        refine heldTake (i := 39) (d := some 91) (v := ?v39_87) rfl rfl (by kernel_rfl) (by kernel_rfl) (by kernel_rfl) (fun _ _ _ h => h) (by rfl) ?hy39_87 (by assumption) ?r39_87
        case hy39_87 => (intro w hSw; (try dsimp only at hSw); go_simp; try with_reducible rfl)
        try simp only [Act.put, List.setIfInBounds_toArray, List.set_cons_zero, List.set_cons_succ]
        change wpAnyH _ _ _ _ _ 3 #[true, true, true, true, true, true, true, true, true, true, true, true, true, true, true, true, true, true, true, true, true, true, true, true, true, true, true, true, true, true, true, true, true, true, true, true, true, true, false, true, false, false] _ _
        refine wpAnyH_ready (rs := [38]) (by kernel_rfl) (by simp) ?_
        refine AllReadyH.cons rfl (fun K hK => ?_) AllReadyH.nil
        go_simp
        refine (HNM.out _).mono ?_
        rintro e z9 ⟨rfl, hz9⟩
        subst hz9
        go_wp2
        refine hK.out _ _ hHeld (fun hHeld => ?_)
        clear hK K
        try simp only [Act.put, List.setIfInBounds_toArray, List.set_cons_zero, List.set_cons_succ]
        change wpAnyH _ _ _ _ _ 2 #[true, true, true, true, true, true, true, true, true, true, true, true, true, true, true, true, true, true, true, true, true, true, true, true, true, true, true, true, true, true, true, true, true, true, true, true, true, true, true, true, false, false] _ _
        refine heldTake (i := 40) (d := some 92) (v := ?v40_89) rfl rfl (by kernel_rfl) (by kernel_rfl) (by kernel_rfl) (fun _ _ _ h => h) (by rfl) ?hy40_89 (by assumption) ?r40_89
        case hy40_89 => (intro w hSw; (try dsimp only at hSw); go_simp; try with_reducible rfl)
        try simp only [Act.put, List.setIfInBounds_toArray, List.set_cons_zero, List.set_cons_succ]
        change wpAnyH _ _ _ _ _ 1 #[true, true, true, true, true, true, true, true, true, true, true, true, true, true, true, true, true, true, true, true, true, true, true, true, true, true, true, true, true, true, true, true, true, true, true, true, true, true, true, true, true, false] _ _
        refine heldTake (i := 41) (d := some 93) (v := ?v41_90) rfl rfl (by kernel_rfl) (by kernel_rfl) (by kernel_rfl) (fun _ _ _ h => h) (by rfl) ?hy41_90 (by assumption) ?r41_90
        case hy41_90 => (intro w hSw; (try dsimp only at hSw); go_simp; try with_reducible rfl)
        try simp only [Act.put, List.setIfInBounds_toArray, List.set_cons_zero, List.set_cons_succ]
        change wpAnyH _ _ _ _ _ 0 #[true, true, true, true, true, true, true, true, true, true, true, true, true, true, true, true, true, true, true, true, true, true, true, true, true, true, true, true, true, true, true, true, true, true, true, true, true, true, true, true, true, true] _ _
        refine wpAnyH_done (by kernel_rfl) ?_ 0
        have HU9 := Lib.hid (HU8.out.then hHeld.2.2.2)
        have HQ9 := Lib.hid (HQ8.out.upd hHeld.2.2.2 (by simp))
        have HVB9 := Lib.hid (HVB8.out.upd hHeld.2.2.2)
        clear hHeld HB8 HC8 HP8 HQ8 HU8 HVA8 HVB8
        generalize z9 = w9 at *
        have k0 := HQ9.out.cell 0 rfl
        have k1 := HQ9.out.cell 1 rfl
        have k2 := HQ9.out.cell 2 rfl
        have k3 := HQ9.out.cell 3 rfl
        have k4 := HQ9.out.cell 4 rfl
        have k5 := HQ9.out.cell 5 rfl
        have k6 := HQ9.out.cell 6 rfl
        have k7 := HQ9.out.cell 7 rfl
        have k8 := HQ9.out.cell 8 rfl
        cases OB
        · have hsb := HB2.out rfl
          subst hsb
          go_wp2_with fail
          refine (HBS.out _ _ HVB9.out).mono ?_
          rintro r w10 ⟨rfl, hu10⟩
          go_wp2_with fail
          refine (HL.out _).mono ?_
          rintro r w11 ⟨rfl, hu11⟩
          go_wp2
          go_ret
          exact ⟨rfl, (HU9.out.then hu10).then hu11⟩
        · obtain ⟨hrb, hlb⟩ := HB1.out rfl
          subst hrb
          subst hlb
          go_wp2_with fail
          refine (HBR.out _ _ HVB9.out).mono ?_
          rintro r w10 ⟨rfl, hu10⟩
          have HQ10 := Lib.hid (HQ9.out.upd hu10 (by simp))
          have HVB10 := Lib.hid (HVB9.out.upd hu10)
          have HU10 := Lib.hid (HU9.out.then hu10)
          clear hu10 HQ9 HVB9 HU9 k0 k1 k2 k3 k4 k5 k6 k7 k8
          have k0 := HQ10.out.cell 0 rfl
          have k1 := HQ10.out.cell 1 rfl
          have k2 := HQ10.out.cell 2 rfl
          have k3 := HQ10.out.cell 3 rfl
          have k4 := HQ10.out.cell 4 rfl
          have k5 := HQ10.out.cell 5 rfl
          have k6 := HQ10.out.cell 6 rfl
          have k7 := HQ10.out.cell 7 rfl
          have k8 := HQ10.out.cell 8 rfl
          go_wp2_with fail
          refine (HBL.out _ _ HVB10.out).mono ?_
          rintro r w11 ⟨rfl, hu11⟩
          go_wp2_with fail
          refine (HL.out _).mono ?_
          rintro r w12 ⟨rfl, hu12⟩
          go_wp2
          go_ret
          exact ⟨rfl, (HU10.out.then hu11).then hu12⟩
end Go.Proofs.YtigjingielnaoaaGreatDoor

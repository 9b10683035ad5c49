/- Package dump: Bytes: its walk. -/
import Derived.Test.YtibmhadnfggmlaaDoorDHx
namespace Go.Proofs.YtibmhadnfggmlaaDoor
set_option linter.unusedVariables false
set_option linter.unusedSimpArgs false
set_option linter.unusedSectionVars false
open Go.RowKit
set_option linter.unusedVariables false
set_option linter.unusedSimpArgs false

/-- A row of the call's own. -/
def OwnR (w0 w : World) (e : TypeId) (v : Value) (xs : List Value) : Prop := Row w e 1 v xs.length xs ∧ ∀ k, v.ownBlock = some k → w0.heap.size ≤ k
theorem OwnR.nil (w0 w : World) (e : TypeId) : OwnR w0 w e (.slice none 0 0) [] := ⟨Row.nil _ _ _, fun k h => by cases h⟩
theorem OwnR.upd {w0 w w' : World} {e : TypeId} {v : Value} {xs : List Value} (h : OwnR w0 w e v xs) (hu : Upd [] w w') : OwnR w0 w' e v xs := ⟨h.1.upd hu (by simp), h.2⟩
theorem OwnR.app {w0 w w' : World} {e : TypeId} {v v' : Value} {xs ys : List Value} (h : OwnR w0 w e v xs) (hu : Upd [] w0 w) (o : Obj) (hR : Row w' e 1 v' (xs.length + ys.length) (xs ++ ys)) (hU : Upd v.ownBlock.toList (w.alloc o) w') (hT : Later (w.alloc o) v v') :
    OwnR w0 w' e v' (xs ++ ys) ∧ Upd [] w0 w' := by
  refine ⟨⟨?_, ?_⟩, ?_⟩
  · rw [List.length_append]; exact hR
  · intro k hk
    rcases hT with h1 | ⟨g, h1, h2⟩
    · exact h.2 k (by rw [← h1]; exact hk)
    · rw [h1] at hk; simp at hk h2; have := hu.size; omega
  · exact (hu.alloc o).trans hU (fun k hk => .inr (h.2 k (by simpa using hk)))
theorem OwnR.form {w0 w : World} {e : TypeId} {v : Value} {xs : List Value} (h : OwnR w0 w e v xs) : ∃ a c, v = .slice a xs.length c := h.1.form
def wordB (q : List Nat) : Nat := numB 16 q % 256
def lineB (p : List Nat) : List Nat := ((splitC 32 p).drop 1).map wordB
def bytesP (ps : List (List Nat)) : List Nat := ps.flatMap lineB
def atP (ps : List (List Nat)) : Nat := numB 16 ((ps.headD []).take 8)
def bytesOk (ps : List (List Nat)) : Bool := decide (hexLines (min (atP ps) 1073741824) (bytesP ps) = ps)
def bytesR (ps : List (List Nat)) : List Nat := if bytesOk ps = true then bytesP ps else []
theorem numB_nil (b : Nat) : numB b [] = 0 := rfl
theorem lineB_len (p : List Nat) : (lineB p).length ≤ p.length := by
  unfold lineB
  rw [List.length_map, List.length_drop, splitC_len]
  have := List.countP_le_length (p := fun x => decide (x = 32)) (l := p)
  omega
theorem bytesP_len (ps : List (List Nat)) (h : ∀ p ∈ ps, p.length ≤ 100) : (bytesP ps).length ≤ 100 * ps.length := by
  unfold bytesP
  induction ps with
  | nil => simp
  | cons p r ih =>
    have h1 := ih (fun q hq => h q (List.mem_cons_of_mem _ hq))
    have h2 := lineB_len p
    have h3 := h p List.mem_cons_self
    simp only [List.flatMap_cons, List.length_append, List.length_cons]
    omega
theorem bytesP_snoc (ps : List (List Nat)) (p : List Nat) : bytesP (ps ++ [p]) = bytesP ps ++ lineB p := by simp [bytesP]
theorem bytesP_lt (ps : List (List Nat)) : ∀ x ∈ bytesP ps, x < 256 := by
  intro x hx
  unfold bytesP lineB at hx
  rw [List.mem_flatMap] at hx
  obtain ⟨p, _, hx⟩ := hx
  obtain ⟨q, _, rfl⟩ := List.mem_map.1 hx
  exact Nat.mod_lt _ (by decide)
set_option maxRecDepth 100000 in
set_option maxHeartbeats 6400000 in
theorem dBytes_any (ps : List (List Nat)) (v : Value) (w : World) (h : TextsAt w v ps) (hps : ∀ p ∈ ps, ∀ x ∈ p, x < 256) (hn : ps.length ≤ 20) (hl : ∀ p ∈ ps, p.length ≤ 100) :
    Calls Tryd.prog 14 #[v] w fun e w' => e = .returned (.tuple #[.string (strOf (bytesR ps)), .bool (bytesOk ps)]) ∧ Upd [] w w' := by
  have HTX := Lib.hid h
  obtain ⟨a, cap, rfl, hcap, h⟩ := h
  have H := Lib.hid h
  have HPS := Lib.hid hps
  have HL := Lib.hid hl
  clear h hps hl
  obtain ⟨n, hnn⟩ : ∃ n, ps.length = n := ⟨_, rfl⟩
  rw [hnn] at hn hcap HTX ⊢
  have HN := Lib.hid hnn
  clear hnn
  obtain ⟨i0, hi, hz0, hz1, hz2⟩ := info_parts infoByte
  go_enter Tryd.func14, Tryd.ntmps14
  go_wp2
  go_loopg [4, 12] n (fun gg s4 s12 wr => ∃ i, i ≤ n ∧ gg = n - i ∧ s12 = .int .i64 (i : Nat) ∧ Hid (OwnR w wr 5 s4 (u8s (bytesP (ps.take i)))) ∧ Hid (Upd [] w wr))
  case atStart => exact ⟨0, Nat.zero_le _, rfl, rfl, Lib.hid (OwnR.nil _ _ _), Lib.hid (Upd.refl _ _)⟩
  case round =>
    obtain ⟨wo, rfl⟩ : ∃ wo : World, wo = wr := ⟨_, rfl⟩
    obtain ⟨i, hin, rfl, rfl, HO, HU⟩ := hrel
    by_cases hc : i < n
    · have hcz : (i : Int) < (n : Int) := by omega
      have hi1 : i < ps.length := by rw [HN.out]; exact hc
      obtain ⟨b, off, rfl, d⟩ := H.out i hi1
      have d1 := (HU.out.at (textCell_lt d) (by simp) (off + i)).trans d
      have HTK : Hid (bytesP (ps.take (i + 1)) = bytesP (ps.take i) ++ lineB ps[i]) := Lib.hid (by rw [List.take_succ_eq_append_getElem hi1, bytesP_snoc])
      have HLB : Hid ((bytesP (ps.take i)).length ≤ 2000) := Lib.hid (by
        have := bytesP_len (ps.take i) (fun p hp => HL.out p (List.mem_of_mem_take hp))
        rw [List.length_take] at this; omega)
      have HP1 := Lib.hid (HL.out _ (List.getElem_mem hi1))
      have HP2 := Lib.hid (HPS.out _ (List.getElem_mem hi1))
      generalize ps[i] = P at *
      have HSP := Lib.hid (fun w => splitC_row (strOf P) 32 w (by rw [size_strOf]; have := HP1.out; omega))
      rw [bytesOf_strOf P HP2.out] at HSP
      have HBP : Hid ((splitC 32 P).length ≤ 101 ∧ 0 < (splitC 32 P).length) := Lib.hid (by
        rw [splitC_len]
        have := List.countP_le_length (p := fun x => decide (x = 32)) (l := P)
        have := HP1.out
        omega)
      have HWD : Hid (∀ q ∈ splitC 32 P, q.length ≤ 100) := Lib.hid (fun q hq => Nat.le_trans (splitC_mem 32 P q hq).2 HP1.out)
      have HW2 : Hid (∀ q ∈ splitC 32 P, ∀ x ∈ q, x < 256) := Lib.hid (fun q hq x hx => HP2.out x ((splitC_mem 32 P q hq).1 x hx))
      have HLN : Hid (lineB P = ((splitC 32 P).drop 1).map wordB) := Lib.hid rfl
      have hp32 : (32 : UInt8).toNat = 32 := rfl
      rw [hp32] at HSP
      clear hp32 d
      generalize splitC 32 P = QS at *
      generalize bytesP (ps.take i) = BP at *
      generalize lineB P = LB at *
      obtain ⟨BP2, hBP2⟩ : ∃ BP2, bytesP (ps.take (i + 1)) = BP2 := ⟨_, rfl⟩
      have HB2E := Lib.hid hBP2
      rw [hBP2] at HTK
      clear hBP2
      obtain ⟨va, vc, rfl⟩ := HO.out.form
      go_wp2_with fail
      refine (HSP.out _).mono ?_
      rintro e w1 ⟨⟨v1, rfl, hv1⟩, hu1⟩
      have HV1 := Lib.hid hv1
      obtain ⟨a1, c1, rfl, hc1, h1⟩ := hv1.textsAt
      clear hv1
      obtain ⟨m, hm⟩ : ∃ m, QS.length = m := ⟨_, rfl⟩
      have hm0 : 0 < m := by have := HBP.out; omega
      have hm1 : m ≤ 101 := by have := HBP.out; omega
      rw [hm] at hc1 ⊢
      have HM := Lib.hid hm
      rw [hm] at HV1
      have H1 := Lib.hid h1
      have HU1 := Lib.hid (HU.out.then hu1)
      have HO1 := Lib.hid (HO.out.upd hu1)
      have hm1z : (1 : Int) ≤ (m : Int) := by omega
      clear hm h1 hu1
      obtain ⟨b1, o1, hab, -⟩ := H1.out 0 (by rw [HM.out]; exact hm0)
      subst hab
      have HB1 : Hid (∀ (w4 : World) (v4 : Value) (xs : List Value), OwnR w w4 5 v4 xs → w4.heap[b1]? = w1.heap[b1]? → v4.ownBlock ≠ some b1) := Lib.hid (by
        intro w4 v4 xs h4 he
        rcases HV1.out.2 with ⟨e, _⟩ | ⟨g', cap', cur, e, hb, hh, _⟩
        · cases e
        · injection e with e1 e2 e3
          injection e1 with e1
          injection e1 with e1 e4
          subst e1
          rw [← he] at hh
          rcases h4.1.2 with ⟨rfl, _⟩ | ⟨g2, c2, cur2, rfl, hb2, hh2, _⟩
          · simp [Value.ownBlock]
          · simp only [Value.ownBlock]
            intro e5
            cases e5
            rw [hh] at hh2
            simp at hh2)
      by_cases hcc : 1 < c1
      · go_wp2
        go_loopg [4, 20] m (fun gg s4 s20 wr => ∃ k, k + 1 ≤ m ∧ gg = m - k ∧ s20 = .int .i64 (k : Nat) ∧ Hid (OwnR w wr 5 s4 (u8s (BP ++ ((QS.drop 1).take k).map wordB))) ∧ Hid (Upd [] w wr) ∧ Hid (wr.heap[b1]? = w1.heap[b1]?))
        case atStart => exact ⟨0, by omega, by omega, rfl, Lib.hid (by rw [List.take_zero, List.map_nil, List.append_nil]; exact HO1.out), HU1, Lib.hid rfl⟩
        case round =>
          obtain ⟨k, hk, rfl, rfl, HOk, HUk, HUj⟩ := hrel
          by_cases hkm : k + 1 < m
          · have hkz : (k : Int) < ((m - 1 : Nat) : Int) := by omega
            have hkz2 : k < m - 1 := by omega
            have hq1 : k + 1 < QS.length := by rw [HM.out]; exact hkm
            obtain ⟨bq, oq, hbq, dq⟩ := H1.out (k + 1) hq1
            obtain ⟨rfl, rfl⟩ : b1 = bq ∧ o1 = oq := by injection hbq with e; injection e with e1 e2; exact ⟨e1, e2⟩
            have dq1 := (World.cell?_of_block (a := ⟨b1, o1 + (k + 1), none⟩) HUj.out).trans dq
            rw [show o1 + (k + 1) = o1 + 1 + k by omega] at dq1
            have HTK2 : Hid (((QS.drop 1).take (k + 1)).map wordB = ((QS.drop 1).take k).map wordB ++ [wordB QS[k + 1]]) := Lib.hid (by
              have e : k < (QS.drop 1).length := by rw [List.length_drop]; omega
              rw [List.take_succ_eq_append_getElem e, List.map_append]
              simp [List.getElem_drop, Nat.add_comm 1 k])
            have HTL : Hid ((((QS.drop 1).take k).map wordB).length ≤ 100) := Lib.hid (by rw [List.length_map, List.length_take]; omega)
            have HQ1 := Lib.hid (HWD.out _ (List.getElem_mem hq1))
            have HQ2 := Lib.hid (HW2.out _ (List.getElem_mem hq1))
            generalize QS[k + 1] = QQ at *
            have HNB := Lib.hid (fun w => dnumber_any (strOf QQ) 16 w (by rw [size_strOf]; have := HQ1.out; omega) (by omega))
            rw [bytesOf_strOf QQ HQ2.out] at HNB
            have HWB : Hid (wordB QQ = numB 16 QQ % 256) := Lib.hid rfl
            generalize numB 16 QQ = NB at *
            generalize ((QS.drop 1).take k).map wordB = MK at *
            obtain ⟨va3, vc3, rfl⟩ := HOk.out.form
            clear dq hbq
            have HXL : Hid ((u8s (BP ++ MK)).length = BP.length + MK.length) := Lib.hid (by rw [length_u8s, List.length_append])
            obtain ⟨xl, hxl⟩ : ∃ xl, (u8s (BP ++ MK)).length = xl := ⟨_, rfl⟩
            have hxb : xl ≤ 2100 := by have := HXL.out; have := HLB.out; have := HTL.out; omega
            rw [hxl] at HOk ⊢
            have HXX := Lib.hid hxl
            clear hxl
            go_wp2_with fail
            refine (HNB.out _).mono ?_
            rintro e w3 ⟨rfl, hu3⟩
            have hO3 := HOk.out.upd hu3
            have HU3 := Lib.hid (HUk.out.then hu3)
            have hu3s := hu3.size
            have HUj3 : Hid (w3.heap[b1]? = w1.heap[b1]?) := Lib.hid ((hu3.block b1 (by have := textCell_lt dq1; exact this) (by simp)).trans HUj.out)
            clear hu3
            have hR5 : Row (w3.alloc (.cells #[.int .u8 ((NB : Int) % 256)] 5)) 5 1 (.slice va3 xl vc3) xl (u8s (BP ++ MK)) := by
              have := hO3.1.alloc (.cells #[.int .u8 ((NB : Int) % 256)] 5)
              rw [HXX.out] at this; exact this
            go_wp2_with (at_builtin; refine wpList_app _ rfl _ _ 28 rfl 5 i0 _ 1 1 Tryd.underlying28 hi hz0 hz1 hz2 rfl (by omega) (.slice va3 xl vc3) xl _ rfl hR5 ⟨w3.heap.size, 0, none⟩ 1 1 [_] rfl rfl (World.news_of_block (cs := #[_]) (t := 5) (fr := (0, 0)) (heap_alloc_new _ _)) (by simp [Value.oneCell']) (by unfold maxLen; omega) (by omega) ?_)
            intro v4 w4 hR4 hU4 hT4
            have hcast : ((NB : Int) % 256) = ((NB % 256 : Nat) : Int) := by omega
            have hap := hO3.app HU3.out (ys := [.int .u8 ((NB : Int) % 256)]) _ (by rw [HXX.out]; exact hR4) hU4 hT4
            have HAP : Hid (OwnR w w4 5 v4 (u8s (BP ++ ((QS.drop 1).take (k + 1)).map wordB)) ∧ Upd [] w w4) := Lib.hid ⟨by
              have h := hap.1
              rw [hcast, ← HWB.out] at h
              rw [HTK2.out, ← List.append_assoc, u8s_append]
              exact h, hap.2⟩
            have HW4 : Hid (w4.heap[b1]? = w1.heap[b1]?) := Lib.hid ((hU4.block b1 (by have h1 := textCell_lt dq1; have h2 := hu3s; simp; omega) (fun hm => HB1.out _ _ _ hO3 HUj3.out (by simpa using hm))).trans ((Below.heap_alloc w3 _ b1 (by have h1 := textCell_lt dq1; have h2 := hu3s; omega)).trans HUj3.out))
            clear hR4 hU4 hT4 hap hO3 hR5 hcast
            go_wp2
            go_roundg (m - (k + 1))
            · exact ⟨k + 1, by omega, rfl, by first | rfl | go_num, Lib.hid HAP.out.1, Lib.hid HAP.out.2, HW4⟩
            · omega
          · have hkz : ¬ (k : Int) < ((m - 1 : Nat) : Int) := by omega
            have hkz2 : ¬ k < m - 1 := by omega
            have hEQ : (QS.drop 1).take k = QS.drop 1 := List.take_of_length_le (by rw [List.length_drop, HM.out]; omega)
            rw [hEQ, ← HLN.out, ← HTK.out, ← HB2E.out] at HOk
            have HOk2 := Lib.hid HOk.out
            clear hEQ HOk
            go_wp2
            go_roundg (n - (i + 1))
            · exact ⟨i + 1, by omega, rfl, by first | rfl | go_num, HOk2, HUk⟩
            · omega
      · have hc11 : c1 = 1 := by omega
        have hm11 : m = 1 := by omega
        subst hc11 hm11
        have HLE : Hid (LB = []) := Lib.hid (by
          rw [HLN.out, List.drop_of_length_le (by rw [HM.out]; exact Nat.le_refl _)]; rfl)
        have HBE : Hid (OwnR w w1 5 (.slice va (u8s BP).length vc) (u8s BP2)) := Lib.hid (by
          have e : LB = [] := HLE.out
          rw [HTK.out, e, List.append_nil]; exact HO1.out)
        rw [← HB2E.out] at HBE
        go_wp2
        go_loopg [4, 20] 1 (fun gg s4 s20 wr => s4 = .slice va (u8s BP).length vc ∧ s20 = .int .i64 0 ∧ wr = w1)
        case atStart => exact ⟨rfl, rfl, rfl⟩
        case round =>
          obtain ⟨rfl, rfl, rfl⟩ := hrel
          go_wp2
          go_roundg (n - (i + 1))
          · exact ⟨i + 1, by omega, rfl, by first | rfl | go_num, HBE, HU1⟩
          · omega
    · have hcz : ¬ (i : Int) < (n : Int) := by omega
      obtain rfl : i = n := by omega
      have hTE : ps.take i = ps := List.take_of_length_le (by rw [HN.out]; exact Nat.le_refl _)
      rw [hTE] at HO
      obtain ⟨BP, hBP⟩ : ∃ BP, bytesP ps = BP := ⟨_, rfl⟩
      have HBPE := Lib.hid hBP
      have HLB : Hid (BP.length ≤ 2000) := Lib.hid (by
        have := bytesP_len ps HL.out
        rw [hBP, HN.out] at this; omega)
      have HBLT : Hid (∀ x ∈ BP, x < 256) := Lib.hid (by rw [← hBP]; exact bytesP_lt ps)
      rw [hBP] at HO
      clear hTE hBP
      have HRB := Lib.hid HO.out.1
      obtain ⟨va, vc, rfl⟩ := HO.out.form
      generalize (u8s BP).length = xl at *
      by_cases h0 : i = 0
      · have hpe : ps = [] := List.eq_nil_of_length_eq_zero (by rw [HN.out]; exact h0)
        have HAT : Hid (atP ps = 0) := Lib.hid (by rw [hpe]; rfl)
        subst h0
        clear hpe
        have HAZ : Hid ((max 0 (min (0 : Int) 1073741824)).toNat = min 0 1073741824) := Lib.hid (by omega)
        have hcvs := run_conv_row (P := Tryd.prog) wo 28 9 5 Tryd.underlying28 Tryd.underlying5 Tryd.underlying9 HRB.out
        have HHX := Lib.hid (fun w => dHex_any (strOf BP) 0 w (by rw [size_strOf]; have := HLB.out; omega))
        rw [HAZ.out, bytesOf_strOf BP HBLT.out] at HHX
        go_wp2_with fail
        refine (HHX.out _).mono ?_
        rintro e w5 ⟨v5, rfl, hO5, hu5⟩
        have HO5 := Lib.hid hO5
        have HUc5 := Lib.hid hu5
        have HU5 := Lib.hid (HU.out.then hu5)
        have HEQ := slEqual_any _ _ _ _ w5 hO5.texts (HTX.out.upd HU5.out) (hexTo_lt _ _ _) HPS.out (by unfold hexLines; rw [hexTo_len]; have := HLB.out; omega) (by rw [HN.out]; omega)
        have HBO : Hid (bytesOk ps = decide (hexLines (min 0 1073741824) BP = ps)) := Lib.hid (by unfold bytesOk; rw [HAT.out, HBPE.out])
        generalize decide (hexLines (min 0 1073741824) BP = ps) = bk at *
        have HEQ := Lib.hid HEQ
        obtain ⟨va5, vc5, rfl⟩ := hO5.form
        clear hO5 hu5 hcvs
        go_wp2_with fail
        refine HEQ.out.mono ?_
        rintro e w6 ⟨rfl, hu6⟩
        have HU6 := Lib.hid (HU5.out.then hu6)
        have hcv6 := run_conv_row (P := Tryd.prog) w6 28 9 5 Tryd.underlying28 Tryd.underlying5 Tryd.underlying9 (HRB.out.upd (HUc5.out.then hu6) (by simp))
        clear hu6
        cases bk with
        | true =>
          go_wp2
          go_ret2
          exact ⟨by unfold bytesR; rw [HBO.out, HBPE.out]; rfl, HU6.out⟩
        | false =>
          clear hcv6
          go_wp2
          go_ret2
          exact ⟨by unfold bytesR; rw [HBO.out, HBPE.out]; rfl, HU6.out⟩
      · have hi0 : 0 < i := by omega
        have hi1 : 0 < ps.length := by rw [HN.out]; exact hi0
        obtain ⟨b, off, rfl, d⟩ := H.out 0 hi1
        rw [Nat.add_zero] at d
        have d1 := (HU.out.at (textCell_lt d) (by simp) off).trans d
        have HP1 := Lib.hid (HL.out _ (List.getElem_mem hi1))
        have HP2 := Lib.hid (HPS.out _ (List.getElem_mem hi1))
        have HAT0 : Hid (atP ps = numB 16 (ps[0].take 8)) := Lib.hid (by
          unfold atP
          cases ps with
          | nil => simp at hi1
          | cons p r => rfl)
        generalize ps[0] = P at *
        have hps : (strOf P).size ≤ 100 := by rw [size_strOf]; exact HP1.out
        have hexs : Hid ((strOf P).extract 0 (min (strOf P).size 8) = strOf (P.take 8)) := Lib.hid (by
          rw [strOf_extract, size_strOf, List.drop_zero, Nat.sub_zero]
          by_cases h8 : P.length ≤ 8
          · rw [Nat.min_eq_left h8, List.take_length, List.take_of_length_le h8]
          · rw [Nat.min_eq_right (by omega)])
        have HNB := Lib.hid (fun w => dnumber_any (strOf (P.take 8)) 16 w (by rw [size_strOf, List.length_take]; omega) (by omega))
        rw [bytesOf_strOf (P.take 8) (fun x hx => HP2.out x (List.mem_of_mem_take hx))] at HNB
        have HATB : Hid (numB 16 (P.take 8) < 1099511627776) := Lib.hid (foldB_lt2 16 (by omega) _ (by rw [List.length_take]; omega))
        generalize numB 16 (P.take 8) = AT at *
        have HAT := HAT0
        generalize strOf (P.take 8) = SX at *
        generalize strOf P = SP at *
        have hatb := HATB.out
        have HD1 := Lib.hid d1
        have HXL := Lib.hid hn
        have hmn0 : (0 : Int) ≤ min (SP.size : Int) 8 := by omega
        have hmn1 : min (SP.size : Int) 8 ≤ (SP.size : Int) := by omega
        have hmt : (min (SP.size : Int) 8).toNat = min SP.size 8 := by omega
        clear d HAT0
        go_upto_region 13 with fail
        go_cut [9] (fun s9 wx => s9 = .int .i64 ((AT : Nat) : Int) ∧ Upd [] wo wx)
        case first =>
          refine wp_region_held_drew (S := fun w' => Upd [] wo w') (by kernel_rfl) (Upd.refl _ _).drew (fun hHeld => ?_)
          change wpAnyH _ _ _ _ _ 11 #[false, false, false, false, false, false, false, false, false, false, false] _ _
          refine heldTake (i := 0) (d := some 35) (v := ?v0_1) rfl rfl (by kernel_rfl) (by kernel_rfl) (by kernel_rfl) (fun _ _ _ h => h) (by rfl) ?hy0_1 (by assumption) ?r0_1
          case hy0_1 => (intro w hSw; (try dsimp only at hSw); go_simp; try with_reducible rfl)
          try simp only [Act.put, List.setIfInBounds_toArray, List.set_cons_zero, List.set_cons_succ]
          change wpAnyH _ _ _ _ _ 10 #[true, false, false, false, false, false, false, false, false, false, false] _ _
          refine heldTake (i := 1) (d := some 36) (v := ?v1_2) rfl rfl (by kernel_rfl) (by kernel_rfl) (by kernel_rfl) (fun _ _ _ h => h) (by rfl) ?hy1_2 (by assumption) ?r1_2
          case hy1_2 => (intro w hSw; (try dsimp only at hSw); go_simp; try with_reducible rfl)
          try simp only [Act.put, List.setIfInBounds_toArray, List.set_cons_zero, List.set_cons_succ]
          change wpAnyH _ _ _ _ _ 9 #[true, true, false, false, false, false, false, false, false, false, false] _ _
          refine heldTake (i := 2) (d := some 37) (v := ?v2_3) rfl rfl (by kernel_rfl) (by kernel_rfl) (by kernel_rfl) (fun _ _ _ h => h) (by rfl) ?hy2_3 (by assumption) ?r2_3
          case hy2_3 => (intro w hSw; have q0 := (hSw.at (textCell_lt HD1.out) (by simp) off).trans HD1.out; go_simp; try with_reducible rfl)
          try simp only [Act.put, List.setIfInBounds_toArray, List.set_cons_zero, List.set_cons_succ]
          change wpAnyH _ _ _ _ _ 8 #[true, true, true, false, false, false, false, false, false, false, false] _ _
          refine heldTake (i := 3) (d := some 38) (v := ?v3_4) rfl rfl (by kernel_rfl) (by kernel_rfl) (by kernel_rfl) (fun _ _ _ h => h) (by rfl) ?hy3_4 (by assumption) ?r3_4
          case hy3_4 => (intro w hSw; (try dsimp only at hSw); go_simp; try with_reducible rfl)
          try simp only [Act.put, List.setIfInBounds_toArray, List.set_cons_zero, List.set_cons_succ]
          change wpAnyH _ _ _ _ _ 7 #[true, true, true, true, false, false, false, false, false, false, false] _ _
          refine heldTake (i := 4) (d := some 39) (v := ?v4_5) rfl rfl (by kernel_rfl) (by kernel_rfl) (by kernel_rfl) (fun _ _ _ h => h) (by rfl) ?hy4_5 (by assumption) ?r4_5
          case hy4_5 => (intro w hSw; (try dsimp only at hSw); go_simp; try with_reducible rfl)
          try simp only [Act.put, List.setIfInBounds_toArray, List.set_cons_zero, List.set_cons_succ]
          change wpAnyH _ _ _ _ _ 6 #[true, true, true, true, true, false, false, false, false, false, false] _ _
          refine heldTake (i := 5) (d := some 40) (v := ?v5_6) rfl rfl (by kernel_rfl) (by kernel_rfl) (by kernel_rfl) (fun _ _ _ h => h) (by rfl) ?hy5_6 (by assumption) ?r5_6
          case hy5_6 => (intro w hSw; have q0 := (hSw.at (textCell_lt HD1.out) (by simp) off).trans HD1.out; go_simp; try with_reducible rfl)
          try simp only [Act.put, List.setIfInBounds_toArray, List.set_cons_zero, List.set_cons_succ]
          change wpAnyH _ _ _ _ _ 5 #[true, true, true, true, true, true, false, false, false, false, false] _ _
          refine heldTake (i := 6) (d := some 41) (v := ?v6_7) rfl rfl (by kernel_rfl) (by kernel_rfl) (by kernel_rfl) (fun _ _ _ h => h) (by rfl) ?hy6_7 (by assumption) ?r6_7
          case hy6_7 => (intro w hSw; (try dsimp only at hSw); go_simp; try with_reducible rfl)
          try simp only [Act.put, List.setIfInBounds_toArray, List.set_cons_zero, List.set_cons_succ]
          change wpAnyH _ _ _ _ _ 4 #[true, true, true, true, true, true, true, false, false, false, false] _ _
          refine heldTake (i := 7) (d := some 42) (v := ?v7_8) rfl rfl (by kernel_rfl) (by kernel_rfl) (by kernel_rfl) (fun _ _ _ h => h) (by rfl) ?hy7_8 (by assumption) ?r7_8
          case hy7_8 => (intro w hSw; (try dsimp only at hSw); go_simp; try with_reducible rfl)
          try simp only [Act.put, List.setIfInBounds_toArray, List.set_cons_zero, List.set_cons_succ]
          change wpAnyH _ _ _ _ _ 3 #[true, true, true, true, true, true, true, true, false, false, false] _ _
          refine heldTake (i := 8) (d := some 43) (v := (.string SX)) rfl rfl (by kernel_rfl) (by kernel_rfl) (by kernel_rfl) (fun _ _ _ h => h) (by rfl) ?hy8_9 (by assumption) ?r8_9
          case hy8_9 => (intro w hSw; go_simp; rw [hexs.out])
          try simp only [Act.put, List.setIfInBounds_toArray, List.set_cons_zero, List.set_cons_succ]
          change wpAnyH _ _ _ _ _ 2 #[true, true, true, true, true, true, true, true, true, false, false] _ _
          refine wpAnyH_ready (rs := [9]) (by kernel_rfl) (by simp) ?_
          refine AllReadyH.cons rfl (fun K hK => ?_) AllReadyH.nil
          go_simp
          refine (HNB.out _).mono ?_
          rintro e z1 ⟨rfl, hz1⟩
          go_wp2
          refine hK.out _ _ (hHeld.then hz1) (fun hHeld => ?_)
          clear hK K
          try simp only [Act.put, List.setIfInBounds_toArray, List.set_cons_zero, List.set_cons_succ]
          change wpAnyH _ _ _ _ _ 1 #[true, true, true, true, true, true, true, true, true, true, false] _ _
          refine heldTake (i := 10) (d := some 9) (v := ?v10_11) rfl rfl (by kernel_rfl) (by kernel_rfl) (by kernel_rfl) (fun _ _ _ h => h) (by rfl) ?hy10_11 (by assumption) ?r10_11
          case hy10_11 => (intro w hSw; (try dsimp only at hSw); go_simp; try with_reducible rfl)
          try simp only [Act.put, List.setIfInBounds_toArray, List.set_cons_zero, List.set_cons_succ]
          change wpAnyH _ _ _ _ _ 0 #[true, true, true, true, true, true, true, true, true, true, true] _ _
          refine wpAnyH_done (by kernel_rfl) ?_ 0
          go_wp2
          go_meet
          exact ⟨rfl, hHeld⟩
        case rest =>
          obtain ⟨rfl, hUr⟩ := hcut
          have HRx := Lib.hid (HRB.out.upd hUr (by simp))
          have HUx := Lib.hid (HU.out.then hUr)
          clear hUr d1
          have HAZ : Hid ((max 0 (min (((AT : Nat) : Int) : Int) 1073741824)).toNat = min AT 1073741824) := Lib.hid (by omega)
          have hcvs := run_conv_row (P := Tryd.prog) wc 28 9 5 Tryd.underlying28 Tryd.underlying5 Tryd.underlying9 HRx.out
          have HHX := Lib.hid (fun w => dHex_any (strOf BP) ((AT : Nat) : Int) w (by rw [size_strOf]; have := HLB.out; omega))
          rw [HAZ.out, bytesOf_strOf BP HBLT.out] at HHX
          go_wp2_with fail
          refine (HHX.out _).mono ?_
          rintro e w5 ⟨v5, rfl, hO5, hu5⟩
          have HO5 := Lib.hid hO5
          have HUc5 := Lib.hid hu5
          have HU5 := Lib.hid (HUx.out.then hu5)
          have HEQ := slEqual_any _ _ _ _ w5 hO5.texts (HTX.out.upd HU5.out) (hexTo_lt _ _ _) HPS.out (by unfold hexLines; rw [hexTo_len]; have := HLB.out; omega) (by rw [HN.out]; omega)
          have HBO : Hid (bytesOk ps = decide (hexLines (min AT 1073741824) BP = ps)) := Lib.hid (by unfold bytesOk; rw [HAT.out, HBPE.out])
          generalize decide (hexLines (min AT 1073741824) BP = ps) = bk at *
          have HEQ := Lib.hid HEQ
          obtain ⟨va5, vc5, rfl⟩ := hO5.form
          clear hO5 hu5 hcvs
          go_wp2_with fail
          refine HEQ.out.mono ?_
          rintro e w6 ⟨rfl, hu6⟩
          have HU6 := Lib.hid (HU5.out.then hu6)
          have hcv6 := run_conv_row (P := Tryd.prog) w6 28 9 5 Tryd.underlying28 Tryd.underlying5 Tryd.underlying9 (HRx.out.upd (HUc5.out.then hu6) (by simp))
          clear hu6
          cases bk with
          | true =>
            go_wp2
            go_ret2
            exact ⟨by unfold bytesR; rw [HBO.out, HBPE.out]; rfl, HU6.out⟩
          | false =>
            clear hcv6
            go_wp2
            go_ret2
            exact ⟨by unfold bytesR; rw [HBO.out, HBPE.out]; rfl, HU6.out⟩
end Go.Proofs.YtibmhadnfggmlaaDoor

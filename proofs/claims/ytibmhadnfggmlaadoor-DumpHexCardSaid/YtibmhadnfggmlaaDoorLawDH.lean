/- The law swinglelaw43.DumpHex: plain parts, lives, and its walk. -/
import Derived.Test.YtibmhadnfggmlaaDoorDBy
import Derived.Test.YtibmhadnfggmlaaDoorNTxP
import Derived.Test.YtibmhadnfggmlaaDoorDRef
namespace Go.Proofs.YtibmhadnfggmlaaDoor
set_option linter.unusedVariables false
set_option linter.unusedSimpArgs false
set_option linter.unusedSectionVars false
open Go.RowKit
set_option linter.unusedVariables false
set_option linter.unusedSimpArgs false

theorem hexP_no32 (n k : Nat) : ∀ x ∈ hexP n k, x ≠ 32 := fun x hx => by have := hexP_dig k n x hx; omega
theorem split_hexLine (a : Nat) (L : List Nat) : splitC 32 (hexLine a L) = hexP a 8 :: L.map fun b => hexP b 2 := by
  unfold hexLine
  refine splitC_join 32 _ (by simp) (fun p hp => ?_)
  rcases List.mem_cons.1 hp with rfl | hp
  · exact hexP_no32 _ _
  · obtain ⟨b, _, rfl⟩ := List.mem_map.1 hp
    exact hexP_no32 _ _
theorem lineB_hex (a : Nat) (L : List Nat) (h : ∀ x ∈ L, x < 256) : lineB (hexLine a L) = L := by
  unfold lineB
  rw [split_hexLine]
  simp only [List.drop_succ_cons, List.drop_zero, List.map_map]
  conv => rhs; rw [← List.map_id L]
  refine List.map_congr_left fun b hb => ?_
  have hb := h b hb
  show wordB (hexP b 2) = b
  unfold wordB
  rw [numB_hexP b 2 (by omega) (by omega), Nat.mod_eq_of_lt hb]
theorem bytes_hexTo (a : Nat) (L : List Nat) (h : ∀ x ∈ L, x < 256) (q : Nat) : bytesP (hexTo a L q) = L.take (16 * q) := by
  induction q with
  | zero => simp [hexTo, bytesP]
  | succ q ih =>
    rw [hexTo_succ, bytesP_snoc, ih, lineB_hex _ _ (fun x hx => h x (List.mem_of_mem_drop (List.mem_of_mem_take hx)))]
    rw [show 16 * (q + 1) = 16 * q + 16 by omega, List.take_add]
theorem bytes_hexLines (a : Nat) (L : List Nat) (h : ∀ x ∈ L, x < 256) : bytesP (hexLines a L) = L := by
  unfold hexLines
  rw [bytes_hexTo a L h, List.take_of_length_le (by omega)]
theorem hexLine_head (a : Nat) (L : List Nat) : (hexLine a L).take 8 = hexP a 8 := by
  cases L with
  | nil => rw [hexLine_nil, List.take_of_length_le (by rw [hexP_len]; exact Nat.le_refl _)]
  | cons b r =>
    unfold hexLine
    rw [List.map_cons, joinC, List.take_append_of_le_length (by rw [hexP_len]; exact Nat.le_refl _), List.take_of_length_le (by rw [hexP_len]; exact Nat.le_refl _)]
theorem at_hexLines (a : Nat) (L : List Nat) (ha : a ≤ 1073741824) (h0 : L ≠ []) : atP (hexLines a L) = a := by
  have hq : 0 < (L.length + 15) / 16 := by
    have := List.length_pos_iff.2 h0
    omega
  obtain ⟨q, hq⟩ : ∃ q, (L.length + 15) / 16 = q + 1 := ⟨_, (Nat.succ_pred_eq_of_pos hq).symm⟩
  unfold atP hexLines
  rw [hq]
  unfold hexTo
  rw [List.range_succ_eq_map, List.map_cons, List.headD_cons, hexLine_head, Nat.mul_zero, Nat.add_zero, numB_hexP a 8 (by omega) (by omega)]
theorem ok_hexLines (a : Nat) (L : List Nat) (ha : a ≤ 1073741824) (h : ∀ x ∈ L, x < 256) : bytesOk (hexLines a L) = true := by
  unfold bytesOk
  rw [decide_eq_true_eq, bytes_hexLines a L h]
  by_cases h0 : L = []
  · subst h0; rfl
  · rw [at_hexLines a L ha h0, Nat.min_eq_left ha]
theorem r_hexLines (a : Nat) (L : List Nat) (ha : a ≤ 1073741824) (h : ∀ x ∈ L, x < 256) : bytesR (hexLines a L) = L := by
  unfold bytesR
  rw [if_pos (ok_hexLines a L ha h), bytes_hexLines a L h]
theorem ok_len {ps : List (List Nat)} (h : bytesOk ps = true) : ps.length = ((bytesR ps).length + 15) / 16 := by
  unfold bytesR
  rw [if_pos h]
  unfold bytesOk at h
  rw [decide_eq_true_eq] at h
  have := congrArg List.length h
  unfold hexLines at this
  rw [hexTo_len] at this
  omega
theorem ok_head {ps : List (List Nat)} (h : bytesOk ps = true) (h0 : 0 < ps.length) : 8 < ps[0].length := by
  have hl := ok_len h
  unfold bytesR at hl
  rw [if_pos h] at hl
  unfold bytesOk at h
  rw [decide_eq_true_eq] at h
  have h2 : (hexLines (min (atP ps) 1073741824) (bytesP ps))[0]? = some ps[0] := by rw [h]; exact List.getElem?_eq_getElem h0
  unfold hexLines hexTo at h2
  rw [List.getElem?_map, List.getElem?_range (by omega)] at h2
  simp only [Option.map_some, Option.some.injEq] at h2
  rw [← h2, hexLine_len, List.length_take, Nat.mul_zero, List.drop_zero]
  omega
theorem zeroBlk (w : World) (k : Nat) : Blk (w.alloc (.cells (madeCells #[.int .u8 0] k) 5)) w.heap.size (u8s (List.replicate k 0)) 5 := by
  have := heap_alloc_new w (.cells (madeCells #[.int .u8 0] k) 5)
  unfold Blk
  rw [this]
  congr 2
  apply Array.ext
  · simp [madeCells, u8s]
  · intro j h1 h2
    simp [madeCells, u8s, Nat.mod_one]
set_option maxRecDepth 100000 in
theorem lives43_any (w : World) : Calls Tryd.prog 12 #[] w fun e w' => e = .returned (.bool true) ∧ Upd [] w w' := by
  have HH := Lib.hid (fun w => dHex_any { data := #[65] } 0 w (by decide))
  have HE : Hid (hexLines (max 0 (min (0 : Int) 1073741824)).toNat (bytesOf { data := #[65] }) = [[48, 48, 48, 48, 48, 48, 48, 48, 32, 52, 49]]) := Lib.hid (by decide)
  rw [HE.out] at HH
  go_enter Tryd.func12, Tryd.ntmps12
  go_wp2_with fail
  refine (HH.out _).mono ?_
  rintro e w1 ⟨v, rfl, hO, hu⟩
  obtain ⟨a, c, rfl, hc, ht⟩ := hO.texts
  obtain ⟨b, o, rfl, hcell⟩ := ht 0 (by simp)
  rw [Nat.add_zero] at hcell
  have hst : ((strOf [48, 48, 48, 48, 48, 48, 48, 48, 32, 52, 49]).toList == [48, 48, 48, 48, 48, 48, 48, 48, 32, 52, 49]) = true := by decide +kernel
  clear ht hO HH
  go_wp2
  go_returns
  exact ⟨rfl, hu⟩
set_option maxRecDepth 100000 in
set_option maxHeartbeats 12800000 in
theorem law_dumpHex (S0 : ByteArray) (at_ : Int) (ps : List (List Nat)) (v : Value) (w : World) (h : TextsAt w v ps) (hps : ∀ p ∈ ps, ∀ x ∈ p, x < 256) (hlen : ps.length ≤ 9223372036854775807) (hsz : ∀ p ∈ ps, p.length ≤ 9223372036854775807) (hs0 : S0.size ≤ 9223372036854775807) :
    Calls Tryd.prog 3 #[.string S0, .int .i64 at_, v] w fun e w' => e = .returned (.bool true) ∧ Upd [] w w' := by
  have hc2 : (0 : Int) ≤ min (S0.size : Int) 300 := by omega
  have hc3 : min (S0.size : Int) 300 ≤ (S0.size : Int) := by omega
  obtain ⟨S, hsd⟩ : ∃ s, s = S0.extract 0 (min (S0.size : Int) 300).toNat := ⟨_, rfl⟩
  have hss : S.size ≤ 300 := by rw [hsd, ByteArray.size_extract]; omega
  have HSD := Lib.hid hsd
  clear hsd
  have HLV := Lib.hid (fun w => lives43_any w)
  have HTX := Lib.hid h
  obtain ⟨a, cap, rfl, hcap, h⟩ := h
  have H := Lib.hid h
  have HPS := Lib.hid hps
  have HSZ := Lib.hid hsz
  clear h hps hsz
  obtain ⟨n, hnn⟩ : ∃ n, ps.length = n := ⟨_, rfl⟩
  rw [hnn] at hlen hcap HTX ⊢
  have HN := Lib.hid hnn
  clear hnn
  by_cases h20 : 20 < n
  · have h20z : (20 : Int) < (n : Int) := by omega
    go_enter Tryd.func3, Tryd.ntmps3
    go_wp2_with fail
    refine (HLV.out _).mono ?_
    rintro e w5 ⟨rfl, hU5⟩
    go_wp2
    go_ret
    exact ⟨rfl, hU5⟩
  · have h20z : ¬ (20 : Int) < (n : Int) := by omega
    go_enter Tryd.func3, Tryd.ntmps3
    go_wp2_with fail
    rw [← HSD.out]
    go_loopg [26] n (fun gg s26 wr => ∃ i, i ≤ n ∧ gg = n - i ∧ s26 = .int .i64 (i : Nat) ∧ Hid (∀ p ∈ ps.take i, p.length ≤ 100) ∧ wr = w)
    case atStart => exact ⟨0, Nat.zero_le _, rfl, rfl, Lib.hid (by simp), rfl⟩
    case round =>
      obtain ⟨i, hin, rfl, rfl, HA, hwr⟩ := hrel
      subst hwr
      by_cases hc : i < n
      · have hcz : (i : Int) < (n : Int) := by omega
        have hi1 : i < ps.length := by rw [HN.out]; exact hc
        obtain ⟨b, off, rfl, d⟩ := H.out i hi1
        have HTK : Hid (ps.take (i + 1) = ps.take i ++ [ps[i]]) := Lib.hid (List.take_succ_eq_append_getElem hi1)
        have hpz := HSZ.out _ (List.getElem_mem hi1)
        have hsp : (strOf ps[i]).size = ps[i].length := size_strOf _
        generalize ps[i] = P at *
        generalize strOf P = SP at *
        have HSP := Lib.hid hsp
        by_cases hbig : 100 < P.length
        · have hbz : (100 : Int) < (SP.size : Int) := by omega
          clear hsp hbig
          go_wp2_with fail
          refine (HLV.out _).mono ?_
          rintro e w5 ⟨rfl, hU5⟩
          go_wp2
          go_ret
          exact ⟨rfl, hU5⟩
        · have hbz : ¬ (100 : Int) < (SP.size : Int) := by omega
          have HA2 : Hid (∀ p ∈ ps.take (i + 1), p.length ≤ 100) := Lib.hid (by
            intro p hp
            rw [HTK.out] at hp
            rcases List.mem_append.1 hp with hp | hp
            · exact HA.out p hp
            · simp at hp; subst hp; omega)
          clear hsp hbig
          go_wp2
          go_roundg (n - (i + 1))
          · exact ⟨i + 1, by omega, rfl, by first | rfl | go_num, HA2, rfl⟩
          · omega
      · have hcz : ¬ (i : Int) < (n : Int) := by omega
        obtain rfl : i = n := by omega
        have HLL : Hid (∀ p ∈ ps, p.length ≤ 100) := Lib.hid (by
          have := HA.out
          rwa [List.take_of_length_le (by rw [HN.out]; exact Nat.le_refl _)] at this)
        obtain ⟨A, hA⟩ : ∃ A : Nat, (max 0 (min at_ 1073741824)).toNat = A := ⟨_, rfl⟩
        have hAl : A ≤ 1073741824 := by omega
        have HRX := Lib.hid (fun w => rhexLines_any S at_ w (by omega))
        have HHX := Lib.hid (fun w => dHex_any S at_ w (by omega))
        rw [hA] at HRX HHX
        have HBL := length_bytesOf S
        have HBT := Lib.hid (bytesOf_lt S)
        have HXL : Hid ((hexLines A (bytesOf S)).length ≤ 20) := Lib.hid (by unfold hexLines; rw [hexTo_len]; omega)
        have HXT : Hid (∀ p ∈ hexLines A (bytesOf S), ∀ x ∈ p, x < 256) := Lib.hid (hexTo_lt _ _ _)
        have HX100 : Hid (∀ p ∈ hexLines A (bytesOf S), p.length ≤ 100) := Lib.hid (by
          intro p hp
          unfold hexLines hexTo at hp
          obtain ⟨q, _, rfl⟩ := List.mem_map.1 hp
          rw [hexLine_len, List.length_take]; omega)
        have HXO := Lib.hid (ok_hexLines A (bytesOf S) hAl HBT.out)
        have HXR : Hid (strOf (bytesR (hexLines A (bytesOf S))) = S) := Lib.hid (by rw [r_hexLines A (bytesOf S) hAl HBT.out, strOf_bytesOf])
        generalize hexLines A (bytesOf S) = XS at *
        have hn20 : i ≤ 20 := by omega
        clear hA hAl HBL HA hc hlen
        go_wp2_with fail
        refine (HRX.out _).mono ?_
        rintro e w1 ⟨v1, rfl, hO1, hu1⟩
        have HT1 := Lib.hid hO1.texts
        have HU1 := Lib.hid hu1
        have hby := dBytes_any XS v1 w1 hO1.texts HXT.out HXL.out HX100.out
        rw [HXR.out, HXO.out] at hby
        have HBY := Lib.hid hby
        obtain ⟨va1, vc1, rfl⟩ := hO1.form
        clear hO1 hu1 hby
        go_wp2_with fail
        refine HBY.out.mono ?_
        rintro e w2 ⟨rfl, hu2⟩
        have HT2 := Lib.hid (HT1.out.upd hu2)
        have HU2 := Lib.hid (HU1.out.then hu2)
        have HBP := Lib.hid (dBytes_any ps (.slice a i cap) w2 (HTX.out.upd HU2.out) HPS.out (by rw [HN.out]; exact hn20) HLL.out)
        clear hu2
        obtain ⟨bk, hbk⟩ : ∃ bk, bytesOk ps = bk := ⟨_, rfl⟩
        have HBK := Lib.hid hbk
        rw [hbk] at HBP
        clear hbk
        go_wp2_with fail
        refine HBP.out.mono ?_
        rintro e w3 ⟨rfl, hu3⟩
        have HT3 := Lib.hid (HT2.out.upd hu3)
        have HU3 := Lib.hid (HU2.out.then hu3)
        clear hu3
        go_wp2_with fail
        refine (HHX.out _).mono ?_
        rintro e w4 ⟨v4, rfl, hO4, hu4⟩
        have HU4 := Lib.hid (HU3.out.then hu4)
        have HSM := Lib.hid (rsame01_any XS XS v4 (.slice va1 XS.length vc1) w4 hO4.texts (HT3.out.upd hu4) HXT.out HXT.out (by have := HXL.out; omega) (by have := HXL.out; omega))
        obtain ⟨va4, vc4, rfl⟩ := hO4.form
        clear hO4 hu4
        have hde : decide (XS = XS) = true := by simp
        rw [hde] at HSM
        clear hde
        go_wp2_with fail
        refine HSM.out.mono ?_
        rintro e w5 ⟨rfl, hu5⟩
        have HU5 := Lib.hid (HU4.out.then hu5)
        clear hu5
        have hne : (S.toList != S.toList) = false := by simp
        have hne2 : (S.toList == S.toList) = true := by simp
        obtain ⟨K, hK⟩ : ∃ K : Nat, K = 65537 := ⟨_, rfl⟩
        have hmk : ∀ w, (Instr.makeSlice 28 (.int .i64 65537) (.int .i64 65537)).run Tryd.prog w = .ok (.slice (some ⟨w.heap.size, 0, none⟩) K K) (w.alloc (.cells (madeCells #[.int .u8 0] K) 5)) := fun w => by
          have := run_make_row' (P := Tryd.prog) 28 5 (.int .u8 0) 1 Tryd.underlying28 infoByte rfl .i64 .i64 K (by omega) (by omega) (w := w)
          rw [show ((K : Nat) : Int) = 65537 by omega] at this
          exact this
        have hcz2 := (zeroBlk w5 K).conv (P := Tryd.prog) (c := K) (List.length_replicate ..) Tryd.underlying28 Tryd.underlying5 Tryd.underlying9
        have HBIG := Lib.hid (fun w => dHexBig_any (strOf (List.replicate K 0)) 0 w (by rw [size_strOf, List.length_replicate]; omega))
        have HUZ := Lib.hid (HU5.out.alloc (.cells (madeCells #[.int .u8 0] K) 5))
        have HK := Lib.hid hK
        clear hK
        go_wp2_with fail
        refine (HBIG.out _).mono ?_
        rintro e w6 ⟨rfl, hu6⟩
        have HU6 := Lib.hid (HUZ.out.then hu6)
        clear hu6 hmk hcz2 hne hne2 HBIG
        cases bk with
        | false =>
          have HRE : Hid (strOf (bytesR ps) = { data := #[] }) := Lib.hid (by unfold bytesR; rw [if_neg (by rw [HBK.out]; decide)]; rfl)
          rw [HRE.out]
          go_wp2_with fail
          refine (HLV.out _).mono ?_
          rintro e w7 ⟨rfl, hU7⟩
          have HU7 := Lib.hid (HU6.out.then hU7)
          clear hU7
          go_wp2
          go_ret
          exact ⟨rfl, HU7.out⟩
        | true =>
          have hok := ok_len HBK.out
          rw [HN.out] at hok
          have HHD := Lib.hid (fun h0 => ok_head HBK.out h0)
          have hbz : (strOf (bytesR ps)).size = (bytesR ps).length := size_strOf _
          rw [← hbz] at hok
          generalize strOf (bytesR ps) = RB at *
          have ht1 : ((i : Int) == ((RB.size : Int) + 15) / 16) = true := by rw [beq_iff_eq]; omega
          have ht2 : (i == (RB.size + 15) / 16) = true := by rw [beq_iff_eq]; omega
          have hrb : (RB.size : Int) ≤ 320 := by omega
          have HOK := Lib.hid hok
          clear hok hbz
          by_cases h0 : i = 0
          · subst h0
            have hrz : (RB.size : Int) = 0 := by have := HOK.out; omega
            clear ht1 ht2
            go_wp2_with fail
            refine (HLV.out _).mono ?_
            rintro e w7 ⟨rfl, hU7⟩
            have HU7 := Lib.hid (HU6.out.then hU7)
            clear hU7
            go_wp2
            go_ret
            exact ⟨rfl, HU7.out⟩
          · have hi0 : 0 < i := by omega
            have hi1 : 0 < ps.length := by rw [HN.out]; exact hi0
            obtain ⟨b, off, rfl, d⟩ := H.out 0 hi1
            rw [Nat.add_zero] at d
            have d1 := (HU6.out.at (textCell_lt d) (by simp) off).trans d
            have hhd := HHD.out hi1
            have hsp : (strOf ps[0]).size = ps[0].length := size_strOf _
            have hse : (strOf ps[0]).toList.isEmpty = false := by
              rw [ByteArray.toList_eq]
              cases hx : (strOf ps[0]).data.toList with
              | nil => have : (strOf ps[0]).size = 0 := by show (strOf ps[0]).data.size = 0; rw [← Array.length_toList, hx]; rfl
                       omega
              | cons x r => rfl
            have h8 : (8 : Int) < ((strOf ps[0]).size : Int) := by omega
            generalize strOf ps[0] = SP at *
            have HD := Lib.hid d
            clear d hsp hhd h0
            go_wp2_with fail
            refine (HLV.out _).mono ?_
            rintro e w7 ⟨rfl, hU7⟩
            have HU7 := Lib.hid (HU6.out.then hU7)
            clear hU7
            go_wp2
            go_ret
            exact ⟨rfl, HU7.out⟩
end Go.Proofs.YtibmhadnfggmlaaDoor

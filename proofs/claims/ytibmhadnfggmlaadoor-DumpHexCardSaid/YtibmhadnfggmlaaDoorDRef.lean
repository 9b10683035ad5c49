/- Package swingleref43: Hex: its walk; lines of digits (plain). -/
import Derived.Test.YtibmhadnfggmlaaDoorDHex
namespace Go.Proofs.YtibmhadnfggmlaaDoor
set_option linter.unusedVariables false
set_option linter.unusedSimpArgs false
set_option linter.unusedSectionVars false
open Go.RowKit
set_option linter.unusedVariables false
set_option linter.unusedSimpArgs false

/-- A line: where it begins, and its bytes. -/
def hexLine (a : Nat) (L : List Nat) : List Nat := joinC 32 (hexP a 8 :: L.map fun b => hexP b 2)
/-- So many lines. -/
def hexTo (at_ : Nat) (L : List Nat) (q : Nat) : List (List Nat) := (List.range q).map fun i => hexLine (at_ + 16 * i) ((L.drop (16 * i)).take 16)
def hexLines (at_ : Nat) (L : List Nat) : List (List Nat) := hexTo at_ L ((L.length + 15) / 16)
theorem hexTo_succ (at_ : Nat) (L : List Nat) (q : Nat) : hexTo at_ L (q + 1) = hexTo at_ L q ++ [hexLine (at_ + 16 * q) ((L.drop (16 * q)).take 16)] := by
  unfold hexTo; rw [List.range_succ, List.map_append]; rfl
theorem hexTo_len (at_ : Nat) (L : List Nat) (q : Nat) : (hexTo at_ L q).length = q := by simp [hexTo]
theorem hexLine_snoc (a : Nat) (L : List Nat) (b : Nat) : hexLine a (L ++ [b]) = hexLine a L ++ ([32] ++ hexP b 2) := by
  unfold hexLine
  rw [List.map_append, ← List.cons_append, List.map_cons, List.map_nil, joinC_snoc 32 _ _ (by simp)]
  rfl
theorem hexLine_nil (a : Nat) : hexLine a [] = hexP a 8 := rfl
theorem hexLine_len (a : Nat) : ∀ L : List Nat, (hexLine a L).length = 8 + 3 * L.length := by
  intro L
  unfold hexLine
  rw [joinC_tot]
  have h : ∀ L : List Nat, totC (L.map fun b => hexP b 2) = 2 * L.length := by
    intro L
    induction L with
    | nil => rfl
    | cons b r ih =>
      unfold totC at ih ⊢
      simp only [List.map_cons, List.sum_cons, List.length_cons, hexP_len] at ih ⊢
      rw [ih]; omega
  have e : totC (hexP a 8 :: L.map fun b => hexP b 2) = 8 + totC (L.map fun b => hexP b 2) := by
    unfold totC; simp only [List.map_cons, List.sum_cons, hexP_len]
  rw [e, h]
  simp only [List.length_cons, List.length_map]
  omega
theorem hexP_lt2 (n k : Nat) : ∀ x ∈ hexP n k, x < 256 := fun x hx => by have := hexP_dig k n x hx; omega
theorem hexLine_lt (a : Nat) (L : List Nat) : ∀ x ∈ hexLine a L, x < 256 := by
  unfold hexLine
  refine joinC_lt 32 (by decide) _ ?_
  intro p hp
  rcases List.mem_cons.1 hp with rfl | hp
  · exact hexP_lt2 _ _
  · obtain ⟨b, _, rfl⟩ := List.mem_map.1 hp
    exact hexP_lt2 _ _
theorem hexTo_lt (at_ : Nat) (L : List Nat) (q : Nat) : ∀ p ∈ hexTo at_ L q, ∀ x ∈ p, x < 256 := by
  intro p hp
  obtain ⟨i, _, rfl⟩ := List.mem_map.1 hp
  exact hexLine_lt _ _
theorem hexP_last2 (n : Nat) : (hexP n 8).drop 6 = hexP n 2 := by
  have e : hexP n 8 = hexP (n / 16 / 16) 6 ++ hexP n 2 := by simp only [hexP, List.append_assoc, List.nil_append, List.singleton_append, List.cons_append]
  rw [e, List.drop_append_of_le_length (by rw [hexP_len]; exact Nat.le_refl _), List.drop_of_length_le (by rw [hexP_len]; exact Nat.le_refl _), List.nil_append]
theorem strOf_extract (l : List Nat) (a b : Nat) : (strOf l).extract a b = strOf ((l.drop a).take (b - a)) := by
  apply ByteArray.ext
  apply Array.ext'
  simp [strOf, List.map_take, List.map_drop]
theorem hex_cut6 (b : Nat) : (strOf (hexP b 8)).extract 6 8 = strOf (hexP b 2) := by
  rw [strOf_extract, hexP_last2, List.take_of_length_le]
  rw [hexP_len]; exact Nat.le_refl _
/-- A slice of strings of the call's own. -/
def OwnS (w0 w : World) (v : Value) (L : List (List Nat)) : Prop := Row w 9 1 v L.length (strsV L) ∧ ∀ k, v.ownBlock = some k → w0.heap.size ≤ k
theorem OwnS.nil (w0 w : World) : OwnS w0 w (.slice none 0 0) [] := ⟨Row.nil _ _ _, fun k h => by cases h⟩
theorem OwnS.upd {w0 w w' : World} {v : Value} {L : List (List Nat)} (h : OwnS w0 w v L) (hu : Upd [] w w') : OwnS w0 w' v L := ⟨h.1.upd hu (by simp), h.2⟩
theorem OwnS.texts {w0 w : World} {v : Value} {L : List (List Nat)} (h : OwnS w0 w v L) : TextsAt w v L := Row.textsAt h.1
theorem OwnS.app {w0 w w' : World} {v v' : Value} {L : List (List Nat)} {p : List Nat} (o : Obj) (h : OwnS w0 w v L) (hu : Upd [] w0 w) (hR : Row w' 9 1 v' (L.length + 1) (strsV L ++ [.string (strOf p)])) (hU : Upd v.ownBlock.toList (w.alloc o) w') (hT : Later (w.alloc o) v v') :
    OwnS w0 w' v' (L ++ [p]) ∧ Upd [] w0 w' := by
  refine ⟨⟨?_, ?_⟩, ?_⟩
  · rw [List.length_append, List.length_singleton]
    have e : strsV (L ++ [p]) = strsV L ++ [.string (strOf p)] := by unfold strsV; rw [List.map_append]; rfl
    rw [e]; exact hR
  · intro k hk
    rcases hT with h1 | ⟨g, h1, h2⟩
    · exact h.2 k (by rw [← h1]; exact hk)
    · rw [h1] at hk; simp at hk h2; have := hu.size; omega
  · exact (hu.alloc o).trans hU (fun k hk => .inr (h.2 k (by simpa using hk)))
theorem OwnS.form {w0 w : World} {v : Value} {L : List (List Nat)} (h : OwnS w0 w v L) : ∃ a c, v = .slice a L.length c := h.1.form
set_option maxRecDepth 100000 in
set_option maxHeartbeats 6400000 in
theorem rhexLines_any (S : ByteArray) (at_ : Int) (w : World) (hs : S.size ≤ 1000) :
    Calls Tryd.prog 13 #[.string S, .int .i64 at_] w fun e w' => ∃ v, e = .returned v ∧ OwnS w w' v (hexLines (max 0 (min at_ 1073741824)).toNat (bytesOf S)) ∧ Upd [] w w' := by
  obtain ⟨A, hA⟩ : ∃ A : Nat, (max 0 (min at_ 1073741824)).toNat = A := ⟨_, rfl⟩
  have hAe : max 0 (min at_ 1073741824) = (A : Int) := by omega
  have hAl : A ≤ 1073741824 := by omega
  rw [hA]
  clear hA
  have HBL := Lib.hid (length_bytesOf S)
  have HLL : Hid (hexLines A (bytesOf S) = hexTo A (bytesOf S) ((S.size + 15) / 16)) := Lib.hid (by unfold hexLines; rw [HBL.out])
  obtain ⟨i0, hi, hz0, hz1, hz2⟩ := info_parts infoStrE
  go_enter Tryd.func13, Tryd.ntmps13
  go_wp2
  go_loopg [5, 6] 70 (fun gg s5 s6 wr => ∃ q p : Nat, Hid (p = 16 * q) ∧ p ≤ S.size + 15 ∧ q ≤ 70 ∧ gg = 70 - q ∧ s6 = .int .i64 (p : Nat) ∧ Hid (OwnS w wr s5 (hexTo A (bytesOf S) q)) ∧ Hid (Upd [] w wr))
  case atStart => exact ⟨0, 0, Lib.hid rfl, by omega, by omega, rfl, rfl, Lib.hid (OwnS.nil _ _), Lib.hid (Upd.refl _ _)⟩
  case round =>
    obtain ⟨wo, rfl⟩ : ∃ wo : World, wo = wr := ⟨_, rfl⟩
    obtain ⟨q, p, HP, hq, hq2, rfl, rfl, HO, HU⟩ := hrel
    have hsz2 : (S.size : Int) ≤ 65536 := by omega
    by_cases hc : p < S.size
    · have hcz : (p : Int) < (S.size : Int) := by omega
      have HX := rhex_any (A + p)
      rw [show ((A + p : Nat) : Int) = (A : Int) + (p : Int) by omega] at HX
      have HX := Lib.hid (fun w => HX w (by omega))
      obtain ⟨PI, hPI⟩ : ∃ PI, ((bytesOf S).drop p).take 16 = PI := ⟨_, rfl⟩
      have HPL : Hid (PI.length = min 16 (S.size - p)) := Lib.hid (by rw [← hPI, List.length_take, List.length_drop, HBL.out])
      have HPG : Hid (∀ j, (hj : j < PI.length) → p + j < S.size ∧ ∀ h : p + j < S.size, PI[j] = S[p + j].toNat) := Lib.hid (by
        intro j hj
        have hl : p + j < S.size := by have := HPL.out; omega
        refine ⟨hl, fun h => ?_⟩
        have hb : p + j < (bytesOf S).length := by rw [HBL.out]; exact h
        subst hPI
        rw [List.getElem_take, List.getElem_drop, bytesOf_get S (p + j) h hb])
      obtain ⟨LN, hLN⟩ : ∃ LN, hexLine (A + p) PI = LN := ⟨_, rfl⟩
      have HLNE : Hid (LN = hexLine (A + p) (((bytesOf S).drop p).take 16)) := Lib.hid (by rw [hPI, hLN])
      have HLN0 := Lib.hid hLN
      have HPI := Lib.hid hPI
      clear hPI hLN
      have hps : p ≤ S.size := by omega
      go_wp2_with fail
      refine (HX.out _).mono ?_
      rintro e w1 ⟨rfl, hu1⟩
      have HU1 := Lib.hid hu1
      clear hu1
      go_wp2
      go_loopg [7, 8] 16 (fun gg s7 s8 ws => ∃ j k : Nat, Hid (k = p + j) ∧ j ≤ 16 ∧ p + j ≤ S.size ∧ gg = 16 - j ∧ k ≤ S.size ∧ s8 = .int .i64 (k : Nat) ∧ s7 = .string (strOf (hexLine (A + p) (PI.take j))) ∧ Hid (Upd [] wo ws))
      case atStart => exact ⟨0, p, Lib.hid rfl, by omega, by omega, rfl, hps, rfl, by rw [List.take_zero, hexLine_nil], HU1⟩
      case round =>
        obtain ⟨j, k, HK, hj, hjs, rfl, hks, rfl, rfl, HU2⟩ := hrel
        by_cases hin : j < PI.length
        · have hg := HPG.out j hin
          have hpl := HPL.out
          have hk1 : (k : Int) < (p : Int) + 16 := by have := HK.out; omega
          have hk2 : (k : Int) < (S.size : Int) := by have := HK.out; omega
          have hk3 : k < S.size := by omega
          have hg2 : PI[j] = S[k].toNat := by
            have := HK.out; subst this; exact hg.2 _
          have HTK : Hid (PI.take (j + 1) = PI.take j ++ [PI[j]]) := Lib.hid (List.take_succ_eq_append_getElem hin)
          have hbl : S[k].toNat < 256 := S[k].toNat_lt
          rw [hg2] at HTK
          obtain ⟨b, hbe⟩ : ∃ b, S[k].toNat = b := ⟨_, rfl⟩
          rw [hbe] at HTK hbl
          have HX2 := Lib.hid (fun w => rhex_any b w (by omega))
          have hex6 := hex_cut6 b
          have hz8 : (strOf (hexP b 8)).size = 8 := by rw [size_strOf, hexP_len]
          have hadd1 : ∀ w, (Op.stringOp .add ({ data := #[32] } : ByteArray) (strOf (hexP b 2))).run Tryd.prog w = .ok (.string (strOf ([32] ++ hexP b 2))) w := fun w => addl_row [32] (hexP b 2) (by rw [hexP_len]; simp) w
          have hll := hexLine_len (A + p) (PI.take j)
          have hadd2 : ∀ w, (Op.stringOp .add (strOf (hexLine (A + p) (PI.take j))) (strOf ([32] ++ hexP b 2))).run Tryd.prog w = .ok (.string (strOf (hexLine (A + p) (PI.take (j + 1))))) w := fun w => by
            rw [addl_row _ _ (by rw [hll, List.length_append, hexP_len, List.length_take]; simp; omega) w, HTK.out, hexLine_snoc]
          have HK2 : Hid (k + 1 = p + (j + 1)) := Lib.hid (by have := HK.out; omega)
          clear hg hg2 hll hpl
          generalize strOf ([32] ++ hexP b 2) = H32 at *
          generalize strOf (hexP b 2) = H2 at *
          generalize strOf (hexP b 8) = H8 at *
          generalize hL1 : strOf (hexLine (A + p) (PI.take (j + 1))) = LL1 at *
          have HL1 := Lib.hid hL1
          generalize hLL : strOf (hexLine (A + p) (PI.take j)) = LL at *
          have HLL2 := Lib.hid hLL
          have HJS := Lib.hid hjs
          have HJ := Lib.hid hj
          have HIN := Lib.hid hin
          clear hLL hL1 hjs hj hin
          go_wp2_with fail
          refine (HX2.out _).mono ?_
          rintro e w2 ⟨rfl, hu2⟩
          have HU4 := Lib.hid (HU2.out.then hu2)
          clear hu2
          go_wp2
          go_roundg (16 - (j + 1))
          · exact ⟨j + 1, k + 1, HK2, by have := HIN.out; have := HPL.out; omega, by have := HIN.out; have := HPL.out; omega, rfl, by omega, by first | rfl | go_num, by rw [HL1.out], HU4⟩
          · have := HIN.out; have := HPL.out; omega
        · by_cases h16 : j < 16
          · have hk1 : (k : Int) < (p : Int) + 16 := by have := HK.out; omega
            have hk2 : ¬ (k : Int) < (S.size : Int) := by have := HK.out; have := HPL.out; omega
            have hpe : (PI.take j) = PI := List.take_of_length_le (by have := HPL.out; omega)
            have HLN : Hid (hexLine (A + p) (PI.take j) = LN) := Lib.hid (by rw [hpe, HLN0.out])
            clear hpe
            obtain ⟨va, vc, rfl⟩ := HO.out.form
            have HQL := Lib.hid (hexTo_len A (bytesOf S) q)
            have hO2 := HO.out.upd HU2.out
            have HU3 := Lib.hid (HU.out.then HU2.out)
            rw [HLN.out]
            have HJS := Lib.hid hjs
            have HJ := Lib.hid hj
            have HIN := Lib.hid hin
            have H16 := Lib.hid h16
            clear hjs hj hin h16
            go_wp2_with (at_builtin; refine wpList_app _ rfl _ _ 22 rfl 9 i0 _ 1 16 Tryd.underlying22 hi hz0 hz1 hz2 rfl (by omega) _ (hexTo A (bytesOf S) q).length _ rfl (hO2.1.alloc _) ⟨wr.heap.size, 0, none⟩ 1 1 [_] rfl rfl (World.news_of_block (cs := #[_]) (t := 9) (fr := (0, 0)) (heap_alloc_new _ _)) (by simp [Value.oneCell']) (by have := HQL.out; unfold maxLen; omega) (by have := HQL.out; omega) ?_)
            intro v4 w4 hR4 hU4 hT4
            have hap := hO2.app _ HU3.out hR4 hU4 hT4
            have HAP := Lib.hid hap
            have HP2 : Hid (p + 16 = 16 * (q + 1)) := Lib.hid (by have := HP.out; omega)
            have hq70 : q < 70 := by have := HP.out; omega
            clear hR4 hU4 hT4 hap hO2
            go_wp2
            go_roundg (70 - (q + 1))
            · exact ⟨q + 1, p + 16, HP2, by omega, by omega, rfl, by first | rfl | go_num, Lib.hid (by rw [hexTo_succ, ← HP.out]; have h := HAP.out.1; rw [HLNE.out] at h; exact h), Lib.hid HAP.out.2⟩
            · omega
          · have hk1 : ¬ (k : Int) < (p : Int) + 16 := by have := HK.out; omega
            have hpe : (PI.take j) = PI := List.take_of_length_le (by have := HPL.out; omega)
            have HLN : Hid (hexLine (A + p) (PI.take j) = LN) := Lib.hid (by rw [hpe, HLN0.out])
            clear hpe
            obtain ⟨va, vc, rfl⟩ := HO.out.form
            have HQL := Lib.hid (hexTo_len A (bytesOf S) q)
            have hO2 := HO.out.upd HU2.out
            have HU3 := Lib.hid (HU.out.then HU2.out)
            rw [HLN.out]
            have HJS := Lib.hid hjs
            have HJ := Lib.hid hj
            have HIN := Lib.hid hin
            have H16 := Lib.hid h16
            clear hjs hj hin h16
            go_wp2_with (at_builtin; refine wpList_app _ rfl _ _ 22 rfl 9 i0 _ 1 16 Tryd.underlying22 hi hz0 hz1 hz2 rfl (by omega) _ (hexTo A (bytesOf S) q).length _ rfl (hO2.1.alloc _) ⟨wr.heap.size, 0, none⟩ 1 1 [_] rfl rfl (World.news_of_block (cs := #[_]) (t := 9) (fr := (0, 0)) (heap_alloc_new _ _)) (by simp [Value.oneCell']) (by have := HQL.out; unfold maxLen; omega) (by have := HQL.out; omega) ?_)
            intro v4 w4 hR4 hU4 hT4
            have hap := hO2.app _ HU3.out hR4 hU4 hT4
            have HAP := Lib.hid hap
            have HP2 : Hid (p + 16 = 16 * (q + 1)) := Lib.hid (by have := HP.out; omega)
            have hq70 : q < 70 := by have := HP.out; omega
            clear hR4 hU4 hT4 hap hO2
            go_wp2
            go_roundg (70 - (q + 1))
            · exact ⟨q + 1, p + 16, HP2, by omega, by omega, rfl, by first | rfl | go_num, Lib.hid (by rw [hexTo_succ, ← HP.out]; have h := HAP.out.1; rw [HLNE.out] at h; exact h), Lib.hid HAP.out.2⟩
            · omega
    · have hcz : ¬ (p : Int) < (S.size : Int) := by omega
      have HQ : Hid (q = (S.size + 15) / 16) := Lib.hid (by have := HP.out; omega)
      go_wp2
      go_ret
      exact ⟨_, rfl, by rw [HLL.out, ← HQ.out]; exact HO.out, HU.out⟩
end Go.Proofs.YtibmhadnfggmlaaDoor

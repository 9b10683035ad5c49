/- Package swingleref13: Split, Right. -/
import Derived.Test.YtigjingielnaoaaDoorQAP
import Derived.Test.YtigjingielnaoaaDoorNameR
namespace Go.Proofs.YtigjingielnaoaaDoor
set_option linter.unusedVariables false
set_option linter.unusedSimpArgs false
set_option linter.unusedSectionVars false
open Go.RowKit
set_option linter.unusedVariables false

theorem infoStr : (Tryd.prog.info? 9).map (fun i => (i.zero, i.size, i.bytes)) = some (some (.string .empty), 1, 16) := by kernel_rfl
def strV (l : List Nat) : Value := .string (strOf l)
theorem strOf_snoc (s : ByteArray) (cur : List Nat) (i : Nat) (h : i < s.size) : strOf cur ++ s.extract i (i + 1) = strOf (cur ++ [s[i].toNat]) := by
  rw [← strOf_append]
  congr 1
  rw [← strOf_bytesOf (s.extract i (i + 1)), bytesOf_extract]
  congr 1
  rw [show i + 1 - i = 1 by omega, List.drop_eq_getElem_cons (by rw [length_bytesOf]; exact h), bytesOf_get s i h]; rfl
set_option maxRecDepth 100000 in
set_option maxHeartbeats 4000000 in
theorem rsplit13_any (s : ByteArray) (w : World) (hs : s.size ≤ 1100000) : Calls Tryd.prog 108 #[.string s] w fun e w' =>
    ∃ g cap, e = .returned (.slice (some ⟨g, 0, none⟩) (splitP (bytesOf s)).length cap) ∧ w.heap.size ≤ g ∧ Row w' 9 1 (.slice (some ⟨g, 0, none⟩) (splitP (bytesOf s)).length cap) (splitP (bytesOf s)).length ((splitP (bytesOf s)).map strV) ∧ Upd [] w w' := by
  obtain ⟨i0, hi, hz0, hz1, hz2⟩ := info_parts infoStr
  go_enter Tryd.func108, Tryd.ntmps108
  go_wp2
  go_loopg [3, 4, 5] s.size (fun g v t c wr => ∃ (i : Nat) (done : List (List Nat)) (cur : List Nat), i ≤ s.size ∧ done.length ≤ i ∧ cur.length ≤ i ∧ t = .string (strOf cur) ∧ c = .int .i64 (i : Nat) ∧ g = s.size - i ∧ Hid (splitP (bytesOf s) = done ++ joinP cur (splitP ((bytesOf s).drop i))) ∧ Hid (Row wr 9 1 v done.length (done.map strV)) ∧ Hid (∀ b, v.ownBlock = some b → w.heap.size ≤ b) ∧ Hid (Upd [] w wr))
  case atStart => exact ⟨0, [], [], Nat.zero_le _, Nat.zero_le _, Nat.zero_le _, rfl, rfl, rfl, Lib.hid (by rw [List.drop_zero, joinP_nil]; rfl), Lib.hid (Row.nil _ _ _), Lib.hid (by simp [Value.ownBlock]), Lib.hid (Upd.refl _ _)⟩
  case round =>
    obtain ⟨i, done, cur, hi1, hd, hcu, rfl, rfl, rfl, HS, HR, HB, HU⟩ := hrel
    obtain ⟨va, vc, hv⟩ := HR.out.form
    subst hv
    by_cases hc : i < s.size
    · have hbl : s[i].toNat < 256 := s[i].toNat_lt
      have HC := Lib.hid (strOf_snoc s cur i hc)
      have hdr : (bytesOf s).drop i = s[i].toNat :: (bytesOf s).drop (i + 1) := by
        rw [List.drop_eq_getElem_cons (by rw [length_bytesOf]; exact hc), bytesOf_get s i hc]
      have HD := Lib.hid hdr
      have hsz : (strOf cur).size = cur.length := size_strOf cur
      clear hdr
      by_cases h47 : s[i].toNat = 47
      · have t1 : ((s[i].toNat : Int) == 47) = true := by rw [beq_iff_eq]; omega
        have HS2 : Hid (splitP (bytesOf s) = (done ++ [cur]) ++ joinP [] (splitP ((bytesOf s).drop (i + 1)))) := Lib.hid (by rw [HS.out, HD.out, h47, joinP_slash]; simp)
        clear h47 HS HC HD
        go_wp2_with (at_builtin; refine wpList_app _ rfl _ _ 40 rfl 9 i0 _ 1 16 Tryd.underlying40 hi hz0 hz1 hz2 rfl (by omega) (.slice va done.length vc) done.length _ rfl (HR.out.alloc _) ⟨wr.heap.size, 0, none⟩ 1 1 [_] rfl rfl (World.news_of_block (cs := #[_]) (t := 9) (fr := (0, 0)) (heap_alloc_new _ _)) (by simp [Value.oneCell']) (by unfold maxLen; omega) (by omega) ?_)
        rintro v9 w9 hR9 hU9 hT9
        obtain ⟨va9, vc9, rfl⟩ := hR9.form
        have hB9 : ∀ b, (Value.slice va9 (done.length + 1) vc9).ownBlock = some b → w.heap.size ≤ b := fun b hb => by
          have := HU.out.size
          rcases hT9 with e | ⟨g, e1, e2⟩
          · exact HB.out b (by rw [← e]; exact hb)
          · rw [hb] at e1; simp at e1 e2; omega
        have HF : Hid (Row w9 9 1 (.slice va9 (done.length + 1) vc9) (done ++ [cur]).length ((done ++ [cur]).map strV) ∧ (∀ b, (Value.slice va9 (done.length + 1) vc9).ownBlock = some b → w.heap.size ≤ b) ∧ Upd [] w w9) := Lib.hid ⟨by
            rw [List.length_append, List.map_append]; exact hR9, hB9, (HU.out.then ((Upd.refl _ _).alloc _)).trans hU9 (fun k hk => .inr (HB.out k (by simpa using hk)))⟩
        clear hR9 hU9 hT9 hB9 HR HB HU
        go_wp2
        go_roundg (s.size - (i + 1))
        all_goals first
          | omega
          | exact ⟨i + 1, done ++ [cur], [], by omega, by simp; omega, by simp, rfl, by go_num, rfl, HS2, Lib.hid HF.out.1, Lib.hid HF.out.2.1, Lib.hid HF.out.2.2⟩
      · have t1 : ((s[i].toNat : Int) == 47) = false := by rw [beq_eq_false_iff_ne]; omega
        have HS2 : Hid (splitP (bytesOf s) = done ++ joinP (cur ++ [s[i].toNat]) (splitP ((bytesOf s).drop (i + 1)))) := Lib.hid (by rw [HS.out, HD.out, joinP_step _ _ _ h47])
        clear h47 HS HD
        go_wp2
        go_roundg (s.size - (i + 1))
        all_goals first
          | omega
          | exact ⟨i + 1, done, cur ++ [s[i].toNat], by omega, by omega, by simp; omega, by rw [HC.out], by go_num, rfl, HS2, HR, HB, HU⟩
    · have hlen := length_bytesOf s
      have HS2 : Hid (splitP (bytesOf s) = done ++ [cur]) := Lib.hid (by rw [HS.out, List.drop_of_length_le (by omega)]; simp [splitP, joinP])
      clear HS hlen
      go_wp2_with (at_builtin; refine wpList_app _ rfl _ _ 40 rfl 9 i0 _ 1 16 Tryd.underlying40 hi hz0 hz1 hz2 rfl (by omega) (.slice va done.length vc) done.length _ rfl (HR.out.alloc _) ⟨wr.heap.size, 0, none⟩ 1 1 [_] rfl rfl (World.news_of_block (cs := #[_]) (t := 9) (fr := (0, 0)) (heap_alloc_new _ _)) (by simp [Value.oneCell']) (by unfold maxLen; omega) (by omega) ?_)
      rintro v9 w9 hR9 hU9 hT9
      obtain ⟨g, cap, rfl, hg1, hg2⟩ := hR9.form' (by omega)
      have hB9 : w.heap.size ≤ g := by
        have := HU.out.size
        rcases hT9 with e | ⟨g', e1, e2⟩
        · exact HB.out g (by rw [← e]; rfl)
        · simp [Value.ownBlock] at e1 e2; omega
      have HF := Lib.hid hR9
      have HUU := Lib.hid ((HU.out.then ((Upd.refl _ _).alloc _)).trans hU9 (fun k hk => .inr (HB.out k (by simpa using hk))))
      clear hR9 hU9 hT9 HR HB HU
      go_wp2
      go_ret
      refine ⟨g, cap, ?_, hB9, ?_, HUU.out⟩
      · rw [HS2.out, List.length_append]; rfl
      · rw [HS2.out, List.length_append, List.map_append]; exact HF.out
theorem head_get (l : List Nat) : ((splitP l).map strV)[0]? = some (.string (strOf ((splitP l).headD []))) := by
  rw [splitP_ht l]; rfl
set_option maxRecDepth 100000 in
set_option maxHeartbeats 4000000 in
theorem rname_any (s : ByteArray) (w : World) (hs : s.size ≤ 1100000) : Calls Tryd.prog 90 #[.string s] w fun e w' => e = .returned (.bool (rightP (bytesOf s))) ∧ Upd [] w w' := by
  have HSP := Lib.hid (rsplit13_any s w hs)
  have hhd : ∀ x ∈ (splitP (bytesOf s)).headD [], x < 256 := splitP_lt s _ (by
    rw [splitP_ht (bytesOf s)]; simp)
  have HQ := Lib.hid (eq_res _ hhd)
  have HLN := Lib.hid (length_bytesOf s)
  have HH := Lib.hid (head_get (bytesOf s))
  have HLT := Lib.hid (splitP_lt s)
  have hpl := splitP_len (bytesOf s)
  rw [length_bytesOf] at hpl
  have HPL := Lib.hid (splitP_plen (bytesOf s))
  have hpos : 0 < (splitP (bytesOf s)).length := List.length_pos_iff.2 (splitP_ne _)
  clear hhd
  go_enter Tryd.func90, Tryd.ntmps90
  go_wp2_with fail
  refine HSP.out.mono ?_
  rintro e w1 ⟨g, cap, rfl, hg, hR, hU⟩
  have HR := Lib.hid hR
  have HU := Lib.hid hU
  clear hR hU HSP
  obtain ⟨P, hP⟩ : ∃ P, splitP (bytesOf s) = P := ⟨_, rfl⟩
  have HP := Lib.hid hP
  rw [hP] at HR HQ HLT HPL HH hpos hpl ⊢
  clear hP
  by_cases h200 : 200 < s.size
  · have HE := Lib.hid (rightP_long (l := bytesOf s) (by rw [HLN.out]; exact h200))
    go_wp2
    go_ret
    exact ⟨by rw [HE.out]; rfl, HU.out⟩
  · by_cases h12 : 12 < P.length
    · have HE := Lib.hid (rightP_many (l := bytesOf s) (by rw [HP.out]; exact h12))
      go_wp2
      go_ret
      exact ⟨by rw [HE.out]; rfl, HU.out⟩
    · have c0 := HR.out.cell 0 HH.out
      by_cases hres : P.headD [] = resP
      · have HE := Lib.hid (rightP_res (l := bytesOf s) (by rw [HP.out]; exact hres))
        have t1 := HQ.out.trans (decide_eq_true hres)
        clear hres
        generalize P.headD [] = hd at *
        go_wp2
        go_ret
        exact ⟨by rw [HE.out]; rfl, HU.out⟩
      · have t1 := HQ.out.trans (decide_eq_false hres)
        have HNE : Hid ((splitP (bytesOf s)).headD [] ≠ resP) := Lib.hid (by rw [HP.out]; exact hres)
        clear hres
        generalize P.headD [] = hd at *
        go_wp2
        go_loopg [24] P.length (fun g' t wr => ∃ k : Nat, k ≤ P.length ∧ t = .int .i64 (k : Nat) ∧ g' = P.length - k ∧ Hid (∀ (i : Nat) p, i < k → P[i]? = some p → partOk p = true) ∧ w1 = wr)
        case atStart => exact ⟨0, Nat.zero_le _, rfl, rfl, Lib.hid (fun i p h => by omega), rfl⟩
        case round =>
          obtain ⟨k, hk, rfl, rfl, HA, rfl⟩ := hrel
          clear c0 t1
          by_cases hc : k < P.length
          · have hgk : (P.map strV)[k]? = some (.string (strOf P[k])) := by rw [List.getElem?_map, List.getElem?_eq_getElem hc]; rfl
            have ck := HR.out.cell k hgk
            have hmem : P[k] ∈ P := List.getElem_mem hc
            have hpz : (strOf P[k]).size ≤ 1100000 := by rw [size_strOf]; have := HPL.out _ hmem; have := HLN.out; omega
            have HPT := Lib.hid (fun w => rpart_any (strOf P[k]) w hpz)
            rw [bytesOf_strOf _ (HLT.out _ hmem)] at HPT
            have HM : Hid (P[k] ∈ splitP (bytesOf s)) := Lib.hid (by rw [HP.out]; exact hmem)
            have HGK : Hid (P[k]? = some P[k]) := Lib.hid (List.getElem?_eq_getElem hc)
            clear hgk hmem hpz
            obtain ⟨p, hp⟩ : ∃ p, P[k] = p := ⟨_, rfl⟩
            rw [hp] at ck HPT HM HGK
            clear hp
            cases hpo : partOk p with
            | true =>
              rw [hpo] at HPT
              have HA2 : Hid (∀ (i : Nat) p, i < k + 1 → P[i]? = some p → partOk p = true) := Lib.hid (fun i q h1 h2 => by
                by_cases e : i = k
                · subst e; rw [HGK.out] at h2; simp at h2; subst h2; exact hpo
                · exact HA.out i q (by omega) h2)
              clear hpo HA HM HGK
              go_wp2_with (go_at_call 109; refine (HPT.out _).mono ?_; rintro e w' ⟨rfl, rfl⟩)
              go_roundg (P.length - (k + 1))
              all_goals first
                | omega
                | exact ⟨k + 1, by omega, by go_num, rfl, HA2, rfl⟩
            | false =>
              rw [hpo] at HPT
              have HE := Lib.hid (rightP_bad HM.out hpo)
              clear hpo HA HM HGK
              go_wp2_with (go_at_call 109; refine (HPT.out _).mono ?_; rintro e w' ⟨rfl, rfl⟩)
              go_ret
              exact ⟨by rw [HE.out]; rfl, HU.out⟩
          · have HE : Hid (rightP (bytesOf s) = true) := Lib.hid (rightP_yes (by rw [HLN.out]; omega) HNE.out (by rw [HP.out]; omega) (fun p hp => by
              rw [HP.out] at hp
              obtain ⟨i, hi, e⟩ := List.getElem_of_mem hp
              exact HA.out i p (by omega) (by rw [List.getElem?_eq_getElem hi, e])))
            clear HA
            go_wp2
            go_ret
            exact ⟨by rw [HE.out]; rfl, HU.out⟩
end Go.Proofs.YtigjingielnaoaaDoor

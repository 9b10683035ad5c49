/- Package lens: merged: its walk. -/
import Derived.Test.YtdehkaknbmbieaaGreatQAF
namespace Go.Proofs.YtdehkaknbmbieaaGreat
set_option linter.unusedVariables false
set_option linter.unusedSimpArgs false
set_option linter.unusedSectionVars false
open Go.RowKit
set_option linter.unusedVariables false
set_option linter.unusedSimpArgs false

theorem SlC.cons {w : World} {v p : Value} {ps : List Value} (h : SlC w v (p :: ps)) : ∃ b o c, v = .slice (some ⟨b, o, none⟩) (ps.length + 1) c ∧ ps.length + 1 ≤ c ∧ w.cell? ⟨b, o, none⟩ = some p ∧
    (c = 1 → ps = [] ∧ SlC w (.slice (some ⟨b, o, none⟩) 0 0) ps) ∧ (1 < c → SlC w (.slice (some ⟨b, o + 1, none⟩) ps.length (c - 1)) ps) := by
  obtain ⟨a, c, h1, h2, h3, h4⟩ := h
  obtain ⟨b, o, rfl, hc⟩ := h4 0 (by simp)
  rw [Nat.add_zero] at hc
  simp only [List.length_cons] at h1 h2
  refine ⟨b, o, c, h1, h2, hc, fun e => ?_, fun e => ⟨_, _, rfl, by omega, (fun e => by cases e), fun i hi => ?_⟩⟩
  · have : ps = [] := List.eq_nil_of_length_eq_zero (by omega)
    subst this
    exact ⟨rfl, _, _, rfl, Nat.le_refl _, (fun e => by cases e), fun i hi => by simp at hi⟩
  · obtain ⟨b2, o2, e2, hc2⟩ := h4 (i + 1) (by simp; omega)
    cases e2
    exact ⟨b, o + 1, rfl, by rw [show o + 1 + i = o + (i + 1) by omega]; exact hc2⟩
theorem appC {w0 w w' : World} {v v' : Value} {xs ys : List Value} (h : OwnC w0 w v xs) (hu : Upd [] w0 w) (o : Obj) (hR : Row w' 166 1 v' (xs.length + ys.length) (xs ++ ys)) (hU : Upd v.ownBlock.toList ((w.alloc o).drew) w') (hT : Later ((w.alloc o).drew) v v') :
    OwnC w0 w' v' (xs ++ ys) ∧ Upd [] w0 w' :=
  (h.upd (((Upd.refl [] w).alloc o).drew)).app (hu.then ((Upd.refl [] w).alloc o).drew) hR hU hT
theorem sl_form {a : Option Addr} {n m c : Nat} (h : m = n) : ∃ x1 x2, Value.slice a n c = .slice x1 m x2 := ⟨a, c, by rw [h]⟩
theorem CoinAt.one {w : World} {p : Value} {c : Coin} (h : CoinAt w p c) : p.oneCell' = true := by
  obtain ⟨b, u, v, rfl, _⟩ := h.head
  rfl
theorem CoinsAt.ones {w : World} {ps : List Value} {cs : List Coin} (h : CoinsAt w ps cs) : ∀ u ∈ ps, u.oneCell' = true := fun u hu => by
  obtain ⟨i, hi⟩ := List.getElem?_of_mem hu
  have hl := (List.getElem?_eq_some_iff.1 hi).1
  exact (h.2 i u (cs[i]'(by rw [← h.1]; exact hl)) hi (List.getElem?_eq_getElem (by rw [← h.1]; exact hl))).one
theorem CoinsAt.cons {w : World} {p : Value} {ps : List Value} {c : Coin} {cs : List Coin} (h : CoinsAt w (p :: ps) (c :: cs)) : CoinAt w p c ∧ CoinsAt w ps cs :=
  ⟨h.2 0 p c rfl rfl, by have := h.1; simpa using this, fun i q d h1 h2 => h.2 (i + 1) q d (by simpa using h1) (by simpa using h2)⟩
set_option maxRecDepth 100000 in
set_option maxHeartbeats 12800000 in
theorem merged_any (v1 v2 : Value) (ps1 ps2 : List Value) (cs1 cs2 : List Coin) (w : World) (h1 : SlC w v1 ps1) (h2 : SlC w v2 ps2) (k1 : CoinsAt w ps1 cs1) (k2 : CoinsAt w ps2 cs2) (hl1 : ps1.length ≤ 1000) (hl2 : ps2.length ≤ 1000) (h0 : 0 < ps1.length + ps2.length) :
    Calls Tryz.prog 122 #[v1, v2, .func (.func 124) #[] #[]] w fun e w' => ∃ v ps, e = .returned v ∧ OwnC w w' v ps ∧ CoinsAt w' ps (mergeC cs1 cs2) ∧ Upd [] w w' := by
  obtain ⟨i0, hi, hz0, hz1, hz2⟩ := info_parts infoCp
  have H1 := Lib.hid h1
  have H2 := Lib.hid h2
  have K1 := Lib.hid k1
  have K2 := Lib.hid k2
  have HL := Lib.hid (show ps1.length ≤ 1000 ∧ ps2.length ≤ 1000 ∧ 0 < ps1.length + ps2.length from ⟨hl1, hl2, h0⟩)
  obtain ⟨a1, c1, rfl, -⟩ := h1
  obtain ⟨a2, c2, rfl, -⟩ := h2
  clear k1 k2 hl1 hl2 h0
  go_enter Tryz.func122, Tryz.ntmps122
  go_wp2
  go_loopg [0, 1, 6] 2000 (fun gg s0 s1 s6 wr => ∃ (pa pb po : List Value) (ca cb co : List Coin), Hid (SlC w s0 pa) ∧ Hid (SlC w s1 pb) ∧ Hid (CoinsAt w pa ca) ∧ Hid (CoinsAt w pb cb) ∧ Hid (CoinsAt w po co) ∧ Hid (OwnC w wr s6 po) ∧ Hid (Upd [] w wr) ∧ Hid (co ++ mergeC ca cb = mergeC cs1 cs2) ∧ Hid (po.length + pa.length + pb.length = ps1.length + ps2.length) ∧ gg = 2000 - po.length ∧ Hid (∃ x1 x2, s0 = .slice x1 pa.length x2) ∧ Hid (∃ x1 x2, s1 = .slice x1 pb.length x2))
  case atStart => exact ⟨ps1, ps2, [], cs1, cs2, [], H1, H2, K1, K2, Lib.hid (CoinsAt.nil w), Lib.hid (OwnC.nil _ _), Lib.hid (Upd.refl _ _), Lib.hid rfl, Lib.hid (by simp), by simp, Lib.hid ⟨_, _, rfl⟩, Lib.hid ⟨_, _, rfl⟩⟩
  case round =>
    obtain ⟨pa, pb, po, ca, cb, co, HA, HB, KA, KB, KO, HO, HU, HE, HN, rfl, HF0, HF1⟩ := hrel
    obtain ⟨va, vc, rfl⟩ := HO.out.form
    obtain ⟨fl, hfl⟩ : ∃ fl, po.length = fl := ⟨_, rfl⟩
    rw [hfl] at HO ⊢
    have HFL := Lib.hid hfl
    have hflb : fl ≤ 2000 := by have := HN.out; have := HL.out; omega
    clear hfl
    have DONE : ∀ (x0 : Option Addr) (y0 : Nat) (x1 : Option Addr) (y1 : Nat), True := fun _ _ _ _ => trivial
    clear DONE
    cases pa with
    | nil =>
      have hca : ca = [] := List.eq_nil_of_length_eq_zero (by have := KA.out.1; simpa using this.symm)
      subst hca
      obtain ⟨x1, x2, rfl⟩ := HF0.out
      obtain ⟨y1, y2, rfl⟩ := HF1.out
      have HFLT : Hid ((([po, ([] : List Value), pb] : List (List Value)).flatten.length) = ps1.length + ps2.length) := Lib.hid (by have h1 := HN.out; simp only [List.flatten_cons, List.flatten_nil, List.length_append, List.length_nil, List.length_cons] at h1 ⊢; omega)
      have hB5 : Blk (wr.alloc (.cells #[.slice va fl vc, .slice x1 (([] : List Value)).length x2, .slice y1 (pb).length y2] 165)) wr.heap.size [.slice va fl vc, .slice x1 (([] : List Value)).length x2, .slice y1 (pb).length y2] 165 := Blk.new _ _ _
      have hU5 : Upd [] wr (wr.alloc (.cells #[.slice va fl vc, .slice x1 (([] : List Value)).length x2, .slice y1 (pb).length y2] 165)) := (Upd.refl _ _).alloc _
      have hSO := (HO.out.upd hU5).slC
      have HCN := Lib.hid (concat_any _ [po, ([] : List Value), pb] wr.heap.size 3 _ hB5 rfl rfl (by omega) (fun i v x hv hx => by
        match i with
        | 0 => simp at hv hx; subst hv hx; exact hSO
        | 1 => simp at hv hx; subst hv hx; exact HA.out.upd (HU.out.then hU5)
        | 2 => simp at hv hx; subst hv hx; exact HB.out.upd (HU.out.then hU5)
        | k + 3 => simp at hv) (fun x hx u hu => by
          simp only [List.mem_cons, List.not_mem_nil, or_false] at hx
          rcases hx with rfl | rfl | rfl
          · exact KO.out.ones u hu
          · exact KA.out.ones u hu
          · exact KB.out.ones u hu) (by rw [HFLT.out]; have := HL.out; omega) (by rw [HFLT.out]; have := HL.out; omega))
      have HU5 := Lib.hid (HU.out.then hU5)
      have HFE : Hid (([po, ([] : List Value), pb] : List (List Value)).flatten = po ++ (([] : List Value) ++ pb)) := Lib.hid (by simp)
      have HCE : Hid (co ++ (([] : List Coin) ++ cb) = mergeC cs1 cs2) := Lib.hid (by rw [← HE.out]; rw [mergeC_nil]; rfl)
      rw [HFE.out] at HCN
      clear hB5 hU5 hSO
      have hz0x : ¬ (0 : Int) < 0 := by omega
      go_wp2_with fail
      refine HCN.out.mono ?_
      rintro e w9 ⟨v9, rfl, hO9, hU9⟩
      have HO9 := Lib.hid hO9
      have HU9 := Lib.hid (HU5.out.then hU9)
      have HS9 := Lib.hid hU9.size
      clear hO9 hU9
      go_wp2
      go_ret
      refine ⟨_, _, rfl, ⟨HO9.out.1, fun k hk => Nat.le_trans HU5.out.size (HO9.out.2 k hk)⟩, ?_, HU9.out⟩
      rw [← HCE.out]
      exact (KO.out.append (KA.out.append KB.out)).upd HU9.out
    | cons P pa =>
      cases pb with
      | nil =>
        have hcb : cb = [] := List.eq_nil_of_length_eq_zero (by have := KB.out.1; simpa using this.symm)
        subst hcb
        have hnz : (0 : Int) < (((P :: pa).length : Nat) : Int) := by rw [List.length_cons]; omega
        obtain ⟨x1, x2, rfl⟩ := HF0.out
        obtain ⟨y1, y2, rfl⟩ := HF1.out
        have HFLT : Hid ((([po, (P :: pa), ([] : List Value)] : List (List Value)).flatten.length) = ps1.length + ps2.length) := Lib.hid (by have h1 := HN.out; simp only [List.flatten_cons, List.flatten_nil, List.length_append, List.length_nil, List.length_cons] at h1 ⊢; omega)
        have hB5 : Blk (wr.alloc (.cells #[.slice va fl vc, .slice x1 ((P :: pa)).length x2, .slice y1 (([] : List Value)).length y2] 165)) wr.heap.size [.slice va fl vc, .slice x1 ((P :: pa)).length x2, .slice y1 (([] : List Value)).length y2] 165 := Blk.new _ _ _
        have hU5 : Upd [] wr (wr.alloc (.cells #[.slice va fl vc, .slice x1 ((P :: pa)).length x2, .slice y1 (([] : List Value)).length y2] 165)) := (Upd.refl _ _).alloc _
        have hSO := (HO.out.upd hU5).slC
        have HCN := Lib.hid (concat_any _ [po, (P :: pa), ([] : List Value)] wr.heap.size 3 _ hB5 rfl rfl (by omega) (fun i v x hv hx => by
          match i with
          | 0 => simp at hv hx; subst hv hx; exact hSO
          | 1 => simp at hv hx; subst hv hx; exact HA.out.upd (HU.out.then hU5)
          | 2 => simp at hv hx; subst hv hx; exact HB.out.upd (HU.out.then hU5)
          | k + 3 => simp at hv) (fun x hx u hu => by
            simp only [List.mem_cons, List.not_mem_nil, or_false] at hx
            rcases hx with rfl | rfl | rfl
            · exact KO.out.ones u hu
            · exact KA.out.ones u hu
            · exact KB.out.ones u hu) (by rw [HFLT.out]; have := HL.out; omega) (by rw [HFLT.out]; have := HL.out; omega))
        have HU5 := Lib.hid (HU.out.then hU5)
        have HFE : Hid (([po, (P :: pa), ([] : List Value)] : List (List Value)).flatten = po ++ ((P :: pa) ++ ([] : List Value))) := Lib.hid (by simp)
        have HCE : Hid (co ++ (ca ++ ([] : List Coin)) = mergeC cs1 cs2) := Lib.hid (by rw [← HE.out]; rw [mergeC_right, List.append_nil])
        rw [HFE.out] at HCN
        clear hB5 hU5 hSO
        skip
        go_wp2_with fail
        refine HCN.out.mono ?_
        rintro e w9 ⟨v9, rfl, hO9, hU9⟩
        have HO9 := Lib.hid hO9
        have HU9 := Lib.hid (HU5.out.then hU9)
        have HS9 := Lib.hid hU9.size
        clear hO9 hU9
        go_wp2
        go_ret
        refine ⟨_, _, rfl, ⟨HO9.out.1, fun k hk => Nat.le_trans HU5.out.size (HO9.out.2 k hk)⟩, ?_, HU9.out⟩
        rw [← HCE.out]
        exact (KO.out.append (KA.out.append KB.out)).upd HU9.out
      | cons Q pb =>
        cases ca with
        | nil => have := KA.out.1; simp at this
        | cons x ca =>
          cases cb with
          | nil => have := KB.out.1; simp at this
          | cons y cb =>
          obtain ⟨ba, oa, ka, rfl, hka, hda, hta1, hta2⟩ := HA.out.cons
          obtain ⟨bb, ob, kb, rfl, hkb, hdb, htb1, htb2⟩ := HB.out.cons
          have HDA := Lib.hid hda
          have HDB := Lib.hid hdb
          have HTA := Lib.hid (And.intro hta1 hta2)
          have HTB := Lib.hid (And.intro htb1 htb2)
          have HCX := Lib.hid KA.out.cons.1
          have HCY := Lib.hid KB.out.cons.1
          have KA2 := Lib.hid KA.out.cons.2
          have KB2 := Lib.hid KB.out.cons.2
          obtain ⟨bp, up_, vp_, rfl, -⟩ := HCX.out.head
          obtain ⟨bq, uq_, vq_, rfl, -⟩ := HCY.out.head
          have HONEP := Lib.hid HCX.out.one
          have HONEQ := Lib.hid HCY.out.one
          have HLN : Hid (fl + (pa.length + 1) + (pb.length + 1) = ps1.length + ps2.length) := Lib.hid (by have := HN.out; rw [HFL.out] at this; simpa using this)
          have HMC : Hid (mergeC (x :: ca) (y :: cb) = if x.w ≤ y.w then x :: mergeC ca (y :: cb) else y :: mergeC (x :: ca) cb) := Lib.hid (mergeC_cons x y ca cb)
          have hna : (0 : Int) < ((pa.length + 1 : Nat) : Int) := by omega
          have hnb : (0 : Int) < ((pb.length + 1 : Nat) : Int) := by omega
          have HNA := Lib.hid (show pa.length + 1 ≤ ka ∧ pb.length + 1 ≤ kb from ⟨hka, hkb⟩)
          obtain ⟨na, hnae⟩ : ∃ na, pa.length = na := ⟨_, rfl⟩
          obtain ⟨nb, hnbe⟩ : ∃ nb, pb.length = nb := ⟨_, rfl⟩
          rw [hnae] at HTA HNA hna hka HA ⊢
          rw [hnbe] at HTB HNA hnb hkb HB ⊢
          have HNAE := Lib.hid hnae
          have HNBE := Lib.hid hnbe
          clear hda hdb hta1 hta2 htb1 htb2 HF0 HF1 HN hnae hnbe
          go_upto_region 2 with fail
          go_cut [22] (fun s22 wx => s22 = .bool (decide (y.w < x.w)) ∧ Upd [] wr wx)
          case first =>
            refine wp_region_held_drew (S := fun w' => Upd [] wr w') (by kernel_rfl) (Upd.refl _ _).drew (fun hHeld => ?_)
            change wpAnyH _ _ _ _ _ 8 #[false, false, false, false, false, false, false, false] _ _
            refine heldTake (i := 0) (d := some 15) (v := ?v0_1) rfl rfl (by kernel_rfl) (by kernel_rfl) (by kernel_rfl) (fun _ _ _ h => h) (by rfl) ?hy0_1 (by assumption) ?r0_1
            case hy0_1 => (intro w hSw; (try dsimp only at hSw); go_simp; try with_reducible rfl)
            try simp only [Act.put, List.setIfInBounds_toArray, List.set_cons_zero, List.set_cons_succ]
            change wpAnyH _ _ _ _ _ 7 #[true, false, false, false, false, false, false, false] _ _
            refine heldTake (i := 1) (d := some 16) (v := ?v1_2) rfl rfl (by kernel_rfl) (by kernel_rfl) (by kernel_rfl) (fun _ _ _ h => h) (by rfl) ?hy1_2 (by assumption) ?r1_2
            case hy1_2 => (intro w hSw; (try dsimp only at hSw); go_simp; try with_reducible rfl)
            try simp only [Act.put, List.setIfInBounds_toArray, List.set_cons_zero, List.set_cons_succ]
            change wpAnyH _ _ _ _ _ 6 #[true, true, false, false, false, false, false, false] _ _
            refine heldTake (i := 2) (d := some 17) (v := ?v2_3) rfl rfl (by kernel_rfl) (by kernel_rfl) (by kernel_rfl) (fun _ _ _ h => h) (by rfl) ?hy2_3 (by assumption) ?r2_3
            case hy2_3 => (intro w hSw; (try dsimp only at hSw); go_simp; try with_reducible rfl)
            try simp only [Act.put, List.setIfInBounds_toArray, List.set_cons_zero, List.set_cons_succ]
            change wpAnyH _ _ _ _ _ 5 #[true, true, true, false, false, false, false, false] _ _
            refine heldTake (i := 3) (d := some 18) (v := ?v3_4) rfl rfl (by kernel_rfl) (by kernel_rfl) (by kernel_rfl) (fun _ _ _ h => h) (by rfl) ?hy3_4 (by assumption) ?r3_4
            case hy3_4 => (intro w0 hSw; have q0 := ((HU.out.then hSw).at (cellLt HDB.out) (by simp) _).trans HDB.out; go_simp; try with_reducible rfl)
            try simp only [Act.put, List.setIfInBounds_toArray, List.set_cons_zero, List.set_cons_succ]
            change wpAnyH _ _ _ _ _ 4 #[true, true, true, true, false, false, false, false] _ _
            refine heldTake (i := 4) (d := some 19) (v := ?v4_5) rfl rfl (by kernel_rfl) (by kernel_rfl) (by kernel_rfl) (fun _ _ _ h => h) (by rfl) ?hy4_5 (by assumption) ?r4_5
            case hy4_5 => (intro w hSw; (try dsimp only at hSw); go_simp; try with_reducible rfl)
            try simp only [Act.put, List.setIfInBounds_toArray, List.set_cons_zero, List.set_cons_succ]
            change wpAnyH _ _ _ _ _ 3 #[true, true, true, true, true, false, false, false] _ _
            refine heldTake (i := 5) (d := some 20) (v := ?v5_6) rfl rfl (by kernel_rfl) (by kernel_rfl) (by kernel_rfl) (fun _ _ _ h => h) (by rfl) ?hy5_6 (by assumption) ?r5_6
            case hy5_6 => (intro w hSw; (try dsimp only at hSw); go_simp; try with_reducible rfl)
            try simp only [Act.put, List.setIfInBounds_toArray, List.set_cons_zero, List.set_cons_succ]
            change wpAnyH _ _ _ _ _ 2 #[true, true, true, true, true, true, false, false] _ _
            refine heldTake (i := 6) (d := some 21) (v := ?v6_7) rfl rfl (by kernel_rfl) (by kernel_rfl) (by kernel_rfl) (fun _ _ _ h => h) (by rfl) ?hy6_7 (by assumption) ?r6_7
            case hy6_7 => (intro w0 hSw; have q0 := ((HU.out.then hSw).at (cellLt HDA.out) (by simp) _).trans HDA.out; go_simp; try with_reducible rfl)
            try simp only [Act.put, List.setIfInBounds_toArray, List.set_cons_zero, List.set_cons_succ]
            change wpAnyH _ _ _ _ _ 1 #[true, true, true, true, true, true, true, false] _ _
            refine wpAnyH_ready (rs := [7]) (by kernel_rfl) (by simp) ?_
            refine AllReadyH.cons rfl (fun K hK => ?_) AllReadyH.nil
            go_simp
            refine (less_any _ _ _ _ _ (HCY.out.upd (HU.out.then hHeld)) (HCX.out.upd (HU.out.then hHeld))).mono ?_
            rintro e z1 ⟨rfl, hz1⟩
            go_wp2
            refine hK.out _ _ (hHeld.then hz1) (fun hHeld => ?_)
            clear hK K
            try simp only [Act.put, List.setIfInBounds_toArray, List.set_cons_zero, List.set_cons_succ]
            change wpAnyH _ _ _ _ _ 0 #[true, true, true, true, true, true, true, true] _ _
            refine wpAnyH_done (by kernel_rfl) ?_ 0
            go_wp2
            go_meet
            exact ⟨rfl, hHeld⟩
          case rest =>
            obtain ⟨rfl, hUr⟩ := hcut
            have HU2 := Lib.hid (HU.out.then hUr)
            have HO2 := Lib.hid (HO.out.upd hUr)
            clear hUr HU HO
            by_cases hlt : y.w < x.w
            · have HM2 : Hid (mergeC (x :: ca) (y :: cb) = y :: mergeC (x :: ca) cb) := Lib.hid (by rw [HMC.out, if_neg (by omega)])
              rw [decide_eq_true hlt]
              clear hlt HMC
              go_wp2_with fail
              by_cases hcc : 1 < kb
              · have hkz : ¬ kb = 1 := by omega
                have hk1z : (1 : Int) ≤ ((nb : Nat) : Int) + 1 := by omega
                refine wp_region_held_drew (S := fun w' => Upd [] w w') (by kernel_rfl) HU2.out.drew (fun hHeld => ?_)
                change wpAnyH _ _ _ _ _ 10 #[false, false, false, false, false, false, false, false, false, false] _ _
                refine heldTake (i := 0) (d := some 23) (v := ?v0_9) rfl rfl (by kernel_rfl) (by kernel_rfl) (by kernel_rfl) (fun _ _ _ h => h) (by rfl) ?hy0_9 (by assumption) ?r0_9
                case hy0_9 => (intro w hSw; (try dsimp only at hSw); go_simp; try with_reducible rfl)
                try simp only [Act.put, List.setIfInBounds_toArray, List.set_cons_zero, List.set_cons_succ]
                change wpAnyH _ _ _ _ _ 9 #[true, false, false, false, false, false, false, false, false, false] _ _
                refine heldTake (i := 1) (d := some 24) (v := ?v1_10) rfl rfl (by kernel_rfl) (by kernel_rfl) (by kernel_rfl) (fun _ _ _ h => h) (by rfl) ?hy1_10 (by assumption) ?r1_10
                case hy1_10 => (intro w hSw; (try dsimp only at hSw); go_simp; try with_reducible rfl)
                try simp only [Act.put, List.setIfInBounds_toArray, List.set_cons_zero, List.set_cons_succ]
                change wpAnyH _ _ _ _ _ 8 #[true, true, false, false, false, false, false, false, false, false] _ _
                refine heldTake (i := 2) (d := some 25) (v := ?v2_11) rfl rfl (by kernel_rfl) (by kernel_rfl) (by kernel_rfl) (fun _ _ _ h => h) (by rfl) ?hy2_11 (by assumption) ?r2_11
                case hy2_11 => (intro w hSw; (try dsimp only at hSw); go_simp; try with_reducible rfl)
                try simp only [Act.put, List.setIfInBounds_toArray, List.set_cons_zero, List.set_cons_succ]
                change wpAnyH _ _ _ _ _ 7 #[true, true, true, false, false, false, false, false, false, false] _ _
                refine heldTake (i := 3) (d := some 26) (v := ?v3_12) rfl rfl (by kernel_rfl) (by kernel_rfl) (by kernel_rfl) (fun _ _ _ h => h) (by rfl) ?hy3_12 (by assumption) ?r3_12
                case hy3_12 => (intro w0 hSw; have q0 := (hSw.at (cellLt HDB.out) (by simp) _).trans HDB.out; go_simp; try with_reducible rfl)
                try simp only [Act.put, List.setIfInBounds_toArray, List.set_cons_zero, List.set_cons_succ]
                change wpAnyH _ _ _ _ _ 6 #[true, true, true, true, false, false, false, false, false, false] _ _
                refine heldTake (i := 6) (d := some 29) (v := ?v6_13) rfl rfl (by kernel_rfl) (by kernel_rfl) (by kernel_rfl) (fun _ _ _ h => h) (by rfl) ?hy6_13 (by assumption) ?r6_13
                case hy6_13 => (intro w hSw; (try dsimp only at hSw); go_simp; try with_reducible rfl)
                try simp only [Act.put, List.setIfInBounds_toArray, List.set_cons_zero, List.set_cons_succ]
                change wpAnyH _ _ _ _ _ 5 #[true, true, true, true, false, false, true, false, false, false] _ _
                refine heldTake (i := 7) (d := some 30) (v := ?v7_14) rfl rfl (by kernel_rfl) (by kernel_rfl) (by kernel_rfl) (fun _ _ _ h => h) (by rfl) ?hy7_14 (by assumption) ?r7_14
                case hy7_14 => (intro w hSw; (try dsimp only at hSw); go_simp; try with_reducible rfl)
                try simp only [Act.put, List.setIfInBounds_toArray, List.set_cons_zero, List.set_cons_succ]
                change wpAnyH _ _ _ _ _ 4 #[true, true, true, true, false, false, true, true, false, false] _ _
                refine wpAnyH_ready (rs := [4]) (by kernel_rfl) (by simp) ?_
                refine AllReadyH.cons rfl (fun K hK => ?_) AllReadyH.nil
                go_simp
                skip
                go_wp2
                refine hK.out _ _ (hHeld.alloc _) (fun hHeld => ?_)
                clear hK K
                try simp only [Act.put, List.setIfInBounds_toArray, List.set_cons_zero, List.set_cons_succ]
                change wpAnyH _ _ _ _ _ 3 #[true, true, true, true, true, false, true, true, false, false] _ _
                refine wpAnyH_ready (rs := [5]) (by kernel_rfl) (by simp) ?_
                refine AllReadyH.cons rfl (fun K hK => ?_) AllReadyH.nil
                have hRz := (HO2.out.1.alloc (.cells #[(Value.pointer (some ⟨bq, 0, none⟩))] 166)).drew
                rw [HFL.out] at hRz
                refine step_app _ rfl _ _ 165 rfl 166 i0 _ 1 8 Tryz.underlying165 hi hz0 hz1 hz2 rfl (by omega) (.slice va fl vc) fl _ rfl hRz ⟨wc.heap.size, 0, none⟩ 1 1 [(Value.pointer (some ⟨bq, 0, none⟩))] rfl rfl (World.news_of_block (cs := #[(Value.pointer (some ⟨bq, 0, none⟩))]) (t := 166) (fr := (0, 0)) (heap_alloc_new _ _)) (by simpa using HONEQ.out) (by unfold maxLen; omega) (by omega) ?_
                intro v4 w4 hR4 hU4 hT4
                show K (Act.put _ (some 28) v4) w4
                have hap := appC HO2.out HU2.out (.cells #[(Value.pointer (some ⟨bq, 0, none⟩))] 166) (ys := [(Value.pointer (some ⟨bq, 0, none⟩))]) (by rw [HFL.out]; exact hR4) hU4 hT4
                refine hK.out _ _ hap.2 (fun hHeld => ?_)
                clear hK K
                try simp only [Act.put, List.setIfInBounds_toArray, List.set_cons_zero, List.set_cons_succ]
                change wpAnyH _ _ _ _ _ 2 #[true, true, true, true, true, true, true, true, false, false] _ _
                refine heldTake (i := 8) (d := some 6) (v := ?v8_17) rfl rfl (by kernel_rfl) (by kernel_rfl) (by kernel_rfl) (fun _ _ _ h => h) (by rfl) ?hy8_17 (by assumption) ?r8_17
                case hy8_17 => (intro w hSw; (try dsimp only at hSw); go_simp; try with_reducible rfl)
                try simp only [Act.put, List.setIfInBounds_toArray, List.set_cons_zero, List.set_cons_succ]
                change wpAnyH _ _ _ _ _ 1 #[true, true, true, true, true, true, true, true, true, false] _ _
                refine heldTake (i := 9) (d := some 1) (v := ?v9_18) rfl rfl (by kernel_rfl) (by kernel_rfl) (by kernel_rfl) (fun _ _ _ h => h) (by rfl) ?hy9_18 (by assumption) ?r9_18
                case hy9_18 => (intro w hSw; (try dsimp only at hSw); go_simp; try with_reducible rfl)
                try simp only [Act.put, List.setIfInBounds_toArray, List.set_cons_zero, List.set_cons_succ]
                change wpAnyH _ _ _ _ _ 0 #[true, true, true, true, true, true, true, true, true, true] _ _
                refine wpAnyH_done (by kernel_rfl) ?_ 0
                have HAP := Lib.hid hap
                clear hap hR4 hU4 hT4 hRz
                go_wp2
                go_roundg (2000 - (fl + 1))
                · refine ⟨_ :: pa, pb, po ++ [Value.pointer (some ⟨bq, 0, none⟩)], x :: ca, cb, co ++ [y], HA, Lib.hid ?_, KA, KB2, Lib.hid (KO.out.snoc HCY.out), Lib.hid HAP.out.1, Lib.hid HAP.out.2, Lib.hid (by rw [List.append_assoc, List.singleton_append, ← HM2.out]; exact HE.out), Lib.hid (by have h1 := HLN.out; have h2 := HFL.out; have h3 := HNAE.out; have h4 := HNBE.out; simp only [List.length_append, List.length_cons, List.length_nil]; omega), by rw [List.length_append, HFL.out]; rfl, Lib.hid (sl_form (by rw [List.length_cons, HNAE.out])), Lib.hid (sl_form HNBE.out)⟩
                  · exact HTB.out.2 hcc
                · have h1 := HFL.out; have h2 := HLN.out; have h3 := HL.out; omega
              · have hcc : kb = 1 := by omega
                have hn0 : nb = 0 := by omega
                subst hcc hn0
                have hcc : (1 : Nat) = 1 := rfl
                refine wp_region_held_drew (S := fun w' => Upd [] w w') (by kernel_rfl) HU2.out.drew (fun hHeld => ?_)
                change wpAnyH _ _ _ _ _ 10 #[false, false, false, false, false, false, false, false, false, false] _ _
                refine heldTake (i := 0) (d := some 23) (v := ?v0_19) rfl rfl (by kernel_rfl) (by kernel_rfl) (by kernel_rfl) (fun _ _ _ h => h) (by rfl) ?hy0_19 (by assumption) ?r0_19
                case hy0_19 => (intro w hSw; (try dsimp only at hSw); go_simp; try with_reducible rfl)
                try simp only [Act.put, List.setIfInBounds_toArray, List.set_cons_zero, List.set_cons_succ]
                change wpAnyH _ _ _ _ _ 9 #[true, false, false, false, false, false, false, false, false, false] _ _
                refine heldTake (i := 1) (d := some 24) (v := ?v1_20) rfl rfl (by kernel_rfl) (by kernel_rfl) (by kernel_rfl) (fun _ _ _ h => h) (by rfl) ?hy1_20 (by assumption) ?r1_20
                case hy1_20 => (intro w hSw; (try dsimp only at hSw); go_simp; try with_reducible rfl)
                try simp only [Act.put, List.setIfInBounds_toArray, List.set_cons_zero, List.set_cons_succ]
                change wpAnyH _ _ _ _ _ 8 #[true, true, false, false, false, false, false, false, false, false] _ _
                refine heldTake (i := 2) (d := some 25) (v := ?v2_21) rfl rfl (by kernel_rfl) (by kernel_rfl) (by kernel_rfl) (fun _ _ _ h => h) (by rfl) ?hy2_21 (by assumption) ?r2_21
                case hy2_21 => (intro w hSw; (try dsimp only at hSw); go_simp; try with_reducible rfl)
                try simp only [Act.put, List.setIfInBounds_toArray, List.set_cons_zero, List.set_cons_succ]
                change wpAnyH _ _ _ _ _ 7 #[true, true, true, false, false, false, false, false, false, false] _ _
                refine heldTake (i := 3) (d := some 26) (v := ?v3_22) rfl rfl (by kernel_rfl) (by kernel_rfl) (by kernel_rfl) (fun _ _ _ h => h) (by rfl) ?hy3_22 (by assumption) ?r3_22
                case hy3_22 => (intro w0 hSw; have q0 := (hSw.at (cellLt HDB.out) (by simp) _).trans HDB.out; go_simp; try with_reducible rfl)
                try simp only [Act.put, List.setIfInBounds_toArray, List.set_cons_zero, List.set_cons_succ]
                change wpAnyH _ _ _ _ _ 6 #[true, true, true, true, false, false, false, false, false, false] _ _
                refine heldTake (i := 6) (d := some 29) (v := ?v6_23) rfl rfl (by kernel_rfl) (by kernel_rfl) (by kernel_rfl) (fun _ _ _ h => h) (by rfl) ?hy6_23 (by assumption) ?r6_23
                case hy6_23 => (intro w hSw; (try dsimp only at hSw); go_simp; try with_reducible rfl)
                try simp only [Act.put, List.setIfInBounds_toArray, List.set_cons_zero, List.set_cons_succ]
                change wpAnyH _ _ _ _ _ 5 #[true, true, true, true, false, false, true, false, false, false] _ _
                refine heldTake (i := 7) (d := some 30) (v := ?v7_24) rfl rfl (by kernel_rfl) (by kernel_rfl) (by kernel_rfl) (fun _ _ _ h => h) (by rfl) ?hy7_24 (by assumption) ?r7_24
                case hy7_24 => (intro w hSw; (try dsimp only at hSw); go_simp; try with_reducible rfl)
                try simp only [Act.put, List.setIfInBounds_toArray, List.set_cons_zero, List.set_cons_succ]
                change wpAnyH _ _ _ _ _ 4 #[true, true, true, true, false, false, true, true, false, false] _ _
                refine wpAnyH_ready (rs := [4]) (by kernel_rfl) (by simp) ?_
                refine AllReadyH.cons rfl (fun K hK => ?_) AllReadyH.nil
                go_simp
                skip
                go_wp2
                refine hK.out _ _ (hHeld.alloc _) (fun hHeld => ?_)
                clear hK K
                try simp only [Act.put, List.setIfInBounds_toArray, List.set_cons_zero, List.set_cons_succ]
                change wpAnyH _ _ _ _ _ 3 #[true, true, true, true, true, false, true, true, false, false] _ _
                refine wpAnyH_ready (rs := [5]) (by kernel_rfl) (by simp) ?_
                refine AllReadyH.cons rfl (fun K hK => ?_) AllReadyH.nil
                have hRz := (HO2.out.1.alloc (.cells #[(Value.pointer (some ⟨bq, 0, none⟩))] 166)).drew
                rw [HFL.out] at hRz
                refine step_app _ rfl _ _ 165 rfl 166 i0 _ 1 8 Tryz.underlying165 hi hz0 hz1 hz2 rfl (by omega) (.slice va fl vc) fl _ rfl hRz ⟨wc.heap.size, 0, none⟩ 1 1 [(Value.pointer (some ⟨bq, 0, none⟩))] rfl rfl (World.news_of_block (cs := #[(Value.pointer (some ⟨bq, 0, none⟩))]) (t := 166) (fr := (0, 0)) (heap_alloc_new _ _)) (by simpa using HONEQ.out) (by unfold maxLen; omega) (by omega) ?_
                intro v4 w4 hR4 hU4 hT4
                show K (Act.put _ (some 28) v4) w4
                have hap := appC HO2.out HU2.out (.cells #[(Value.pointer (some ⟨bq, 0, none⟩))] 166) (ys := [(Value.pointer (some ⟨bq, 0, none⟩))]) (by rw [HFL.out]; exact hR4) hU4 hT4
                refine hK.out _ _ hap.2 (fun hHeld => ?_)
                clear hK K
                try simp only [Act.put, List.setIfInBounds_toArray, List.set_cons_zero, List.set_cons_succ]
                change wpAnyH _ _ _ _ _ 2 #[true, true, true, true, true, true, true, true, false, false] _ _
                refine heldTake (i := 8) (d := some 6) (v := ?v8_27) rfl rfl (by kernel_rfl) (by kernel_rfl) (by kernel_rfl) (fun _ _ _ h => h) (by rfl) ?hy8_27 (by assumption) ?r8_27
                case hy8_27 => (intro w hSw; (try dsimp only at hSw); go_simp; try with_reducible rfl)
                try simp only [Act.put, List.setIfInBounds_toArray, List.set_cons_zero, List.set_cons_succ]
                change wpAnyH _ _ _ _ _ 1 #[true, true, true, true, true, true, true, true, true, false] _ _
                refine heldTake (i := 9) (d := some 1) (v := ?v9_28) rfl rfl (by kernel_rfl) (by kernel_rfl) (by kernel_rfl) (fun _ _ _ h => h) (by rfl) ?hy9_28 (by assumption) ?r9_28
                case hy9_28 => (intro w hSw; (try dsimp only at hSw); go_simp; try with_reducible rfl)
                try simp only [Act.put, List.setIfInBounds_toArray, List.set_cons_zero, List.set_cons_succ]
                change wpAnyH _ _ _ _ _ 0 #[true, true, true, true, true, true, true, true, true, true] _ _
                refine wpAnyH_done (by kernel_rfl) ?_ 0
                have HAP := Lib.hid hap
                clear hap hR4 hU4 hT4 hRz
                go_wp2
                go_roundg (2000 - (fl + 1))
                · refine ⟨_ :: pa, pb, po ++ [Value.pointer (some ⟨bq, 0, none⟩)], x :: ca, cb, co ++ [y], HA, Lib.hid ?_, KA, KB2, Lib.hid (KO.out.snoc HCY.out), Lib.hid HAP.out.1, Lib.hid HAP.out.2, Lib.hid (by rw [List.append_assoc, List.singleton_append, ← HM2.out]; exact HE.out), Lib.hid (by have h1 := HLN.out; have h2 := HFL.out; have h3 := HNAE.out; have h4 := HNBE.out; simp only [List.length_append, List.length_cons, List.length_nil]; omega), by rw [List.length_append, HFL.out]; rfl, Lib.hid (sl_form (by rw [List.length_cons, HNAE.out])), Lib.hid (sl_form HNBE.out)⟩
                  · exact (HTB.out.1 hcc).2
                · have h1 := HFL.out; have h2 := HLN.out; have h3 := HL.out; omega
            · have HM2 : Hid (mergeC (x :: ca) (y :: cb) = x :: mergeC ca (y :: cb)) := Lib.hid (by rw [HMC.out, if_pos (by omega)])
              rw [decide_eq_false hlt]
              clear hlt HMC
              go_wp2_with fail
              by_cases hcc : 1 < ka
              · have hkz : ¬ ka = 1 := by omega
                have hk1z : (1 : Int) ≤ ((na : Nat) : Int) + 1 := by omega
                refine wp_region_held_drew (S := fun w' => Upd [] w w') (by kernel_rfl) HU2.out.drew (fun hHeld => ?_)
                change wpAnyH _ _ _ _ _ 10 #[false, false, false, false, false, false, false, false, false, false] _ _
                refine heldTake (i := 0) (d := some 31) (v := ?v0_29) rfl rfl (by kernel_rfl) (by kernel_rfl) (by kernel_rfl) (fun _ _ _ h => h) (by rfl) ?hy0_29 (by assumption) ?r0_29
                case hy0_29 => (intro w hSw; (try dsimp only at hSw); go_simp; try with_reducible rfl)
                try simp only [Act.put, List.setIfInBounds_toArray, List.set_cons_zero, List.set_cons_succ]
                change wpAnyH _ _ _ _ _ 9 #[true, false, false, false, false, false, false, false, false, false] _ _
                refine heldTake (i := 1) (d := some 32) (v := ?v1_30) rfl rfl (by kernel_rfl) (by kernel_rfl) (by kernel_rfl) (fun _ _ _ h => h) (by rfl) ?hy1_30 (by assumption) ?r1_30
                case hy1_30 => (intro w hSw; (try dsimp only at hSw); go_simp; try with_reducible rfl)
                try simp only [Act.put, List.setIfInBounds_toArray, List.set_cons_zero, List.set_cons_succ]
                change wpAnyH _ _ _ _ _ 8 #[true, true, false, false, false, false, false, false, false, false] _ _
                refine heldTake (i := 2) (d := some 33) (v := ?v2_31) rfl rfl (by kernel_rfl) (by kernel_rfl) (by kernel_rfl) (fun _ _ _ h => h) (by rfl) ?hy2_31 (by assumption) ?r2_31
                case hy2_31 => (intro w hSw; (try dsimp only at hSw); go_simp; try with_reducible rfl)
                try simp only [Act.put, List.setIfInBounds_toArray, List.set_cons_zero, List.set_cons_succ]
                change wpAnyH _ _ _ _ _ 7 #[true, true, true, false, false, false, false, false, false, false] _ _
                refine heldTake (i := 3) (d := some 34) (v := ?v3_32) rfl rfl (by kernel_rfl) (by kernel_rfl) (by kernel_rfl) (fun _ _ _ h => h) (by rfl) ?hy3_32 (by assumption) ?r3_32
                case hy3_32 => (intro w0 hSw; have q0 := (hSw.at (cellLt HDA.out) (by simp) _).trans HDA.out; go_simp; try with_reducible rfl)
                try simp only [Act.put, List.setIfInBounds_toArray, List.set_cons_zero, List.set_cons_succ]
                change wpAnyH _ _ _ _ _ 6 #[true, true, true, true, false, false, false, false, false, false] _ _
                refine heldTake (i := 6) (d := some 37) (v := ?v6_33) rfl rfl (by kernel_rfl) (by kernel_rfl) (by kernel_rfl) (fun _ _ _ h => h) (by rfl) ?hy6_33 (by assumption) ?r6_33
                case hy6_33 => (intro w hSw; (try dsimp only at hSw); go_simp; try with_reducible rfl)
                try simp only [Act.put, List.setIfInBounds_toArray, List.set_cons_zero, List.set_cons_succ]
                change wpAnyH _ _ _ _ _ 5 #[true, true, true, true, false, false, true, false, false, false] _ _
                refine heldTake (i := 7) (d := some 38) (v := ?v7_34) rfl rfl (by kernel_rfl) (by kernel_rfl) (by kernel_rfl) (fun _ _ _ h => h) (by rfl) ?hy7_34 (by assumption) ?r7_34
                case hy7_34 => (intro w hSw; (try dsimp only at hSw); go_simp; try with_reducible rfl)
                try simp only [Act.put, List.setIfInBounds_toArray, List.set_cons_zero, List.set_cons_succ]
                change wpAnyH _ _ _ _ _ 4 #[true, true, true, true, false, false, true, true, false, false] _ _
                refine wpAnyH_ready (rs := [4]) (by kernel_rfl) (by simp) ?_
                refine AllReadyH.cons rfl (fun K hK => ?_) AllReadyH.nil
                go_simp
                skip
                go_wp2
                refine hK.out _ _ (hHeld.alloc _) (fun hHeld => ?_)
                clear hK K
                try simp only [Act.put, List.setIfInBounds_toArray, List.set_cons_zero, List.set_cons_succ]
                change wpAnyH _ _ _ _ _ 3 #[true, true, true, true, true, false, true, true, false, false] _ _
                refine wpAnyH_ready (rs := [5]) (by kernel_rfl) (by simp) ?_
                refine AllReadyH.cons rfl (fun K hK => ?_) AllReadyH.nil
                have hRz := (HO2.out.1.alloc (.cells #[(Value.pointer (some ⟨bp, 0, none⟩))] 166)).drew
                rw [HFL.out] at hRz
                refine step_app _ rfl _ _ 165 rfl 166 i0 _ 1 8 Tryz.underlying165 hi hz0 hz1 hz2 rfl (by omega) (.slice va fl vc) fl _ rfl hRz ⟨wc.heap.size, 0, none⟩ 1 1 [(Value.pointer (some ⟨bp, 0, none⟩))] rfl rfl (World.news_of_block (cs := #[(Value.pointer (some ⟨bp, 0, none⟩))]) (t := 166) (fr := (0, 0)) (heap_alloc_new _ _)) (by simpa using HONEP.out) (by unfold maxLen; omega) (by omega) ?_
                intro v4 w4 hR4 hU4 hT4
                show K (Act.put _ (some 36) v4) w4
                have hap := appC HO2.out HU2.out (.cells #[(Value.pointer (some ⟨bp, 0, none⟩))] 166) (ys := [(Value.pointer (some ⟨bp, 0, none⟩))]) (by rw [HFL.out]; exact hR4) hU4 hT4
                refine hK.out _ _ hap.2 (fun hHeld => ?_)
                clear hK K
                try simp only [Act.put, List.setIfInBounds_toArray, List.set_cons_zero, List.set_cons_succ]
                change wpAnyH _ _ _ _ _ 2 #[true, true, true, true, true, true, true, true, false, false] _ _
                refine heldTake (i := 8) (d := some 6) (v := ?v8_37) rfl rfl (by kernel_rfl) (by kernel_rfl) (by kernel_rfl) (fun _ _ _ h => h) (by rfl) ?hy8_37 (by assumption) ?r8_37
                case hy8_37 => (intro w hSw; (try dsimp only at hSw); go_simp; try with_reducible rfl)
                try simp only [Act.put, List.setIfInBounds_toArray, List.set_cons_zero, List.set_cons_succ]
                change wpAnyH _ _ _ _ _ 1 #[true, true, true, true, true, true, true, true, true, false] _ _
                refine heldTake (i := 9) (d := some 0) (v := ?v9_38) rfl rfl (by kernel_rfl) (by kernel_rfl) (by kernel_rfl) (fun _ _ _ h => h) (by rfl) ?hy9_38 (by assumption) ?r9_38
                case hy9_38 => (intro w hSw; (try dsimp only at hSw); go_simp; try with_reducible rfl)
                try simp only [Act.put, List.setIfInBounds_toArray, List.set_cons_zero, List.set_cons_succ]
                change wpAnyH _ _ _ _ _ 0 #[true, true, true, true, true, true, true, true, true, true] _ _
                refine wpAnyH_done (by kernel_rfl) ?_ 0
                have HAP := Lib.hid hap
                clear hap hR4 hU4 hT4 hRz
                go_wp2
                go_roundg (2000 - (fl + 1))
                · refine ⟨pa, _ :: pb, po ++ [Value.pointer (some ⟨bp, 0, none⟩)], ca, y :: cb, co ++ [x], Lib.hid ?_, HB, KA2, KB, Lib.hid (KO.out.snoc HCX.out), Lib.hid HAP.out.1, Lib.hid HAP.out.2, Lib.hid (by rw [List.append_assoc, List.singleton_append, ← HM2.out]; exact HE.out), Lib.hid (by have h1 := HLN.out; have h2 := HFL.out; have h3 := HNAE.out; have h4 := HNBE.out; simp only [List.length_append, List.length_cons, List.length_nil]; omega), by rw [List.length_append, HFL.out]; rfl, Lib.hid (sl_form HNAE.out), Lib.hid (sl_form (by rw [List.length_cons, HNBE.out]))⟩
                  · exact HTA.out.2 hcc
                · have h1 := HFL.out; have h2 := HLN.out; have h3 := HL.out; omega
              · have hcc : ka = 1 := by omega
                have hn0 : na = 0 := by omega
                subst hcc hn0
                have hcc : (1 : Nat) = 1 := rfl
                refine wp_region_held_drew (S := fun w' => Upd [] w w') (by kernel_rfl) HU2.out.drew (fun hHeld => ?_)
                change wpAnyH _ _ _ _ _ 10 #[false, false, false, false, false, false, false, false, false, false] _ _
                refine heldTake (i := 0) (d := some 31) (v := ?v0_39) rfl rfl (by kernel_rfl) (by kernel_rfl) (by kernel_rfl) (fun _ _ _ h => h) (by rfl) ?hy0_39 (by assumption) ?r0_39
                case hy0_39 => (intro w hSw; (try dsimp only at hSw); go_simp; try with_reducible rfl)
                try simp only [Act.put, List.setIfInBounds_toArray, List.set_cons_zero, List.set_cons_succ]
                change wpAnyH _ _ _ _ _ 9 #[true, false, false, false, false, false, false, false, false, false] _ _
                refine heldTake (i := 1) (d := some 32) (v := ?v1_40) rfl rfl (by kernel_rfl) (by kernel_rfl) (by kernel_rfl) (fun _ _ _ h => h) (by rfl) ?hy1_40 (by assumption) ?r1_40
                case hy1_40 => (intro w hSw; (try dsimp only at hSw); go_simp; try with_reducible rfl)
                try simp only [Act.put, List.setIfInBounds_toArray, List.set_cons_zero, List.set_cons_succ]
                change wpAnyH _ _ _ _ _ 8 #[true, true, false, false, false, false, false, false, false, false] _ _
                refine heldTake (i := 2) (d := some 33) (v := ?v2_41) rfl rfl (by kernel_rfl) (by kernel_rfl) (by kernel_rfl) (fun _ _ _ h => h) (by rfl) ?hy2_41 (by assumption) ?r2_41
                case hy2_41 => (intro w hSw; (try dsimp only at hSw); go_simp; try with_reducible rfl)
                try simp only [Act.put, List.setIfInBounds_toArray, List.set_cons_zero, List.set_cons_succ]
                change wpAnyH _ _ _ _ _ 7 #[true, true, true, false, false, false, false, false, false, false] _ _
                refine heldTake (i := 3) (d := some 34) (v := ?v3_42) rfl rfl (by kernel_rfl) (by kernel_rfl) (by kernel_rfl) (fun _ _ _ h => h) (by rfl) ?hy3_42 (by assumption) ?r3_42
                case hy3_42 => (intro w0 hSw; have q0 := (hSw.at (cellLt HDA.out) (by simp) _).trans HDA.out; go_simp; try with_reducible rfl)
                try simp only [Act.put, List.setIfInBounds_toArray, List.set_cons_zero, List.set_cons_succ]
                change wpAnyH _ _ _ _ _ 6 #[true, true, true, true, false, false, false, false, false, false] _ _
                refine heldTake (i := 6) (d := some 37) (v := ?v6_43) rfl rfl (by kernel_rfl) (by kernel_rfl) (by kernel_rfl) (fun _ _ _ h => h) (by rfl) ?hy6_43 (by assumption) ?r6_43
                case hy6_43 => (intro w hSw; (try dsimp only at hSw); go_simp; try with_reducible rfl)
                try simp only [Act.put, List.setIfInBounds_toArray, List.set_cons_zero, List.set_cons_succ]
                change wpAnyH _ _ _ _ _ 5 #[true, true, true, true, false, false, true, false, false, false] _ _
                refine heldTake (i := 7) (d := some 38) (v := ?v7_44) rfl rfl (by kernel_rfl) (by kernel_rfl) (by kernel_rfl) (fun _ _ _ h => h) (by rfl) ?hy7_44 (by assumption) ?r7_44
                case hy7_44 => (intro w hSw; (try dsimp only at hSw); go_simp; try with_reducible rfl)
                try simp only [Act.put, List.setIfInBounds_toArray, List.set_cons_zero, List.set_cons_succ]
                change wpAnyH _ _ _ _ _ 4 #[true, true, true, true, false, false, true, true, false, false] _ _
                refine wpAnyH_ready (rs := [4]) (by kernel_rfl) (by simp) ?_
                refine AllReadyH.cons rfl (fun K hK => ?_) AllReadyH.nil
                go_simp
                skip
                go_wp2
                refine hK.out _ _ (hHeld.alloc _) (fun hHeld => ?_)
                clear hK K
                try simp only [Act.put, List.setIfInBounds_toArray, List.set_cons_zero, List.set_cons_succ]
                change wpAnyH _ _ _ _ _ 3 #[true, true, true, true, true, false, true, true, false, false] _ _
                refine wpAnyH_ready (rs := [5]) (by kernel_rfl) (by simp) ?_
                refine AllReadyH.cons rfl (fun K hK => ?_) AllReadyH.nil
                have hRz := (HO2.out.1.alloc (.cells #[(Value.pointer (some ⟨bp, 0, none⟩))] 166)).drew
                rw [HFL.out] at hRz
                refine step_app _ rfl _ _ 165 rfl 166 i0 _ 1 8 Tryz.underlying165 hi hz0 hz1 hz2 rfl (by omega) (.slice va fl vc) fl _ rfl hRz ⟨wc.heap.size, 0, none⟩ 1 1 [(Value.pointer (some ⟨bp, 0, none⟩))] rfl rfl (World.news_of_block (cs := #[(Value.pointer (some ⟨bp, 0, none⟩))]) (t := 166) (fr := (0, 0)) (heap_alloc_new _ _)) (by simpa using HONEP.out) (by unfold maxLen; omega) (by omega) ?_
                intro v4 w4 hR4 hU4 hT4
                show K (Act.put _ (some 36) v4) w4
                have hap := appC HO2.out HU2.out (.cells #[(Value.pointer (some ⟨bp, 0, none⟩))] 166) (ys := [(Value.pointer (some ⟨bp, 0, none⟩))]) (by rw [HFL.out]; exact hR4) hU4 hT4
                refine hK.out _ _ hap.2 (fun hHeld => ?_)
                clear hK K
                try simp only [Act.put, List.setIfInBounds_toArray, List.set_cons_zero, List.set_cons_succ]
                change wpAnyH _ _ _ _ _ 2 #[true, true, true, true, true, true, true, true, false, false] _ _
                refine heldTake (i := 8) (d := some 6) (v := ?v8_47) rfl rfl (by kernel_rfl) (by kernel_rfl) (by kernel_rfl) (fun _ _ _ h => h) (by rfl) ?hy8_47 (by assumption) ?r8_47
                case hy8_47 => (intro w hSw; (try dsimp only at hSw); go_simp; try with_reducible rfl)
                try simp only [Act.put, List.setIfInBounds_toArray, List.set_cons_zero, List.set_cons_succ]
                change wpAnyH _ _ _ _ _ 1 #[true, true, true, true, true, true, true, true, true, false] _ _
                refine heldTake (i := 9) (d := some 0) (v := ?v9_48) rfl rfl (by kernel_rfl) (by kernel_rfl) (by kernel_rfl) (fun _ _ _ h => h) (by rfl) ?hy9_48 (by assumption) ?r9_48
                case hy9_48 => (intro w hSw; (try dsimp only at hSw); go_simp; try with_reducible rfl)
                try simp only [Act.put, List.setIfInBounds_toArray, List.set_cons_zero, List.set_cons_succ]
                change wpAnyH _ _ _ _ _ 0 #[true, true, true, true, true, true, true, true, true, true] _ _
                refine wpAnyH_done (by kernel_rfl) ?_ 0
                have HAP := Lib.hid hap
                clear hap hR4 hU4 hT4 hRz
                go_wp2
                go_roundg (2000 - (fl + 1))
                · refine ⟨pa, _ :: pb, po ++ [Value.pointer (some ⟨bp, 0, none⟩)], ca, y :: cb, co ++ [x], Lib.hid ?_, HB, KA2, KB, Lib.hid (KO.out.snoc HCX.out), Lib.hid HAP.out.1, Lib.hid HAP.out.2, Lib.hid (by rw [List.append_assoc, List.singleton_append, ← HM2.out]; exact HE.out), Lib.hid (by have h1 := HLN.out; have h2 := HFL.out; have h3 := HNAE.out; have h4 := HNBE.out; simp only [List.length_append, List.length_cons, List.length_nil]; omega), by rw [List.length_append, HFL.out]; rfl, Lib.hid (sl_form HNAE.out), Lib.hid (sl_form (by rw [List.length_cons, HNBE.out]))⟩
                  · exact (HTA.out.1 hcc).2
                · have h1 := HFL.out; have h2 := HLN.out; have h3 := HL.out; omega
end Go.Proofs.YtdehkaknbmbieaaGreat

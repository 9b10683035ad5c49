/- Package script: fill: its walk. -/
import Derived.BigRegion
import Derived.Test.YtigjingielnaoaaDoorSLn
import Derived.Test.YtigjingielnaoaaDoorQBA
namespace Go.Proofs.YtigjingielnaoaaDoor
set_option linter.unusedVariables false
set_option linter.unusedSimpArgs false
set_option linter.unusedSectionVars false
open Go.RowKit
attribute [local go_sem] Oper.semAt_some
set_option linter.unusedVariables false
set_option linter.unusedSimpArgs false

theorem srname_all (n : Int) (w : World) : Calls Tryd.prog 76 #[.int .i64 n] w fun e w' => e = .returned (.string (strOf (polN n))) ∧ w' = w := by
  by_cases h : 0 ≤ n ∧ n ≤ 3
  · exact srname_any n w h
  · have HP := Lib.hid (fun w => spolicy_any n w)
    have hd : decide (0 ≤ n ∧ n ≤ 3) = false := decide_eq_false h
    have HV : Hid (polN n = []) := Lib.hid (if_neg h)
    rw [hd] at HP
    clear hd h
    go_enter Tryd.func76, Tryd.ntmps76
    go_wp2_with fail
    refine (HP.out _).mono ?_
    rintro e w1 ⟨rfl, hw1⟩
    subst hw1
    go_wp2
    go_ret
    exact ⟨by rw [HV.out]; rfl, rfl⟩
set_option maxRecDepth 100000 in
theorem fill1_any (n : Int) (S : ByteArray) (lb : Nat) (w : World) (hB : Blk w lb [.string S] 9) : Calls Tryd.prog 87 #[.int .i64 n, .pointer (some ⟨lb, 0, none⟩)] w fun e w' => e = .returned (.bool (decide (polN n = bytesOf S))) ∧ Upd [] w w' := by
  have HN := Lib.hid (fun z => srname_all n z)
  have heq := strOf_eqS (polN n) S (polN_len n).2
  generalize decide (polN n = bytesOf S) = B at *
  generalize strOf (polN n) = RR at *
  have HB := Lib.hid hB
  clear hB
  go_enter Tryd.func87, Tryd.ntmps87
  go_upto_region 1 with fail
  refine wp_region_held_drew (S := fun w' => Blk w' lb [.string S] 9 ∧ Upd [] w w') (by kernel_rfl) ⟨HB.out.upd ((Upd.refl [] _).drew) (by simp), (Upd.refl [] _).drew⟩ (fun hHeld => ?_)
  change wpAnyH _ _ _ _ _ 5 #[false, false, false, false, false] _ _
  refine heldTake (i := 0) (d := some 4) (v := ?v0_1) rfl rfl (by kernel_rfl) (by kernel_rfl) (by kernel_rfl) (fun _ _ _ h => h) (by rfl) ?hy0_1 (by assumption) ?r0_1
  case hy0_1 => (intro w hSw; (try dsimp only at hSw); go_simp; try with_reducible rfl)
  try simp only [Act.put, List.setIfInBounds_toArray, List.set_cons_zero, List.set_cons_succ]
  change wpAnyH _ _ _ _ _ 4 #[true, false, false, false, false] _ _
  refine heldTake (i := 2) (d := some 6) (v := ?v2_2) rfl rfl (by kernel_rfl) (by kernel_rfl) (by kernel_rfl) (fun _ _ _ h => h) (by rfl) ?hy2_2 (by assumption) ?r2_2
  case hy2_2 => (intro w5 hSw; have q0 := hSw.1.cell 0 rfl; go_simp; try with_reducible rfl)
  try simp only [Act.put, List.setIfInBounds_toArray, List.set_cons_zero, List.set_cons_succ]
  change wpAnyH _ _ _ _ _ 3 #[true, false, true, false, false] _ _
  refine wpAnyH_ready (rs := [1]) (by kernel_rfl) (by simp) ?_
  refine AllReadyH.cons rfl (fun K hK => ?_) AllReadyH.nil
  go_simp
  refine (HN.out _).mono ?_
  rintro e z9 ⟨rfl, hz9⟩
  subst hz9
  go_wp2
  refine hK.out _ _ hHeld (fun hHeld => ?_)
  clear hK K
  try simp only [Act.put, List.setIfInBounds_toArray, List.set_cons_zero, List.set_cons_succ]
  change wpAnyH _ _ _ _ _ 2 #[true, true, true, false, false] _ _
  refine heldTake (i := 3) (d := some 7) (v := ?v3_4) rfl rfl (by kernel_rfl) (by kernel_rfl) (by kernel_rfl) (fun _ _ _ h => h) (by rfl) ?hy3_4 (by assumption) ?r3_4
  case hy3_4 => (intro w hSw; (try dsimp only at hSw); go_simp; try with_reducible rfl)
  try simp only [Act.put, List.setIfInBounds_toArray, List.set_cons_zero, List.set_cons_succ]
  change wpAnyH _ _ _ _ _ 1 #[true, true, true, true, false] _ _
  refine heldTake (i := 4) (d := some 3) (v := ?v4_5) rfl rfl (by kernel_rfl) (by kernel_rfl) (by kernel_rfl) (fun _ _ _ h => h) (by rfl) ?hy4_5 (by assumption) ?r4_5
  case hy4_5 => (intro w hSw; (try dsimp only at hSw); go_simp; try with_reducible rfl)
  try simp only [Act.put, List.setIfInBounds_toArray, List.set_cons_zero, List.set_cons_succ]
  change wpAnyH _ _ _ _ _ 0 #[true, true, true, true, true] _ _
  refine wpAnyH_done (by kernel_rfl) ?_ 0
  go_wp2_with fail
  go_ret
  exact ⟨by rw [← heq]; rfl, hHeld.2⟩
set_option maxRecDepth 100000 in
set_option maxHeartbeats 3200000 in
theorem indexP_any (l : List Int) (v : Value) (w : World) (pr : Int → Bool) (lb : Nat) (hv : IntsAt w v l) (hl : l.length ≤ 9223372036854775807) (HF : ∀ n w1, Upd [] w w1 → Calls Tryd.prog 87 #[.int .i64 n, .pointer (some ⟨lb, 0, none⟩)] w1 fun e w' => e = .returned (.bool (pr n)) ∧ Upd [] w1 w') :
    Calls Tryd.prog 86 #[v, .func (.func 87) #[] #[.pointer (some ⟨lb, 0, none⟩)]] w fun e w' => e = .returned (.int .i64 (idxZ pr l)) ∧ Upd [] w w' := by
  obtain ⟨a1, cap1, rfl, hcap1, hc1⟩ := hv
  have HC1 := Lib.hid hc1
  have HFF := Lib.hid HF
  have HY := Lib.hid (@idxZ_yes pr l)
  have HNO := Lib.hid (@idxZ_no pr l)
  obtain ⟨n, hn⟩ : ∃ n, l.length = n := ⟨_, rfl⟩
  have HN1 := Lib.hid hn
  rw [hn] at hcap1 hl ⊢
  clear hc1 hn HF
  go_enter Tryd.func86, Tryd.ntmps86
  go_wp2
  go_loopg [8] n (fun gg s8 wr => ∃ i, i ≤ n ∧ gg = n - i ∧ s8 = .int .i64 (i : Nat) ∧ Hid (∀ j, (hj : j < l.length) → j < i → pr l[j] = false) ∧ Hid (Upd [] w wr))
  case atStart => exact ⟨0, Nat.zero_le _, rfl, rfl, Lib.hid (fun j _ h => by omega), Lib.hid (Upd.refl _ _)⟩
  case round =>
    obtain ⟨i, hin, rfl, rfl, HT, HU⟩ := hrel
    by_cases hc : i < n
    · have hcz : (i : Int) < (n : Int) := by omega
      have hi1 : i < l.length := by rw [HN1.out]; exact hc
      obtain ⟨b1, o1, rfl, d1⟩ := HC1.out i hi1
      have c1 := HU.out.keepS d1
      have HX := Lib.hid (fun z (hz : Upd [] wr z) => HFF.out l[i] z (HU.out.then hz))
      have HYI := Lib.hid (fun h => HY.out i hi1 h HT.out)
      have HTI : Hid (pr l[i] = false → ∀ j, (hj : j < l.length) → j < i + 1 → pr l[j] = false) := Lib.hid (fun h j hj hlt => by
        rcases Nat.lt_or_ge j i with hji | hji
        · exact HT.out j hj hji
        · have : j = i := by omega
          subst this; exact h)
      have hw1 : IntKind.i64.wrap ((i : Int) + 1) = ((i + 1 : Nat) : Int) := by rw [IntWalk.i64_in _ (by omega)]; rfl
      generalize l[i] = x at *
      obtain ⟨B, hB⟩ : ∃ B, pr x = B := ⟨_, rfl⟩
      rw [hB] at HX HYI HTI
      clear hB d1
      cases B with
      | true =>
        have HV := Lib.hid (HYI.out rfl)
        clear HYI HTI
        go_wp2_with fail
        refine (HX.out _ (Upd.refl _ _)).mono ?_
        rintro e w2 ⟨rfl, hu2⟩
        go_wp2
        go_ret
        exact ⟨by rw [HV.out]; rfl, HU.out.then hu2⟩
      | false =>
        have HT2 := Lib.hid (HTI.out rfl)
        clear HYI HTI
        go_wp2_with fail
        refine (HX.out _ (Upd.refl _ _)).mono ?_
        rintro e w2 ⟨rfl, hu2⟩
        have HU2 := Lib.hid (HU.out.then hu2)
        clear hu2
        go_wp2
        go_roundg (n - (i + 1))
        · exact ⟨i + 1, by omega, rfl, by first | rfl | go_num, HT2, HU2⟩
        · omega
    · have hcz : ¬ (i : Int) < (n : Int) := by omega
      obtain rfl : i = n := by omega
      have HV := Lib.hid (HNO.out (fun j hj => HT.out j hj (by rw [← HN1.out]; exact hj)))
      go_wp2
      go_ret
      exact ⟨by rw [HV.out]; rfl, HU.out⟩
theorem idxZ_pol (l : List Nat) : idxZ (fun n => decide (polN n = l)) [0, 1, 2, 3] = polI l := by
  unfold idxZ polI
  by_cases h0 : polN 0 = l
  · simp [List.findIdx_cons, h0]
  · by_cases h1 : polN 1 = l
    · simp [List.findIdx_cons, h0, h1]
    · by_cases h2 : polN 2 = l
      · simp [List.findIdx_cons, h0, h1, h2]
      · by_cases h3 : polN 3 = l
        · simp [List.findIdx_cons, h0, h1, h2, h3]
        · simp [List.findIdx_cons, h0, h1, h2, h3]
/-- Numbers, as cells. -/
def zsV (l : List Int) : List Value := l.map fun n => .int .i64 n
theorem Row.intsAt {w : World} {v : Value} {l : List Int} (h : Row w 3 1 v l.length (zsV l)) : IntsAt w v l := by
  obtain ⟨a, cap, rfl⟩ := h.form
  rcases Nat.eq_zero_or_pos l.length with h0 | h0
  · refine ⟨a, cap, rfl, by omega, fun i hi => by omega⟩
  · obtain ⟨g, cap', hv, _, hc⟩ := h.form' h0
    simp only [Value.slice.injEq] at hv
    obtain ⟨rfl, _, rfl⟩ := hv
    exact ⟨_, _, rfl, hc, fun i hi => ⟨g, 0, rfl, by rw [Nat.zero_add]; exact h.cell i (by unfold zsV; rw [List.getElem?_map, List.getElem?_eq_getElem hi]; rfl)⟩⟩
theorem partsC_bd (S : ByteArray) : (partsC 44 S).length ≤ S.size + 1 := by
  unfold partsC
  rw [List.length_map, splitC_len, ← length_bytesOf]
  exact Nat.succ_le_succ List.countP_le_length
def evC (o : Int) (p q : ByteArray) (k m : Int) (t : Nat) (D : ByteArray) (n : Int) (v : Value) : List Value := [.int .i64 o, .string p, .string q, .int .i64 k, .int .i64 m, .int .u32 (t : Nat), .string D, .int .i64 n, v]
/-- Between two rounds. -/
def FlI (wz w0 : World) (eb pb : Nat) (o : Int) (p q : ByteArray) (k m : Int) (t : Nat) (D : ByteArray) (n : Int) (l : List Int) (W : World) : Prop :=
  Blk W pb [.pointer (some ⟨eb, 0, none⟩)] 80 ∧ (∃ v, Blk W eb (evC o p q k m t D n v) 44 ∧ Row W 3 1 v l.length (zsV l) ∧ ∀ b, v.ownBlock = some b → wz.heap.size ≤ b) ∧ Upd [eb] w0 W
theorem FlI.own {α : Type} (f : α → List Int) {wz w0 : World} {eb pb : Nat} {o : Int} {p q : ByteArray} {k m : Int} {t : Nat} {D : ByteArray} {n : Int} {B : Nat} (hB : w0.heap.size ≤ B) : OwnFrom B (fun pre W => FlI wz w0 eb pb o p q k m t D n (f pre) W) := fun pre X C row hs hgr hr => by
  obtain ⟨h1, ⟨v, h2, h3, h4⟩, h5⟩ := hs
  exact ⟨blk_ownF B pb (fun (_ : Unit) => _) _ () X C row h1 hgr hr, ⟨v, blk_ownF B eb (fun (_ : Unit) => _) _ () X C row h2 hgr hr, h3.ownF hgr hr, h4⟩, upd_ownF B [eb] w0 hB () X C row h5 hgr hr⟩
theorem FlI.w2 {wz w0 : World} {eb pb bs : Nat} {o : Int} {p q : ByteArray} {k m : Int} {t : Nat} {D : ByteArray} {n : Int} {l : List Int} {A C : World} (h1 : pb ≠ bs) (h2 : eb ≠ bs) (h3 : w0.heap.size ≤ bs) (h4 : bs < wz.heap.size) (hs : FlI wz w0 eb pb o p q k m t D n l A) (hAC : Own2 [bs] A C) : FlI wz w0 eb pb o p q k m t D n l C := by
  obtain ⟨k1, ⟨v, k2, k3, k4⟩, k5⟩ := hs
  exact ⟨k1.upd hAC.1 (by simpa using h1), ⟨v, k2.upd hAC.1 (by simpa using h2), k3.upd hAC.1 (fun b hb hm => by have := k4 b hb; simp at hm; omega), k4⟩, k5.trans hAC.1 (fun b hb => by simp at hb; subst hb; exact .inr h3)⟩
/-- Behind a round. -/
theorem fl_end {wz w0 W z1 wq : World} {eb pb bs : Nat} {o : Int} {p q : ByteArray} {k m : Int} {t : Nat} {D : ByteArray} {n : Int} {L : List Int} {x : Int} {v v4 : Value} {ob : Obj} {N : Nat}
    (g0 : w0.heap.size ≤ wz.heap.size) (g1 : eb < pb) (g2 : pb < bs) (g3 : bs + 2 < wz.heap.size) (g6 : wz.heap.size ≤ W.heap.size)
    (h1 : Blk W pb [.pointer (some ⟨eb, 0, none⟩)] 80) (h2 : Blk W eb (evC o p q k m t D n v) 44) (h3 : Row W 3 1 v N (zsV L)) (hn : L.length = N) (h4 : ∀ b, v.ownBlock = some b → wz.heap.size ≤ b) (h5 : Upd [eb] w0 W)
    (hz1 : Upd [] W.drew z1) (hR4 : Row wq 3 1 v4 (N + 1) (zsV L ++ [.int .i64 x])) (hU4 : Upd v.ownBlock.toList (z1.alloc ob) wq) (hT4 : Later (z1.alloc ob) v v4) :
    KeepsFrom wz.heap.size W (wq.setCell ⟨eb, 8, none⟩ v4) ∧ Keep [bs, bs + 1, bs + 2] W (wq.setCell ⟨eb, 8, none⟩ v4) ∧ FlI wz w0 eb pb o p q k m t D n (L ++ [x]) (wq.setCell ⟨eb, 8, none⟩ v4) := by
  subst hn
  have hz2 : Upd [] W (z1.alloc ob) := (((Upd.refl [] W).drew).then hz1).alloc ob
  have hown4 : ∀ b, v4.ownBlock = some b → wz.heap.size ≤ b := fun b hb => by
    rcases hT4 with e | ⟨g, e, hg⟩
    · exact h4 b (by rw [← e]; exact hb)
    · rw [hb] at e; cases e; have := hz2.size; omega
  have hUF : Upd (eb :: v.ownBlock.toList) W (wq.setCell ⟨eb, 8, none⟩ v4) :=
    (((hz2.mono (fun b hb => by cases hb)).trans hU4 (fun b hb => .inl (by simp at hb ⊢; exact .inr hb)))).setCell (.inl (by simp)) _
  have hnb : ∀ b, b < wz.heap.size → b ∉ v.ownBlock.toList := fun b hb hm => by
    have := h4 b (by simpa using hm); omega
  have hb1 : Blk wq pb [.pointer (some ⟨eb, 0, none⟩)] 80 := (h1.upd hz2 (by simp)).upd hU4 (hnb pb (by omega))
  have hb2 : Blk wq eb (evC o p q k m t D n v) 44 := (h2.upd hz2 (by simp)).upd hU4 (hnb eb (by omega))
  refine ⟨(hUF.others (fun b hb => ?_)).from _, Keep.of_upd hUF (fun b hb => ?_), ?_, ⟨v4, ?_, ?_, hown4⟩, ?_⟩
  · rcases List.mem_cons.1 hb with rfl | hb
    · exact h2.cellsOnly
    · exact h3.cellsOnly b (by simpa using hb)
  · have hk2 : b = bs ∨ b = bs + 1 ∨ b = bs + 2 := by simpa using hb
    refine ⟨by omega, fun hm => ?_⟩
    rcases List.mem_cons.1 hm with e | hm
    · omega
    · exact hnb b (by omega) hm
  · exact hb1.setFar (a := ⟨eb, 8, none⟩) _ (by simp; omega)
  · exact hb2.set 8 v4
  · rw [List.length_append, List.length_singleton]
    have e : zsV (L ++ [x]) = zsV L ++ [.int .i64 x] := by unfold zsV; rw [List.map_append]; rfl
    rw [e]
    exact hR4.setFar (a := ⟨eb, 8, none⟩) _ (fun e => by have := hown4 _ e; simp at this; omega)
  · exact h5.trans hUF (fun b hb => by
      rcases List.mem_cons.1 hb with rfl | hb
      · exact .inl (by simp)
      · have := h4 b (by simpa using hb)
        exact .inr (by omega))
theorem wp_calmF {P : Program} {c : Code} {K : Act → World → Prop} {Q : Exit → Act → World → Prop} {a : Act} {w : World} (h : c.wp P (Exit.then K fun _ _ _ => False) a w) : c.wp P (Exit.then K Q) a w :=
  Code.wp_mono (fun e a w h => by cases e <;> first | exact h | exact h.elim) h
theorem infoIntF : (Tryd.prog.info? 3).map (fun i => (i.zero, i.size, i.bytes)) = some (some (.int .i64 0), 1, 8) := by kernel_rfl
theorem headD_at (l : List (List Nat)) (h : 0 < l.length) : l.headD [] = l[0] := by
  cases l with
  | nil => simp at h
  | cons a r => rfl
theorem lastD_at (l : List (List Nat)) (h : 0 < l.length) : l.getLastD [] = l[l.length - 1] := by
  rw [List.getLastD_eq_getLast?, List.getLast?_eq_getElem?, List.getElem?_eq_getElem (by omega)]; rfl
set_option maxRecDepth 100000 in
set_option maxHeartbeats 12800000 in
theorem sfill_any (eb : Nat) (o : Int) (ws : List (List Nat)) (v : Value) (w : World) (hB : Blk w eb [.int .i64 o, .string ⟨#[]⟩, .string ⟨#[]⟩, .int .i64 0, .int .i64 0, .int .u32 0, .string ⟨#[]⟩, .int .i64 0, .slice none 0 0] 44) (hT : TextsAt w v ws) (hs : ∀ p ∈ ws, p.length ≤ 100000 ∧ ∀ x ∈ p, x < 256) (hn : ws.length ≤ 1000000) :
    Calls Tryd.prog 50 #[.pointer (some ⟨eb, 0, none⟩), v] w fun r w' => r = .returned (.tuple #[]) ∧ ∃ vl, Blk w' eb ((fillE o ws).at vl).cells 44 ∧ (Row w' 3 1 vl (fillE o ws).l.length (zsV (fillE o ws).l) ∧ ∀ k, vl.ownBlock = some k → w.heap.size ≤ k) ∧ Upd [eb] w w' := by
  obtain ⟨i0, hi, hz0, hz1, hz2⟩ := info_parts infoIntF
  obtain ⟨ad, cap, rfl, hcap, hc⟩ := hT
  have heb : eb < w.heap.size := hB.lt
  have HB0 := Lib.hid (hB.alloc (.cells #[.pointer (some ⟨eb, 0, none⟩)] 80))
  have HP0 := Lib.hid (Blk.new w [.pointer (some ⟨eb, 0, none⟩)] 80)
  have HU0 := Lib.hid ((Upd.refl [eb] w).alloc (.cells #[.pointer (some ⟨eb, 0, none⟩)] 80))
  refine (callsIn_wide (n := 9)).1 ?_
  refine callsIn_of_wp_marks Tryd.func50 rfl trivial ?_ rfl
  simp only [Tryd.ntmps50, List.size_toArray, List.length_cons, List.length_nil, Nat.reduceAdd, Nat.reduceSub, Array.replicate_succ, Array.replicate_zero, List.push_toArray, List.append_toArray, List.nil_append, List.cons_append]
  refine wpIn_wide.2 ?_
  let QQ : Exit → Act → World → Prop := bodyPost Tryd.prog Tryd.f50 (fun _ _ => True)
  by_cases h0 : ws.length = 0
  · have hw0 : ws = [] := List.eq_nil_of_length_eq_zero h0
    subst hw0
    have HV : Hid (fillE o [] = ⟨o, ⟨#[]⟩, ⟨#[]⟩, 0, 0, 0, ⟨#[]⟩, 0, .slice none 0 0, []⟩) := Lib.hid rfl
    have HF : Hid (∃ vl, Blk (w.alloc (.cells #[.pointer (some ⟨eb, 0, none⟩)] 80)) eb ((fillE o []).at vl).cells 44 ∧ (Row (w.alloc (.cells #[.pointer (some ⟨eb, 0, none⟩)] 80)) 3 1 vl (fillE o []).l.length (zsV (fillE o []).l) ∧ ∀ k, vl.ownBlock = some k → w.heap.size ≤ k) ∧ Upd [eb] w (w.alloc (.cells #[.pointer (some ⟨eb, 0, none⟩)] 80))) := Lib.hid (by
      rw [HV.out]
      exact ⟨.slice none 0 0, HB0.out, ⟨Row.nil _ _ _, by simp [Value.ownBlock]⟩, HU0.out⟩)
    clear hc hB hs
    go_wp2
    exact ⟨_, results_none rfl _ _ _, rfl, HF.out⟩
  · have hd1 := headD_at ws (by omega)
    have hd2 := lastD_at ws (by omega)
    obtain ⟨g, go, rfl, e0⟩ := hc 0 (by omega)
    obtain ⟨g', go', hgg, eL⟩ := hc (ws.length - 1) (by omega)
    cases hgg
    have hPb := hs ws[0] (List.getElem_mem _)
    have hLb := hs ws[ws.length - 1] (List.getElem_mem _)
    have HWS : Hid (ws ≠ []) := Lib.hid (fun h => h0 (by rw [h]; rfl))
    rw [← hd1] at e0 hPb
    rw [← hd2] at eL hLb
    have HFE : Hid (fillE o ws = ⟨o, strOf (ws.headD []), strOf (ws.getLastD []), (nodN (ws.getLastD [])).k, (nodN (ws.getLastD [])).m, (nodN (ws.getLastD [])).t, (nodN (ws.getLastD [])).D,
      if o = 5 then polI (ws.getLastD []) else numZ (ws.getLastD []), .slice none 0 0, if ws.getLastD [] = [45] then [] else (splitC 44 (ws.getLastD [])).map numZ⟩) := Lib.hid (if_neg HWS.out)
    obtain ⟨m, hm⟩ : ∃ m, ws.length = m + 1 := ⟨ws.length - 1, by omega⟩
    rw [hm] at eL hcap hn ⊢
    rw [show m + 1 - 1 = m by omega] at eL
    generalize fillE o ws = FE at *
    generalize ws.headD [] = P0 at *
    generalize ws.getLastD [] = L0 at *
    clear hd1 hd2 hs hc hm h0 HWS
    have gL := (((Upd.refl [] w).alloc (.cells #[.pointer (some ⟨eb, 0, none⟩)] 80)).at (textCell_lt eL) (by simp) (go + m)).trans eL
    have hglt : g < w.heap.size := textCell_lt e0
    clear eL hB
    have g0 := (((Upd.refl [] w).alloc (.cells #[.pointer (some ⟨eb, 0, none⟩)] 80)).alloc (.cells #[.string (strOf L0)] 9) |>.at hglt (by simp) (go + 0)).trans e0
    rw [Nat.add_zero] at g0
    go_upto_region 2 with fail
    have HB1 := Lib.hid (HB0.out.alloc (.cells #[.string (strOf L0)] 9))
    have HP1 := Lib.hid (HP0.out.alloc (.cells #[.string (strOf L0)] 9))
    have HU1 := Lib.hid (HU0.out.alloc (.cells #[.string (strOf L0)] 9))
    have HL1 : Hid (Blk ((w.alloc (.cells #[.pointer (some ⟨eb, 0, none⟩)] 80)).alloc (.cells #[.string (strOf L0)] 9)) (w.heap.size + 1) [.string (strOf L0)] 9) := Lib.hid (by
      have h := Blk.new (w.alloc (.cells #[.pointer (some ⟨eb, 0, none⟩)] 80)) [.string (strOf L0)] 9
      simpa using h)
    go_upto_region 3 with fail
    change Code.wp _ _ _ _ ((w.alloc (.cells #[.pointer (some ⟨eb, 0, none⟩)] 80)).alloc (.cells #[.string (strOf L0)] 9))
    generalize (w.alloc (.cells #[.pointer (some ⟨eb, 0, none⟩)] 80)).alloc (.cells #[.string (strOf L0)] 9) = w2 at *
    clear HB0 HP0 HU0 e0
    obtain ⟨pb, hpb⟩ : ∃ pb, w.heap.size = pb := ⟨_, rfl⟩
    have HW := Lib.hid (show w.heap.size ≤ pb by omega)
    rw [hpb] at HP1 HL1 heb hglt ⊢
    clear hpb
    obtain ⟨lb, hlb⟩ : ∃ lb, pb + 1 = lb := ⟨_, rfl⟩
    have HLP := Lib.hid (show pb < lb by omega)
    have hep : eb ≠ pb := by omega
    have hpe : pb ≠ eb := by omega
    have hel : eb ≠ lb := by omega
    have hle : lb ≠ eb := by omega
    have HEL : Hid (eb < pb ∧ pb ≠ lb) := Lib.hid (by omega)
    rw [hlb] at HL1 ⊢
    clear hlb heb
    have c1 := HB1.out.cell 1 rfl
    have f1 := HB1.out.frz 1
    have c2 := HB1.out.cell 2 rfl
    have f2 := HB1.out.frz 2
    have p0 := HP1.out.cell 0 rfl
    have l0 := HL1.out.cell 0 rfl
    go_big_region
    have HB3 : Hid (Blk (((w2.setCell ⟨eb, 1, none⟩ (.string (strOf P0))).setCell ⟨eb, 2, none⟩ (.string (strOf L0))).drew) eb [.int .i64 o, .string (strOf P0), .string (strOf L0), .int .i64 0, .int .i64 0, .int .u32 0, .string ⟨#[]⟩, .int .i64 0, .slice none 0 0] 44) := Lib.hid (((HB1.out.set 1 (.string (strOf P0))).set 2 (.string (strOf L0))).upd ((Upd.refl [] _).drew) (by simp))
    have HP3 : Hid (Blk (((w2.setCell ⟨eb, 1, none⟩ (.string (strOf P0))).setCell ⟨eb, 2, none⟩ (.string (strOf L0))).drew) pb [.pointer (some ⟨eb, 0, none⟩)] 80) := Lib.hid (((HP1.out.setFar (a := ⟨eb, 1, none⟩) _ hpe).setFar (a := ⟨eb, 2, none⟩) _ hpe).upd ((Upd.refl [] _).drew) (by simp))
    have HL3 : Hid (Blk (((w2.setCell ⟨eb, 1, none⟩ (.string (strOf P0))).setCell ⟨eb, 2, none⟩ (.string (strOf L0))).drew) lb [.string (strOf L0)] 9) := Lib.hid (((HL1.out.setFar (a := ⟨eb, 1, none⟩) _ hle).setFar (a := ⟨eb, 2, none⟩) _ hle).upd ((Upd.refl [] _).drew) (by simp))
    have HU3 : Hid (Upd [eb] w (((w2.setCell ⟨eb, 1, none⟩ (.string (strOf P0))).setCell ⟨eb, 2, none⟩ (.string (strOf L0))).drew)) := Lib.hid (((HU1.out.setCell (p := ⟨eb, 1, none⟩) (.inl (by simp)) _).setCell (p := ⟨eb, 2, none⟩) (.inl (by simp)) _).drew)
    clear HB1 HP1 HL1 HU1 c1 f1 c2 f2 p0 l0 g0 gL
    generalize (((w2.setCell ⟨eb, 1, none⟩ (.string (strOf P0))).setCell ⟨eb, 2, none⟩ (.string (strOf L0))).drew) = w3 at *
    have hq0 : bytesOf (strOf L0) = L0 := bytesOf_strOf _ hLb.2
    have hz0' : (strOf L0).size ≤ 100000 := by rw [size_strOf]; exact hLb.1
    have HND := snode_any (strOf L0)
    have HNU := snum_any (strOf L0)
    rw [hq0] at HND HNU
    have HND := Lib.hid (fun z => HND z hz0')
    have HNU := Lib.hid (fun z => HNU z (Nat.le_trans hz0' (by decide)))
    have HF1 := fun (n : Int) (z : World) (hz : Blk z lb [.string (strOf L0)] 9) => fill1_any n (strOf L0) lb z hz
    rw [hq0] at HF1
    have HF1 := Lib.hid HF1
    have HSZ := Lib.hid hz0'
    have HQ0 := Lib.hid hq0
    unfold NodN.v nodeV at HND
    generalize (nodN L0).k = nk at *
    generalize (nodN L0).m = nm at *
    generalize (nodN L0).t = nt at *
    generalize (nodN L0).D = nD at *
    generalize nodOk L0 = nok at *
    generalize hNU : numZ L0 = NU at *
    clear hNU hq0 hz0'
    generalize strOf P0 = SP at *
    obtain ⟨SL, hSL⟩ : ∃ SL, strOf L0 = SL := ⟨_, rfl⟩
    have HSL := Lib.hid hSL
    rw [hSL] at HB3 HL3 HND HNU HF1 HFE HSZ HQ0 ⊢
    clear hSL
    as_aux_lemma =>
    go_upto_region 4 with fail
    refine wp_calmF ?_
    refine wp_region_held_drew (S := fun w' => Blk w' pb [.pointer (some ⟨eb, 0, none⟩)] 80 ∧ Blk w' lb [.string SL] 9) (by kernel_rfl) ⟨HP3.out.upd ((Upd.refl [] _).drew) (by simp), HL3.out.upd ((Upd.refl [] _).drew) (by simp)⟩ (fun hHeld => ?_)
    change wpAnyH _ _ _ _ _ 9 #[false, false, false, false, false, false, false, false, false] _ _
    refine heldTake (i := 0) (d := some 26) (v := ?v0_6) rfl rfl (by kernel_rfl) (by kernel_rfl) (by kernel_rfl) (fun _ _ _ h => h) (by rfl) ?hy0_6 (by assumption) ?r0_6
    case hy0_6 => (intro w5 hSw; have q0 := hSw.1.cell 0 rfl; go_simp; try with_reducible rfl)
    try simp only [Act.put, List.setIfInBounds_toArray, List.set_cons_zero, List.set_cons_succ]
    change wpAnyH _ _ _ _ _ 8 #[true, false, false, false, false, false, false, false, false] _ _
    refine heldTake (i := 1) (d := some 27) (v := ?v1_7) rfl rfl (by kernel_rfl) (by kernel_rfl) (by kernel_rfl) (fun _ _ _ h => h) (by rfl) ?hy1_7 (by assumption) ?r1_7
    case hy1_7 => (intro w5 hSw; have q0 := hSw.2.cell 0 rfl; go_simp; try with_reducible rfl)
    try simp only [Act.put, List.setIfInBounds_toArray, List.set_cons_zero, List.set_cons_succ]
    change wpAnyH _ _ _ _ _ 7 #[true, true, false, false, false, false, false, false, false] _ _
    refine wpAnyH_ready (rs := [2]) (by kernel_rfl) (by simp) ?_
    refine AllReadyH.cons rfl (fun K hK => ?_) AllReadyH.nil
    go_simp
    refine (HND.out _).mono ?_
    rintro e z4 ⟨rfl, hz4⟩
    have HB4 := Lib.hid (HB3.out.upd (((Upd.refl [] _).drew).then hz4) (by simp))
    have HU4 := Lib.hid (HU3.out.drew.trans hz4 (by simp))
    go_wp2
    refine hK.out _ _ ⟨hHeld.1.upd hz4 (by simp), hHeld.2.upd hz4 (by simp)⟩ (fun hHeld => ?_)
    clear hK K
    try simp only [Act.put, List.setIfInBounds_toArray, List.set_cons_zero, List.set_cons_succ]
    change wpAnyH _ _ _ _ _ 6 #[true, true, true, false, false, false, false, false, false] _ _
    refine heldTake (i := 3) (d := some 25) (v := ?v3_9) rfl rfl (by kernel_rfl) (by kernel_rfl) (by kernel_rfl) (fun _ _ _ h => h) (by rfl) ?hy3_9 (by assumption) ?r3_9
    case hy3_9 => (intro w hSw; (try dsimp only at hSw); go_simp; try with_reducible rfl)
    try simp only [Act.put, List.setIfInBounds_toArray, List.set_cons_zero, List.set_cons_succ]
    change wpAnyH _ _ _ _ _ 5 #[true, true, true, true, false, false, false, false, false] _ _
    refine heldTake (i := 4) (d := some 29) (v := ?v4_10) rfl rfl (by kernel_rfl) (by kernel_rfl) (by kernel_rfl) (fun _ _ _ h => h) (by rfl) ?hy4_10 (by assumption) ?r4_10
    case hy4_10 => (intro w hSw; (try dsimp only at hSw); go_simp; try with_reducible rfl)
    try simp only [Act.put, List.setIfInBounds_toArray, List.set_cons_zero, List.set_cons_succ]
    change wpAnyH _ _ _ _ _ 4 #[true, true, true, true, true, false, false, false, false] _ _
    refine heldTake (i := 5) (d := some 30) (v := ?v5_11) rfl rfl (by kernel_rfl) (by kernel_rfl) (by kernel_rfl) (fun _ _ _ h => h) (by rfl) ?hy5_11 (by assumption) ?r5_11
    case hy5_11 => (intro w hSw; (try dsimp only at hSw); go_simp; try with_reducible rfl)
    try simp only [Act.put, List.setIfInBounds_toArray, List.set_cons_zero, List.set_cons_succ]
    change wpAnyH _ _ _ _ _ 3 #[true, true, true, true, true, true, false, false, false] _ _
    refine heldTake (i := 6) (d := some 31) (v := ?v6_12) rfl rfl (by kernel_rfl) (by kernel_rfl) (by kernel_rfl) (fun _ _ _ h => h) (by rfl) ?hy6_12 (by assumption) ?r6_12
    case hy6_12 => (intro w hSw; (try dsimp only at hSw); go_simp; try with_reducible rfl)
    try simp only [Act.put, List.setIfInBounds_toArray, List.set_cons_zero, List.set_cons_succ]
    change wpAnyH _ _ _ _ _ 2 #[true, true, true, true, true, true, true, false, false] _ _
    refine heldTake (i := 7) (d := some 32) (v := ?v7_13) rfl rfl (by kernel_rfl) (by kernel_rfl) (by kernel_rfl) (fun _ _ _ h => h) (by rfl) ?hy7_13 (by assumption) ?r7_13
    case hy7_13 => (intro w hSw; (try dsimp only at hSw); go_simp; try with_reducible rfl)
    try simp only [Act.put, List.setIfInBounds_toArray, List.set_cons_zero, List.set_cons_succ]
    change wpAnyH _ _ _ _ _ 1 #[true, true, true, true, true, true, true, true, false] _ _
    refine wpAnyH_ready (rs := [8]) (by kernel_rfl) (by simp) ?_
    refine AllReadyH.cons rfl (fun K hK => ?_) AllReadyH.nil
    have c3 := HB4.out.cell 3 rfl
    have c4 := HB4.out.cell 4 rfl
    have c5 := HB4.out.cell 5 rfl
    have c6 := HB4.out.cell 6 rfl
    have f3 := HB4.out.frz 3
    have f4 := HB4.out.frz 4
    have f5 := HB4.out.frz 5
    have f6 := HB4.out.frz 6
    go_simp
    clear c3 f3 c4 f4 c5 f5 c6 f6
    refine hK.out _ _ ⟨((((hHeld.1.setFar (a := ⟨eb, 3, none⟩) _ hpe).setFar (a := ⟨eb, 4, none⟩) _ hpe).setFar (a := ⟨eb, 5, none⟩) _ hpe).setFar (a := ⟨eb, 6, none⟩) _ hpe), ((((hHeld.2.setFar (a := ⟨eb, 3, none⟩) _ hle).setFar (a := ⟨eb, 4, none⟩) _ hle).setFar (a := ⟨eb, 5, none⟩) _ hle).setFar (a := ⟨eb, 6, none⟩) _ hle)⟩ (fun hHeld => ?_)
    clear hK K
    try simp only [Act.put, List.setIfInBounds_toArray, List.set_cons_zero, List.set_cons_succ]
    change wpAnyH _ _ _ _ _ 0 #[true, true, true, true, true, true, true, true, true] _ _
    refine wpAnyH_done (by kernel_rfl) ?_ 0
    have HB5 := Lib.hid ((((HB4.out.set 3 (.int .i64 nk)).set 4 (.int .i64 nm)).set 5 (.int .u32 (nt : Nat))).set 6 (.string nD))
    have HU5 := Lib.hid ((((HU4.out.setCell (p := ⟨eb, 3, none⟩) (.inl (by simp)) (.int .i64 nk)).setCell (p := ⟨eb, 4, none⟩) (.inl (by simp)) (.int .i64 nm)).setCell (p := ⟨eb, 5, none⟩) (.inl (by simp)) (.int .u32 (nt : Nat))).setCell (p := ⟨eb, 6, none⟩) (.inl (by simp)) (.string nD))
    have HP5 := Lib.hid hHeld.1
    have HL5 := Lib.hid hHeld.2
    clear hHeld HB4 HU4 HB3 HU3 HP3 HL3 HND hz4
    simp only [List.set_cons_zero, List.set_cons_succ] at HB5
    generalize ((((z4.setCell ⟨eb, 3, none⟩ (.int .i64 nk)).setCell ⟨eb, 4, none⟩ (.int .i64 nm)).setCell ⟨eb, 5, none⟩ (.int .u32 (nt : Nat))).setCell ⟨eb, 6, none⟩ (.string nD)) = w5 at *
    as_aux_lemma =>
    go_upto_region 5 with fail
    refine wp_calmF ?_
    refine wp_region_held_drew (S := fun w' => Blk w' pb [.pointer (some ⟨eb, 0, none⟩)] 80 ∧ Blk w' lb [.string SL] 9) (by kernel_rfl) ⟨HP5.out.upd ((Upd.refl [] _).drew) (by simp), HL5.out.upd ((Upd.refl [] _).drew) (by simp)⟩ (fun hHeld => ?_)
    change wpAnyH _ _ _ _ _ 6 #[false, false, false, false, false, false] _ _
    refine heldTake (i := 0) (d := some 33) (v := ?v0_15) rfl rfl (by kernel_rfl) (by kernel_rfl) (by kernel_rfl) (fun _ _ _ h => h) (by rfl) ?hy0_15 (by assumption) ?r0_15
    case hy0_15 => (intro w5 hSw; have q0 := hSw.1.cell 0 rfl; go_simp; try with_reducible rfl)
    try simp only [Act.put, List.setIfInBounds_toArray, List.set_cons_zero, List.set_cons_succ]
    change wpAnyH _ _ _ _ _ 5 #[true, false, false, false, false, false] _ _
    refine heldTake (i := 1) (d := some 34) (v := ?v1_16) rfl rfl (by kernel_rfl) (by kernel_rfl) (by kernel_rfl) (fun _ _ _ h => h) (by rfl) ?hy1_16 (by assumption) ?r1_16
    case hy1_16 => (intro w5 hSw; have q0 := hSw.2.cell 0 rfl; go_simp; try with_reducible rfl)
    try simp only [Act.put, List.setIfInBounds_toArray, List.set_cons_zero, List.set_cons_succ]
    change wpAnyH _ _ _ _ _ 4 #[true, true, false, false, false, false] _ _
    refine wpAnyH_ready (rs := [2]) (by kernel_rfl) (by simp) ?_
    refine AllReadyH.cons rfl (fun K hK => ?_) AllReadyH.nil
    go_simp
    refine (HNU.out _).mono ?_
    rintro e z4 ⟨rfl, hz4⟩
    have HB4 := Lib.hid (HB5.out.upd (((Upd.refl [] _).drew).then hz4) (by simp))
    have HU4 := Lib.hid (HU5.out.drew.trans hz4 (by simp))
    go_wp2
    refine hK.out _ _ ⟨hHeld.1.upd hz4 (by simp), hHeld.2.upd hz4 (by simp)⟩ (fun hHeld => ?_)
    clear hK K
    try simp only [Act.put, List.setIfInBounds_toArray, List.set_cons_zero, List.set_cons_succ]
    change wpAnyH _ _ _ _ _ 3 #[true, true, true, false, false, false] _ _
    refine heldTake (i := 3) (d := some 36) (v := ?v3_18) rfl rfl (by kernel_rfl) (by kernel_rfl) (by kernel_rfl) (fun _ _ _ h => h) (by rfl) ?hy3_18 (by assumption) ?r3_18
    case hy3_18 => (intro w hSw; (try dsimp only at hSw); go_simp; try with_reducible rfl)
    try simp only [Act.put, List.setIfInBounds_toArray, List.set_cons_zero, List.set_cons_succ]
    change wpAnyH _ _ _ _ _ 2 #[true, true, true, true, false, false] _ _
    refine heldTake (i := 4) (d := some 37) (v := ?v4_19) rfl rfl (by kernel_rfl) (by kernel_rfl) (by kernel_rfl) (fun _ _ _ h => h) (by rfl) ?hy4_19 (by assumption) ?r4_19
    case hy4_19 => (intro w hSw; (try dsimp only at hSw); go_simp; try with_reducible rfl)
    try simp only [Act.put, List.setIfInBounds_toArray, List.set_cons_zero, List.set_cons_succ]
    change wpAnyH _ _ _ _ _ 1 #[true, true, true, true, true, false] _ _
    refine wpAnyH_ready (rs := [5]) (by kernel_rfl) (by simp) ?_
    refine AllReadyH.cons rfl (fun K hK => ?_) AllReadyH.nil
    have c7 := HB4.out.cell 7 rfl
    have f7 := HB4.out.frz 7
    go_simp
    clear c7 f7
    refine hK.out _ _ ⟨(hHeld.1.setFar (a := ⟨eb, 7, none⟩) _ hpe), (hHeld.2.setFar (a := ⟨eb, 7, none⟩) _ hle)⟩ (fun hHeld => ?_)
    clear hK K
    try simp only [Act.put, List.setIfInBounds_toArray, List.set_cons_zero, List.set_cons_succ]
    change wpAnyH _ _ _ _ _ 0 #[true, true, true, true, true, true] _ _
    refine wpAnyH_done (by kernel_rfl) ?_ 0
    have HB6 := Lib.hid (HB4.out.set 7 (.int .i64 NU))
    have HU6 := Lib.hid (HU4.out.setCell (p := ⟨eb, 7, none⟩) (.inl (by simp)) (.int .i64 NU))
    have HP6 := Lib.hid hHeld.1
    have HL6 := Lib.hid hHeld.2
    clear hHeld HB4 HU4 HB5 HU5 HP5 HL5 hz4
    simp only [List.set_cons_zero, List.set_cons_succ] at HB6
    generalize (z4.setCell ⟨eb, 7, none⟩ (.int .i64 NU)) = w6 at *
    have p0 := HP6.out.cell 0 rfl
    have c0 := HB6.out.cell 0 rfl
    obtain ⟨NN, hNN⟩ : ∃ NN, (if o = 5 then polI L0 else NU) = NN := ⟨_, rfl⟩
    rw [hNN] at HFE
    have HNN := Lib.hid hNN
    clear hNN
    as_aux_lemma =>
    go_upto_if 42 with fail
    go_cut [] (fun wx => Hid (Blk wx eb [.int .i64 o, .string SP, .string SL, .int .i64 nk, .int .i64 nm, .int .u32 (nt : Nat), .string nD, .int .i64 NN, .slice none 0 0] 44) ∧ Hid (Blk wx pb [.pointer (some ⟨eb, 0, none⟩)] 80) ∧ Hid (Blk wx lb [.string SL] 9) ∧ Hid (Upd [eb] w wx))
    case first =>
      as_aux_lemma =>
      by_cases ho : o = 5
      · have HN5 : Hid (polI L0 = NN) := Lib.hid (by rw [← HNN.out, if_pos ho])
        have hob : (o == 5) = true := by simp [ho]
        clear HNN HNU ho
        go_upto_region 7 with fail
        refine wp_calmF ?_
        refine wp_region_held_drew (S := fun w' => Blk w' pb [.pointer (some ⟨eb, 0, none⟩)] 80 ∧ Blk w' lb [.string SL] 9) (by kernel_rfl) ⟨HP6.out.upd ((Upd.refl [] _).drew) (by simp), HL6.out.upd ((Upd.refl [] _).drew) (by simp)⟩ (fun hHeld => ?_)
        change wpAnyH _ _ _ _ _ 7 #[false, false, false, false, false, false, false] _ _
        refine heldTake (i := 0) (d := some 43) (v := ?v0_21) rfl rfl (by kernel_rfl) (by kernel_rfl) (by kernel_rfl) (fun _ _ _ h => h) (by rfl) ?hy0_21 (by assumption) ?r0_21
        case hy0_21 => (intro w5 hSw; have q0 := hSw.1.cell 0 rfl; go_simp; try with_reducible rfl)
        try simp only [Act.put, List.setIfInBounds_toArray, List.set_cons_zero, List.set_cons_succ]
        change wpAnyH _ _ _ _ _ 6 #[true, false, false, false, false, false, false] _ _
        refine heldTake (i := 2) (d := some 45) (v := ?v2_22) rfl rfl (by kernel_rfl) (by kernel_rfl) (by kernel_rfl) (fun _ _ _ h => h) (by rfl) ?hy2_22 (by assumption) ?r2_22
        case hy2_22 => (intro w hSw; (try dsimp only at hSw); go_simp; try with_reducible rfl)
        try simp only [Act.put, List.setIfInBounds_toArray, List.set_cons_zero, List.set_cons_succ]
        change wpAnyH _ _ _ _ _ 5 #[true, false, true, false, false, false, false] _ _
        refine wpAnyH_ready (rs := [1]) (by kernel_rfl) (by simp) ?_
        refine AllReadyH.cons rfl (fun K hK => ?_) AllReadyH.nil
        go_simp
        have HB7 := Lib.hid ((HB6.out.upd ((Upd.refl [] _).drew) (by simp)).alloc (.cells #[.int .i64 0, .int .i64 1, .int .i64 2, .int .i64 3] 3))
        have HU7 := Lib.hid (HU6.out.drew.alloc (.cells #[.int .i64 0, .int .i64 1, .int .i64 2, .int .i64 3] 3))
        have HI7 : Hid (IntsAt (w6.drew.alloc (.cells #[.int .i64 0, .int .i64 1, .int .i64 2, .int .i64 3] 3)) (.slice (some ⟨w6.drew.heap.size, 0, none⟩) 4 4) [0, 1, 2, 3]) := Lib.hid (Row.intsAt (l := [0, 1, 2, 3]) (Row.new w6.drew [.int .i64 0, .int .i64 1, .int .i64 2, .int .i64 3] 3 4 1 (by decide) rfl))
        go_wp2
        refine hK.out _ _ ⟨hHeld.1.alloc _, hHeld.2.alloc _⟩ (fun hHeld => ?_)
        clear hK K
        try simp only [Act.put, List.setIfInBounds_toArray, List.set_cons_zero, List.set_cons_succ]
        change wpAnyH _ _ _ _ _ 4 #[true, true, true, false, false, false, false] _ _
        refine wpAnyH_ready (rs := [3]) (by kernel_rfl) (by simp) ?_
        refine AllReadyH.cons rfl (fun K hK => ?_) AllReadyH.nil
        go_simp
        have HIP := indexP_any [0, 1, 2, 3] (.slice (some ⟨w6.drew.heap.size, 0, none⟩) 4 4) (w6.drew.alloc (.cells #[.int .i64 0, .int .i64 1, .int .i64 2, .int .i64 3] 3)) (fun n => decide (polN n = L0)) lb HI7.out (by decide) (fun n z hz => HF1.out n z (hHeld.2.upd hz (by simp)))
        rw [idxZ_pol, HN5.out] at HIP
        refine HIP.mono ?_
        rintro e z4 ⟨rfl, hz4⟩
        have HB4 := Lib.hid (HB7.out.upd hz4 (by simp))
        have HU4 := Lib.hid (HU7.out.trans hz4 (by simp))
        go_wp2
        refine hK.out _ _ ⟨hHeld.1.upd hz4 (by simp), hHeld.2.upd hz4 (by simp)⟩ (fun hHeld => ?_)
        clear hK K
        try simp only [Act.put, List.setIfInBounds_toArray, List.set_cons_zero, List.set_cons_succ]
        change wpAnyH _ _ _ _ _ 3 #[true, true, true, true, false, false, false] _ _
        refine heldTake (i := 4) (d := some 47) (v := ?v4_25) rfl rfl (by kernel_rfl) (by kernel_rfl) (by kernel_rfl) (fun _ _ _ h => h) (by rfl) ?hy4_25 (by assumption) ?r4_25
        case hy4_25 => (intro w hSw; (try dsimp only at hSw); go_simp; try with_reducible rfl)
        try simp only [Act.put, List.setIfInBounds_toArray, List.set_cons_zero, List.set_cons_succ]
        change wpAnyH _ _ _ _ _ 2 #[true, true, true, true, true, false, false] _ _
        refine heldTake (i := 5) (d := some 48) (v := ?v5_26) rfl rfl (by kernel_rfl) (by kernel_rfl) (by kernel_rfl) (fun _ _ _ h => h) (by rfl) ?hy5_26 (by assumption) ?r5_26
        case hy5_26 => (intro w hSw; (try dsimp only at hSw); go_simp; try with_reducible rfl)
        try simp only [Act.put, List.setIfInBounds_toArray, List.set_cons_zero, List.set_cons_succ]
        change wpAnyH _ _ _ _ _ 1 #[true, true, true, true, true, true, false] _ _
        refine wpAnyH_ready (rs := [6]) (by kernel_rfl) (by simp) ?_
        refine AllReadyH.cons rfl (fun K hK => ?_) AllReadyH.nil
        have c7 := HB4.out.cell 7 rfl
        have f7 := HB4.out.frz 7
        go_simp
        clear c7 f7
        refine hK.out _ _ ⟨(hHeld.1.setFar (a := ⟨eb, 7, none⟩) _ hpe), (hHeld.2.setFar (a := ⟨eb, 7, none⟩) _ hle)⟩ (fun hHeld => ?_)
        clear hK K
        try simp only [Act.put, List.setIfInBounds_toArray, List.set_cons_zero, List.set_cons_succ]
        change wpAnyH _ _ _ _ _ 0 #[true, true, true, true, true, true, true] _ _
        refine wpAnyH_done (by kernel_rfl) ?_ 0
        have HB5 := Lib.hid (HB4.out.set 7 (.int .i64 NN))
        have HU5 := Lib.hid (HU4.out.setCell (p := ⟨eb, 7, none⟩) (.inl (by simp)) (.int .i64 NN))
        have HP5 := Lib.hid hHeld.1
        have HL5 := Lib.hid hHeld.2
        clear hHeld HB4 HU4 HB6 HU6 HP6 HL6 hz4
        simp only [List.set_cons_zero, List.set_cons_succ] at HB5
        generalize (z4.setCell ⟨eb, 7, none⟩ (.int .i64 NN)) = w5 at *
        go_wp2_with fail
        go_meet
        exact ⟨HB5, HP5, HL5, HU5⟩
      · have HN5 : NU = NN := by rw [← HNN.out, if_neg ho]
        subst HN5
        have hob : (o == 5) = false := by simpa using ho
        go_wp2
        go_meet
        exact ⟨HB6, HP6, HL6, HU6⟩
    case rest =>
      as_aux_lemma =>
      obtain ⟨HB7, HP7, HL7, HU7⟩ := hcut
      clear HB6 HP6 HL6 HU6 HNN p0 c0
      have l0 := HL7.out.cell 0 rfl
      have hls : (SL.toList == [45]) = decide (L0 = [45]) := by
        have := strOf_eqS [45] SL (by simp)
        rw [HQ0.out] at this
        have e2 : (strOf [45]).toList = [45] := by rw [ByteArray.toList_eq]; rfl
        rw [e2] at this
        rw [show (SL.toList == [45]) = ([45] == SL.toList) by rw [Bool.beq_comm], this]
        exact decide_eq_decide.2 eq_comm
      by_cases hL : L0 = [45]
      · have hl1 : (SL.toList == [45]) = true := by rw [hls]; exact decide_eq_true hL
        have hl2 : (SL.toList != [45]) = false := by rw [bne, hl1]; rfl
        have HF : Hid (∃ vl, Blk wc eb ((FE.at vl)).cells 44 ∧ (Row wc 3 1 vl FE.l.length (zsV FE.l) ∧ ∀ k, vl.ownBlock = some k → w.heap.size ≤ k) ∧ Upd [eb] w wc) := Lib.hid (by
          rw [HFE.out]
          refine ⟨.slice none 0 0, HB7.out, ?_, HU7.out⟩
          dsimp only
          rw [if_pos hL]
          exact ⟨Row.nil _ _ _, by simp [Value.ownBlock]⟩)
        clear hls hL HFE
        go_wp2
        exact ⟨_, results_none rfl _ _ _, rfl, HF.out⟩
      · have hl1 : (SL.toList == [45]) = false := by rw [hls]; exact decide_eq_false hL
        have hl2 : (SL.toList != [45]) = true := by rw [bne, hl1]; rfl
        have HFL : Hid (FE = ⟨o, SP, SL, nk, nm, nt, nD, NN, .slice none 0 0, (splitC 44 L0).map numZ⟩) := Lib.hid (by rw [HFE.out, if_neg hL])
        clear hls hL HFE
        have HLP2 : Hid (lb < wc.heap.size) := Lib.hid HL7.out.lt
        go_wp2_with fail
        refine (splitSeqC_any 44 SL wc).mono ?_
        rintro e w8 ⟨rfl, hw8⟩
        have HS8 : Hid (Blk w8 wc.heap.size [.string SL] 9 ∧ Blk w8 (wc.heap.size + 1) [.string { data := #[44] }] 9 ∧ Blk w8 (wc.heap.size + 2) [.int .i64 0] 3) := Lib.hid (by
          rw [hw8]
          refine ⟨((Blk.new wc [.string SL] 9).alloc _).alloc _, ?_, ?_⟩
          · have := (Blk.new (wc.alloc (.cells #[.string SL] 9)) [.string { data := #[44] }] 9).alloc (.cells #[.int .i64 0] 3)
            rw [World.size_alloc] at this; exact this
          · have := Blk.new ((wc.alloc (.cells #[.string SL] 9)).alloc (.cells #[.string { data := #[44] }] 9)) [.int .i64 0] 3
            rw [World.size_alloc, World.size_alloc] at this; exact this)
        have hA8 : Upd [] wc w8 := by rw [hw8]; exact (((Upd.refl _ _).alloc _).alloc _).alloc _
        have hz8 : w8.heap.size = wc.heap.size + 3 := by rw [hw8]; simp
        have HI8 : Hid (FlI w8 w eb pb o SP SL nk nm nt nD NN (([] : List Shs).map fun x : Shs => numZ (bytesOf x.1)) w8) := Lib.hid ⟨HP7.out.upd hA8 (by simp), ⟨.slice none 0 0, HB7.out.upd hA8 (by simp), Row.nil _ _ _, by simp [Value.ownBlock]⟩, HU7.out.trans hA8 (by simp)⟩
        have hwl : w.heap.size < wc.heap.size := by have := HLP2.out; have := HW.out; have := HLP.out; omega
        have hlw := HLP2.out
        have hpl := HLP.out
        clear hw8 hA8 HB7 HP7 HL7 HU7 l0 hl1 hl2 HF1 HNU HLP2
        obtain ⟨bs, hbs⟩ : ∃ bs, wc.heap.size = bs := ⟨_, rfl⟩
        rw [hbs] at HS8 hz8 hwl hlw ⊢
        clear hbs
        have HG := Lib.hid (show eb < pb ∧ pb < bs ∧ bs + 2 < w8.heap.size ∧ w.heap.size ≤ bs by have := HEL.out; omega)
        clear hwl hlw hpl
        go_wp2_with fail
        refine wp_act ?_
        intro fr hfr
        refine Code.wp_mono (Q := fun e a' W => e = .normal ∧ ∃ D pre, a' = { fr with defers := { target := .collected D, args := #[] } :: fr.defers } ∧ w8.heap.size ≤ D ∧ W.heap[D]? = some (.deferred (some [])) ∧ FlI w8 w eb pb o SP SL nk nm nt nD NN ((pre : List Shs).map fun x : Shs => numZ (bytesOf x.1)) W ∧ Hid (pre.map Subtype.val = partsC 44 SL)) ?cont ((wpIn_wide (n := 9)).1 ?main)
        case main =>
          refine loopWA (gf := 127) (lb := #[.pointer (some ⟨bs + 1, 0, none⟩), .pointer (some ⟨bs, 0, none⟩), .pointer (some ⟨bs + 2, 0, none⟩)]) (by rw [hfr]; rfl) (enters_of Tryd.func127 (by kernel_rfl) rfl)
            (splitC_seq 44 bs (bs + 1) (bs + 2) SL w8 HS8.out.1 HS8.out.2.1 HS8.out.2.2 ⟨by omega, by omega⟩ (by have := HSZ.out; omega)) (by intro k hk; simp at hk; omega) (fun _ => rfl)
            (fun (pre : List Shs) W => FlI w8 w eb pb o SP SL nk nm nt nD NN (pre.map fun x : Shs => numZ (bytesOf x.1)) W)
            (fun _ _ _ => False)
            ?act
            (FlI.own (fun pre : List Shs => pre.map fun x : Shs => numZ (bytesOf x.1)) (by have := HG.out; omega)) (fun c => fun _ _ _ _ h _ _ => h)
            (fun s A B h hAB => FlI.w2 (by have := HG.out; omega) (by have := HG.out; omega) (by have := HG.out; omega) (by have := HG.out; omega) h hAB) (fun _ _ _ _ h _ => h) HI8.out ?assign ?body ?done ?stop
          case assign =>
            intro L1 x W K hK
            subst hfr
            gi_wp2
            exact hK
          case body =>
            as_aux_lemma =>
            rintro L1 pre x W hsz hfp hI hlt
            subst hfr
            obtain ⟨h1, ⟨v, h2, h3, h4⟩, h5⟩ := hI
            have HNX := Lib.hid (fun z => snum_any x.1 z x.2)
            have HMA : Hid (List.map (fun x : Shs => numZ (bytesOf x.1)) (pre ++ [x]) = List.map (fun x : Shs => numZ (bytesOf x.1)) pre ++ [numZ (bytesOf x.1)]) := Lib.hid (by rw [List.map_append]; rfl)
            obtain ⟨LL, hLL⟩ : ∃ LL, List.map (fun x : Shs => numZ (bytesOf x.1)) pre = LL := ⟨_, rfl⟩
            have HLL : Hid (LL.length ≤ 1000000) := Lib.hid (by rw [← hLL, List.length_map]; have := partsC_bd SL; have := HSZ.out; omega)
            rw [hLL] at h3 HMA
            clear hLL
            generalize numZ (bytesOf x.1) = XN at *
            obtain ⟨N, hN⟩ : ∃ N, LL.length = N := ⟨_, rfl⟩
            rw [hN] at h3
            have HN := Lib.hid hN
            obtain ⟨va, vc, rfl⟩ := h3.form
            have hNl : N ≤ 1000000 := by have := HLL.out; omega
            have H1 := Lib.hid h1
            have H2 := Lib.hid h2
            have H3 := Lib.hid h3
            have H4 := Lib.hid h4
            have H5 := Lib.hid h5
            have H1d := Lib.hid (h1.upd ((Upd.refl [] _).drew) (by simp))
            have H2d := Lib.hid (h2.upd ((Upd.refl [] _).drew) (by simp))
            have H3d := Lib.hid (h3.upd ((Upd.refl [] _).drew) (by simp))
            have c8 := H2d.out.cell 8 rfl
            have HSZ8 := Lib.hid hsz
            clear h1 h2 h3 h4 h5 hN hlt hfp
            gi_wp2_with fail
            refine regionIn_held (S := fun w' => Blk w' pb [.pointer (some ⟨eb, 0, none⟩)] 80) (by kernel_rfl) (by kernel_rfl) H1d.out (fun hHeld K hKQ => ?_)
            change wpAnyH _ _ _ _ _ 12 #[false, false, false, false, false, false, false, false, false, false, false, false] _ _
            refine heldTake (i := 0) (d := some 54) (v := ?v0_28) rfl rfl (by kernel_rfl) (by kernel_rfl) (by kernel_rfl) (fun _ _ _ h => h) (by rfl) ?hy0_28 (by assumption) ?r0_28
            case hy0_28 => (intro w5 hSw; have q0 := hSw.cell 0 rfl; go_simp; try with_reducible rfl)
            try simp only [Act.put, List.setIfInBounds_toArray, List.set_cons_zero, List.set_cons_succ]
            change wpAnyH _ _ _ _ _ 11 #[true, false, false, false, false, false, false, false, false, false, false, false] _ _
            refine heldTake (i := 1) (d := some 55) (v := ?v1_29) rfl rfl (by kernel_rfl) (by kernel_rfl) (by kernel_rfl) (fun _ _ _ h => h) (by rfl) ?hy1_29 (by assumption) ?r1_29
            case hy1_29 => (intro w5 hSw; have q0 := hSw.cell 0 rfl; go_simp; try with_reducible rfl)
            try simp only [Act.put, List.setIfInBounds_toArray, List.set_cons_zero, List.set_cons_succ]
            change wpAnyH _ _ _ _ _ 10 #[true, true, false, false, false, false, false, false, false, false, false, false] _ _
            refine heldTake (i := 2) (d := some 56) (v := ?v2_30) rfl rfl (by kernel_rfl) (by kernel_rfl) (by kernel_rfl) (fun _ _ _ h => h) (by rfl) ?hy2_30 (by assumption) ?r2_30
            case hy2_30 => (intro w hSw; (try dsimp only at hSw); go_simp; try with_reducible rfl)
            try simp only [Act.put, List.setIfInBounds_toArray, List.set_cons_zero, List.set_cons_succ]
            change wpAnyH _ _ _ _ _ 9 #[true, true, true, false, false, false, false, false, false, false, false, false] _ _
            refine heldTake (i := 3) (d := some 57) (v := ?v3_31) rfl rfl (by kernel_rfl) (by kernel_rfl) (by kernel_rfl) (fun _ _ _ h => h) (by rfl) ?hy3_31 (by assumption) ?r3_31
            case hy3_31 => (intro w hSw; (try dsimp only at hSw); go_simp; try with_reducible rfl)
            try simp only [Act.put, List.setIfInBounds_toArray, List.set_cons_zero, List.set_cons_succ]
            change wpAnyH _ _ _ _ _ 8 #[true, true, true, true, false, false, false, false, false, false, false, false] _ _
            refine heldTake (i := 5) (d := some 59) (v := ?v5_32) rfl rfl (by kernel_rfl) (by kernel_rfl) (by kernel_rfl) (fun _ _ _ h => h) (by rfl) ?hy5_32 (by assumption) ?r5_32
            case hy5_32 => (intro w hSw; (try dsimp only at hSw); go_simp; try with_reducible rfl)
            try simp only [Act.put, List.setIfInBounds_toArray, List.set_cons_zero, List.set_cons_succ]
            change wpAnyH _ _ _ _ _ 7 #[true, true, true, true, false, true, false, false, false, false, false, false] _ _
            refine wpAnyH_ready (rs := [4, 6]) (by kernel_rfl) (by simp) ?_
            refine AllReadyH.cons rfl (fun K hK => ?_) (AllReadyH.cons rfl (fun K hK => ?_) AllReadyH.nil)
            · skip
              go_simp
              skip
              go_wp2
              refine hK.out _ _ hHeld (fun hHeld => ?_)
              clear hK K
              try simp only [Act.put, List.setIfInBounds_toArray, List.set_cons_zero, List.set_cons_succ]
              change wpAnyH _ _ _ _ _ 6 #[true, true, true, true, true, true, false, false, false, false, false, false] _ _
              refine wpAnyH_ready (rs := [6]) (by kernel_rfl) (by simp) ?_
              refine AllReadyH.cons rfl (fun K hK => ?_) AllReadyH.nil
              go_simp
              refine (HNX.out _).mono ?_
              rintro e z6 ⟨rfl, hz6⟩
              have H26 := Lib.hid (H2d.out.upd hz6 (by simp))
              have H36 := Lib.hid (H3d.out.upd hz6 (by simp))
              have HZ6 := Lib.hid hz6
              have c86 := H26.out.cell 8 rfl
              go_wp2
              refine hK.out _ _ (hHeld.upd hz6 (by simp)) (fun hHeld => ?_)
              clear hK K
              try simp only [Act.put, List.setIfInBounds_toArray, List.set_cons_zero, List.set_cons_succ]
              change wpAnyH _ _ _ _ _ 5 #[true, true, true, true, true, true, true, false, false, false, false, false] _ _
              refine wpAnyH_ready (rs := [7]) (by kernel_rfl) (by simp) ?_
              refine AllReadyH.cons rfl (fun K hK => ?_) AllReadyH.nil
              go_simp
              have H27 := Lib.hid (H26.out.alloc (.cells #[.int .i64 XN] 3))
              have H37 := Lib.hid (H36.out.alloc (.cells #[.int .i64 XN] 3))
              have c87 := H27.out.cell 8 rfl
              go_wp2
              refine hK.out _ _ (hHeld.alloc _) (fun hHeld => ?_)
              clear hK K
              try simp only [Act.put, List.setIfInBounds_toArray, List.set_cons_zero, List.set_cons_succ]
              change wpAnyH _ _ _ _ _ 4 #[true, true, true, true, true, true, true, true, false, false, false, false] _ _
              refine wpAnyH_ready (rs := [8]) (by kernel_rfl) (by simp) ?_
              refine AllReadyH.cons rfl (fun K hK => ?_) AllReadyH.nil
              refine step_app _ rfl _ _ 42 rfl 3 i0 _ 1 8 Tryd.underlying42 hi hz0 hz1 hz2 rfl (by omega) (.slice va N vc) N _ rfl H37.out ⟨z6.heap.size, 0, none⟩ 1 1 [_] rfl rfl (World.news_of_block (cs := #[_]) (t := 3) (fr := (0, 0)) (heap_alloc_new _ _)) (by simp [Value.oneCell']) (by unfold maxLen; omega) (by omega) ?_
              intro v4 wq hR4 hU4 hT4
              obtain ⟨g4, cap4, rfl, -, -⟩ := hR4.form' (by omega)
              have hnb8 : ∀ b, b < w8.heap.size → b ∉ (Value.slice va N vc).ownBlock.toList := fun b hb hm => by have := H4.out b (by simpa using hm); omega
              have H28 := Lib.hid (H27.out.upd hU4 (hnb8 eb (by have := HG.out; omega)))
              have c88 := H28.out.cell 8 rfl
              have f88 := H28.out.frz 8
              refine hK.out _ _ (hHeld.upd hU4 (hnb8 pb (by have := HG.out; omega))) (fun hHeld => ?_)
              clear hK K
              change wpAnyH _ _ _ _ _ _ _ (Act.put _ (some 62) _) _
              try simp only [Act.put, List.setIfInBounds_toArray, List.set_cons_zero, List.set_cons_succ]
              change wpAnyH _ _ _ _ _ 3 #[true, true, true, true, true, true, true, true, true, false, false, false] _ _
              refine heldTake (i := 9) (d := some 63) (v := ?v9_37) rfl rfl (by kernel_rfl) (by kernel_rfl) (by kernel_rfl) (fun _ _ _ h => h) (by rfl) ?hy9_37 (by assumption) ?r9_37
              case hy9_37 => (intro w hSw; (try dsimp only at hSw); go_simp; try with_reducible rfl)
              try simp only [Act.put, List.setIfInBounds_toArray, List.set_cons_zero, List.set_cons_succ]
              change wpAnyH _ _ _ _ _ 2 #[true, true, true, true, true, true, true, true, true, true, false, false] _ _
              refine heldTake (i := 10) (d := some 64) (v := ?v10_38) rfl rfl (by kernel_rfl) (by kernel_rfl) (by kernel_rfl) (fun _ _ _ h => h) (by rfl) ?hy10_38 (by assumption) ?r10_38
              case hy10_38 => (intro w hSw; (try dsimp only at hSw); go_simp; try with_reducible rfl)
              try simp only [Act.put, List.setIfInBounds_toArray, List.set_cons_zero, List.set_cons_succ]
              change wpAnyH _ _ _ _ _ 1 #[true, true, true, true, true, true, true, true, true, true, true, false] _ _
              refine wpAnyH_ready (rs := [11]) (by kernel_rfl) (by simp) ?_
              refine AllReadyH.cons rfl (fun K hK => ?_) AllReadyH.nil
              go_simp
              skip
              go_wp2
              refine hK.out _ _ (hHeld.setFar (a := ⟨eb, 8, none⟩) _ hpe) (fun hHeld => ?_)
              clear hK K
              try simp only [Act.put, List.setIfInBounds_toArray, List.set_cons_zero, List.set_cons_succ]
              change wpAnyH _ _ _ _ _ 0 #[true, true, true, true, true, true, true, true, true, true, true, true] _ _
              refine wpAnyH_done (by kernel_rfl) ?_ 0
              refine hKQ _ _ ?_
              have HE := Lib.hid (fl_end (x := XN) (by have := HG.out; omega) HG.out.1 HG.out.2.1 HG.out.2.2.1 HSZ8.out H1.out H2.out H3.out HN.out H4.out H5.out HZ6.out hR4 hU4 hT4)
              rw [← HMA.out] at HE
              clear hR4 hU4 hT4 hz6
              gi_wp2
              exact HE.out
            · skip
              go_simp
              refine (HNX.out _).mono ?_
              rintro e z6 ⟨rfl, hz6⟩
              have H26 := Lib.hid (H2d.out.upd hz6 (by simp))
              have H36 := Lib.hid (H3d.out.upd hz6 (by simp))
              have HZ6 := Lib.hid hz6
              have c86 := H26.out.cell 8 rfl
              go_wp2
              refine hK.out _ _ (hHeld.upd hz6 (by simp)) (fun hHeld => ?_)
              clear hK K
              try simp only [Act.put, List.setIfInBounds_toArray, List.set_cons_zero, List.set_cons_succ]
              change wpAnyH _ _ _ _ _ 6 #[true, true, true, true, false, true, true, false, false, false, false, false] _ _
              refine wpAnyH_ready (rs := [4, 7]) (by kernel_rfl) (by simp) ?_
              refine AllReadyH.cons rfl (fun K hK => ?_) (AllReadyH.cons rfl (fun K hK => ?_) AllReadyH.nil)
              · skip
                go_simp
                skip
                go_wp2
                refine hK.out _ _ hHeld (fun hHeld => ?_)
                clear hK K
                try simp only [Act.put, List.setIfInBounds_toArray, List.set_cons_zero, List.set_cons_succ]
                change wpAnyH _ _ _ _ _ 5 #[true, true, true, true, true, true, true, false, false, false, false, false] _ _
                refine wpAnyH_ready (rs := [7]) (by kernel_rfl) (by simp) ?_
                refine AllReadyH.cons rfl (fun K hK => ?_) AllReadyH.nil
                go_simp
                have H27 := Lib.hid (H26.out.alloc (.cells #[.int .i64 XN] 3))
                have H37 := Lib.hid (H36.out.alloc (.cells #[.int .i64 XN] 3))
                have c87 := H27.out.cell 8 rfl
                go_wp2
                refine hK.out _ _ (hHeld.alloc _) (fun hHeld => ?_)
                clear hK K
                try simp only [Act.put, List.setIfInBounds_toArray, List.set_cons_zero, List.set_cons_succ]
                change wpAnyH _ _ _ _ _ 4 #[true, true, true, true, true, true, true, true, false, false, false, false] _ _
                refine wpAnyH_ready (rs := [8]) (by kernel_rfl) (by simp) ?_
                refine AllReadyH.cons rfl (fun K hK => ?_) AllReadyH.nil
                refine step_app _ rfl _ _ 42 rfl 3 i0 _ 1 8 Tryd.underlying42 hi hz0 hz1 hz2 rfl (by omega) (.slice va N vc) N _ rfl H37.out ⟨z6.heap.size, 0, none⟩ 1 1 [_] rfl rfl (World.news_of_block (cs := #[_]) (t := 3) (fr := (0, 0)) (heap_alloc_new _ _)) (by simp [Value.oneCell']) (by unfold maxLen; omega) (by omega) ?_
                intro v4 wq hR4 hU4 hT4
                obtain ⟨g4, cap4, rfl, -, -⟩ := hR4.form' (by omega)
                have hnb8 : ∀ b, b < w8.heap.size → b ∉ (Value.slice va N vc).ownBlock.toList := fun b hb hm => by have := H4.out b (by simpa using hm); omega
                have H28 := Lib.hid (H27.out.upd hU4 (hnb8 eb (by have := HG.out; omega)))
                have c88 := H28.out.cell 8 rfl
                have f88 := H28.out.frz 8
                refine hK.out _ _ (hHeld.upd hU4 (hnb8 pb (by have := HG.out; omega))) (fun hHeld => ?_)
                clear hK K
                change wpAnyH _ _ _ _ _ _ _ (Act.put _ (some 62) _) _
                try simp only [Act.put, List.setIfInBounds_toArray, List.set_cons_zero, List.set_cons_succ]
                change wpAnyH _ _ _ _ _ 3 #[true, true, true, true, true, true, true, true, true, false, false, false] _ _
                refine heldTake (i := 9) (d := some 63) (v := ?v9_43) rfl rfl (by kernel_rfl) (by kernel_rfl) (by kernel_rfl) (fun _ _ _ h => h) (by rfl) ?hy9_43 (by assumption) ?r9_43
                case hy9_43 => (intro w hSw; (try dsimp only at hSw); go_simp; try with_reducible rfl)
                try simp only [Act.put, List.setIfInBounds_toArray, List.set_cons_zero, List.set_cons_succ]
                change wpAnyH _ _ _ _ _ 2 #[true, true, true, true, true, true, true, true, true, true, false, false] _ _
                refine heldTake (i := 10) (d := some 64) (v := ?v10_44) rfl rfl (by kernel_rfl) (by kernel_rfl) (by kernel_rfl) (fun _ _ _ h => h) (by rfl) ?hy10_44 (by assumption) ?r10_44
                case hy10_44 => (intro w hSw; (try dsimp only at hSw); go_simp; try with_reducible rfl)
                try simp only [Act.put, List.setIfInBounds_toArray, List.set_cons_zero, List.set_cons_succ]
                change wpAnyH _ _ _ _ _ 1 #[true, true, true, true, true, true, true, true, true, true, true, false] _ _
                refine wpAnyH_ready (rs := [11]) (by kernel_rfl) (by simp) ?_
                refine AllReadyH.cons rfl (fun K hK => ?_) AllReadyH.nil
                go_simp
                skip
                go_wp2
                refine hK.out _ _ (hHeld.setFar (a := ⟨eb, 8, none⟩) _ hpe) (fun hHeld => ?_)
                clear hK K
                try simp only [Act.put, List.setIfInBounds_toArray, List.set_cons_zero, List.set_cons_succ]
                change wpAnyH _ _ _ _ _ 0 #[true, true, true, true, true, true, true, true, true, true, true, true] _ _
                refine wpAnyH_done (by kernel_rfl) ?_ 0
                refine hKQ _ _ ?_
                have HE := Lib.hid (fl_end (x := XN) (by have := HG.out; omega) HG.out.1 HG.out.2.1 HG.out.2.2.1 HSZ8.out H1.out H2.out H3.out HN.out H4.out H5.out HZ6.out hR4 hU4 hT4)
                rw [← HMA.out] at HE
                clear hR4 hU4 hT4 hz6
                gi_wp2
                exact HE.out
              · skip
                go_simp
                have H27 := Lib.hid (H26.out.alloc (.cells #[.int .i64 XN] 3))
                have H37 := Lib.hid (H36.out.alloc (.cells #[.int .i64 XN] 3))
                have c87 := H27.out.cell 8 rfl
                go_wp2
                refine hK.out _ _ (hHeld.alloc _) (fun hHeld => ?_)
                clear hK K
                try simp only [Act.put, List.setIfInBounds_toArray, List.set_cons_zero, List.set_cons_succ]
                change wpAnyH _ _ _ _ _ 5 #[true, true, true, true, false, true, true, true, false, false, false, false] _ _
                refine wpAnyH_ready (rs := [4]) (by kernel_rfl) (by simp) ?_
                refine AllReadyH.cons rfl (fun K hK => ?_) AllReadyH.nil
                go_simp
                skip
                go_wp2
                refine hK.out _ _ hHeld (fun hHeld => ?_)
                clear hK K
                try simp only [Act.put, List.setIfInBounds_toArray, List.set_cons_zero, List.set_cons_succ]
                change wpAnyH _ _ _ _ _ 4 #[true, true, true, true, true, true, true, true, false, false, false, false] _ _
                refine wpAnyH_ready (rs := [8]) (by kernel_rfl) (by simp) ?_
                refine AllReadyH.cons rfl (fun K hK => ?_) AllReadyH.nil
                refine step_app _ rfl _ _ 42 rfl 3 i0 _ 1 8 Tryd.underlying42 hi hz0 hz1 hz2 rfl (by omega) (.slice va N vc) N _ rfl H37.out ⟨z6.heap.size, 0, none⟩ 1 1 [_] rfl rfl (World.news_of_block (cs := #[_]) (t := 3) (fr := (0, 0)) (heap_alloc_new _ _)) (by simp [Value.oneCell']) (by unfold maxLen; omega) (by omega) ?_
                intro v4 wq hR4 hU4 hT4
                obtain ⟨g4, cap4, rfl, -, -⟩ := hR4.form' (by omega)
                have hnb8 : ∀ b, b < w8.heap.size → b ∉ (Value.slice va N vc).ownBlock.toList := fun b hb hm => by have := H4.out b (by simpa using hm); omega
                have H28 := Lib.hid (H27.out.upd hU4 (hnb8 eb (by have := HG.out; omega)))
                have c88 := H28.out.cell 8 rfl
                have f88 := H28.out.frz 8
                refine hK.out _ _ (hHeld.upd hU4 (hnb8 pb (by have := HG.out; omega))) (fun hHeld => ?_)
                clear hK K
                change wpAnyH _ _ _ _ _ _ _ (Act.put _ (some 62) _) _
                try simp only [Act.put, List.setIfInBounds_toArray, List.set_cons_zero, List.set_cons_succ]
                change wpAnyH _ _ _ _ _ 3 #[true, true, true, true, true, true, true, true, true, false, false, false] _ _
                refine heldTake (i := 9) (d := some 63) (v := ?v9_48) rfl rfl (by kernel_rfl) (by kernel_rfl) (by kernel_rfl) (fun _ _ _ h => h) (by rfl) ?hy9_48 (by assumption) ?r9_48
                case hy9_48 => (intro w hSw; (try dsimp only at hSw); go_simp; try with_reducible rfl)
                try simp only [Act.put, List.setIfInBounds_toArray, List.set_cons_zero, List.set_cons_succ]
                change wpAnyH _ _ _ _ _ 2 #[true, true, true, true, true, true, true, true, true, true, false, false] _ _
                refine heldTake (i := 10) (d := some 64) (v := ?v10_49) rfl rfl (by kernel_rfl) (by kernel_rfl) (by kernel_rfl) (fun _ _ _ h => h) (by rfl) ?hy10_49 (by assumption) ?r10_49
                case hy10_49 => (intro w hSw; (try dsimp only at hSw); go_simp; try with_reducible rfl)
                try simp only [Act.put, List.setIfInBounds_toArray, List.set_cons_zero, List.set_cons_succ]
                change wpAnyH _ _ _ _ _ 1 #[true, true, true, true, true, true, true, true, true, true, true, false] _ _
                refine wpAnyH_ready (rs := [11]) (by kernel_rfl) (by simp) ?_
                refine AllReadyH.cons rfl (fun K hK => ?_) AllReadyH.nil
                go_simp
                skip
                go_wp2
                refine hK.out _ _ (hHeld.setFar (a := ⟨eb, 8, none⟩) _ hpe) (fun hHeld => ?_)
                clear hK K
                try simp only [Act.put, List.setIfInBounds_toArray, List.set_cons_zero, List.set_cons_succ]
                change wpAnyH _ _ _ _ _ 0 #[true, true, true, true, true, true, true, true, true, true, true, true] _ _
                refine wpAnyH_done (by kernel_rfl) ?_ 0
                refine hKQ _ _ ?_
                have HE := Lib.hid (fl_end (x := XN) (by have := HG.out; omega) HG.out.1 HG.out.2.1 HG.out.2.2.1 HSZ8.out H1.out H2.out H3.out HN.out H4.out H5.out HZ6.out hR4 hU4 hT4)
                rw [← HMA.out] at HE
                clear hR4 hU4 hT4 hz6
                gi_wp2
                exact HE.out
          case done =>
            rintro D xs W hD hxs hI hK
            exact ⟨rfl, D, _, rfl, hD, hK, hI, Lib.hid hxs⟩
          case stop =>
            rintro D c pre W hD hpre h hK
            exact h.elim
        case cont =>
          as_aux_lemma =>
          rintro e a' wz ⟨rfl, D, pre, rfl, hD, hDk, hI, HP⟩
          subst hfr
          obtain ⟨h1, ⟨v, h2, h3, h4⟩, h5⟩ := hI
          have HMM : List.map (fun x : Shs => numZ (bytesOf x.1)) pre = (splitC 44 L0).map numZ := by
            have e1 : List.map (fun x : Shs => numZ (bytesOf x.1)) pre = (pre.map Subtype.val).map (fun s => numZ (bytesOf s)) := by rw [List.map_map]; rfl
            rw [e1, HP.out]
            unfold partsC
            rw [List.map_map, HQ0.out]
            refine List.map_congr_left fun y hy => ?_
            show numZ (bytesOf (strOf y)) = numZ y
            rw [bytesOf_strOf y (fun z hz => hLb.2 z ((splitC_mem 44 L0 y hy).1 z hz))]
          have hwD : w.heap.size ≤ D := by have := HG.out; omega
          have hDlt : D < wz.heap.size := (Array.getElem?_eq_some_iff.1 hDk).1
          have heD : eb ≠ D := by have := HG.out; omega
          have HF : Hid (∃ vl, Blk (wz.putObj D (.deferred none)) eb ((FE.at vl)).cells 44 ∧ (Row (wz.putObj D (.deferred none)) 3 1 vl FE.l.length (zsV FE.l) ∧ ∀ k, vl.ownBlock = some k → w.heap.size ≤ k) ∧ Upd [eb] w (wz.putObj D (.deferred none))) := Lib.hid (by
            rw [HFL.out]
            refine ⟨v, (World.putObj_heap_other heD).trans h2, ?_, h5.putObj' hwD _⟩
            dsimp only
            rw [← HMM]
            exact ⟨(h3.ownF (grownBy_putObj' _ D (.deferred none)) (fun r e => by cases e; exact ⟨Nat.le_refl _, _, hDk, rfl⟩)), fun k hk => by have := h4 k hk; have := HG.out; omega⟩)
          have HDk := Lib.hid hDk
          clear h1 h2 h3 h4 h5 hDk HP HMM
          go_wp2
          refine ⟨by simp, .inl ⟨_, _, rfl, run_takeDeferred HDk.out, ?_⟩⟩
          exact ⟨_, results_none rfl _ _ _, rfl, HF.out⟩
end Go.Proofs.YtigjingielnaoaaDoor

/- Package deflate: Parts: its walk. -/
import Derived.Test.YtdehkaknbmbieaaQBH
import Derived.Test.YtdehkaknbmbieaaQBJ
namespace Go.Proofs.Ytdehkaknbmbieaa
set_option linter.unusedVariables false
set_option linter.unusedSimpArgs false
set_option linter.unusedSectionVars false
open Go.RowKit Go.Shelf
attribute [local go_sem] Oper.semAt_some
set_option linter.unusedVariables false
set_option linter.unusedSimpArgs false

theorem wp_act {P : Program} {c : Code} {Q : Exit → Act → World → Prop} {a : Act} {w : World} (h : ∀ fr, fr = a → c.wp P Q fr w) : c.wp P Q a w := h a rfl
theorem Upd.putObj' {fp : List Nat} {a w : World} (h : Upd fp a w) {D : Nat} (hD : a.heap.size ≤ D) (o : Obj) : Upd fp a (w.putObj D o) := h.grown (grownBy_putObj' w D o) (fun k e => by cases e; exact .inr hD)
theorem results_cellT {fn : Func} {p : Tmp} (h : fn.results = #[.cell p 64]) (tmps : Array Value) (w : World) (g : Nat) (a : Option Addr) (n c : Nat) (hp : tmps.getD p undef = .pointer (some ⟨g, 0, none⟩)) (hB : Blk w g [.slice a n c] 64) :
    (results fn tmps).run Try.prog w = .ok (.slice a n c) w := by
  have hc := hB.cell 0 rfl
  have hp2 : tmps[p]?.getD undef = .pointer (some ⟨g, 0, none⟩) := by rw [← hp]; simp
  simp [results, h, go_sem, hp2, hc]
theorem Row.ne_row {w : World} {e e' : TypeId} {size size' n n' : Nat} {v v' : Value} {xs xs' : List Value} (h : Row w e size v n xs) (h' : Row w e' size' v' n' xs') (ht : e ≠ e') : ∀ k, v.ownBlock = some k → k ∉ v'.ownBlock.toList := fun k hk hm => by
  have hm' : v'.ownBlock = some k := by simpa using hm
  rcases h.2 with ⟨rfl, _⟩ | ⟨g, cap, cur, rfl, hb, hh, _⟩
  · simp [Value.ownBlock] at hk
  · rcases h'.2 with ⟨rfl, _⟩ | ⟨g2, cap2, cur2, rfl, hb2, hh2, _⟩
    · simp [Value.ownBlock] at hm'
    · simp [Value.ownBlock] at hk hm'
      subst hk hm'
      rw [hh] at hh2
      simp at hh2
      exact ht hh2.2
/-- A row of tokens. -/
def rowL (l : List Tok) (q : Nat) : List Tok := (l.drop (8000 * q)).take 8000
theorem rowL_len (l : List Tok) (q : Nat) : (rowL l q).length = min (l.length - 8000 * q) 8000 := by unfold rowL; rw [List.length_take, List.length_drop]; omega
theorem rowL_at (l : List Tok) (q i : Nat) (h : i < (rowL l q).length) : ∃ h2 : 8000 * q + i < l.length, (rowL l q)[i] = l[8000 * q + i] := by
  have h1 := h
  rw [rowL_len] at h1
  refine ⟨by omega, ?_⟩
  simp only [rowL, List.getElem_take, List.getElem_drop]
theorem TokIn.rowL {w : World} {a : Option Addr} {n : Nat} {l : List Tok} (h : TokIn w a n l) (q : Nat) : TokIn w (a.map fun p => p.add (24000 * q)) (min (n - 8000 * q) 8000) (rowL l q) :=
  ⟨by rw [rowL_len, h.len], fun i hi => by
    obtain ⟨h2, e⟩ := rowL_at l q i hi
    obtain ⟨b, off, rfl, ⟨c1, c2, c3⟩, r⟩ := h.cell (8000 * q + i) h2
    rw [e]
    refine ⟨b, off + 24000 * q, by simp only [Option.map_some]; rw [add_flat], ⟨?_, ?_, ?_⟩, r⟩
    · rw [show off + 24000 * q + i * 3 = off + (8000 * q + i) * 3 by omega]; exact c1
    · rw [show off + 24000 * q + i * 3 + 1 = off + (8000 * q + i) * 3 + 1 by omega]; exact c2
    · rw [show off + 24000 * q + i * 3 + 2 = off + (8000 * q + i) * 3 + 2 by omega]; exact c3⟩
theorem addr_map {a : Option Addr} {n c : Nat} (ha : (a = none ∧ n = 0 ∧ c = 0) ∨ ∃ g o, a = some ⟨g, o, none⟩) (k q : Nat) : ((a.map fun p => p.add k) = none ∧ min (n - 8000 * q) 8000 = 0 ∧ c - 8000 * q = 0) ∨ ∃ g o, (a.map fun p => p.add k) = some ⟨g, o, none⟩ := by
  rcases ha with ⟨rfl, rfl, rfl⟩ | ⟨g, o, rfl⟩
  · exact .inl ⟨rfl, by simp, by simp⟩
  · exact .inr ⟨g, o + k, by simp only [Option.map_some]; rw [add_flat]⟩
/-- A clone of a row, in a block of its own. -/
def Cln (wz W : World) (l : List Tok) (n q : Nat) (u : Value) : Prop := Row W 40 3 u (min (n - 8000 * q) 8000) (tcs (rowL l q)) ∧ ∀ k, u.ownBlock = some k → wz.heap.size ≤ k
/-- Between two rounds. -/
def PaI (l : List Tok) (n : Nat) (w0 wz : World) (bo : Nat) (pre : List Nat) (W : World) : Prop :=
  (∃ v vs, Blk W bo [v] 64 ∧ OwnX wz W 35 v vs ∧ vs.length = pre.length ∧ ∀ j (h1 : j < pre.length) (h2 : j < vs.length), Cln wz W l n pre[j] vs[j]) ∧ Upd [] w0 W
theorem PaI.own {l : List Tok} {n : Nat} {w0 wz : World} {bo B : Nat} (hB : w0.heap.size ≤ B) : OwnFrom B (PaI l n w0 wz bo) := fun p X C row hs hgr hr => by
  obtain ⟨⟨v, vs, h1, h2, h3, h4⟩, h5⟩ := hs
  exact ⟨⟨v, vs, blk_ownF B bo (fun (_ : Unit) => _) _ () X C row h1 hgr hr, ⟨h2.1.ownF hgr hr, h2.2⟩, h3, fun j i1 i2 => ⟨(h4 j i1 i2).1.ownF hgr hr, (h4 j i1 i2).2⟩⟩, upd_ownF B [] w0 hB () X C row h5 hgr hr⟩
theorem PaI.w2 {l : List Tok} {n : Nat} {w0 wz : World} {bo bs : Nat} (h0 : w0.heap.size ≤ bs) (hb : bo < bs) (hz : bs < wz.heap.size) : ∀ p X C, PaI l n w0 wz bo p X → Own2 [bs] X C → PaI l n w0 wz bo p C := fun p X C hs hAC => by
  obtain ⟨⟨v, vs, h1, h2, h3, h4⟩, h5⟩ := hs
  refine ⟨⟨v, vs, h1.upd hAC.1 (by simp; omega), ⟨h2.1.upd hAC.1 (fun k hk hm => ?_), h2.2⟩, h3, fun j i1 i2 => ⟨(h4 j i1 i2).1.upd hAC.1 (fun k hk hm => ?_), (h4 j i1 i2).2⟩⟩, h5.trans hAC.1 (fun k hk => .inr (by simp at hk; omega))⟩
  · have := h2.2 k hk; simp at hm; omega
  · have := (h4 j i1 i2).2 k hk; simp at hm; omega
/-- Behind a round. -/
theorem pa_end {l : List Tok} {n : Nat} {w0 wz W z1 wq : World} {bo bs NL x : Nat} {pre : List Nat} {v v4 u : Value} {vs : List Value} {o : Obj}
    (g1 : w0.heap.size ≤ bo) (g2 : bo < bs) (g3 : bs < wz.heap.size) (g4 : wz.heap.size ≤ W.heap.size)
    (h1 : Blk W bo [v] 64) (h2 : OwnX wz W 35 v vs) (h3 : vs.length = pre.length) (h4 : ∀ j (h1 : j < pre.length) (h2 : j < vs.length), Cln wz W l n pre[j] vs[j]) (h5 : Upd [] w0 W)
    (hz1 : Upd [] W.drew z1) (hRu : Row z1 40 3 u (min (n - 8000 * x) 8000) (tcs (rowL l x))) (hbu : ∀ k, u.ownBlock = some k → W.drew.heap.size ≤ k) (hn : vs.length = NL)
    (hR4 : Row wq 35 1 v4 (NL + 1) (vs ++ [u])) (hU4 : Upd v.ownBlock.toList (z1.alloc o) wq) (hT4 : Later (z1.alloc o) v v4) :
    KeepsFrom wz.heap.size W (wq.setCell ⟨bo, 0, none⟩ v4) ∧ Keep [bs] W (wq.setCell ⟨bo, 0, none⟩ v4) ∧ PaI l n w0 wz bo (pre ++ [x]) (wq.setCell ⟨bo, 0, none⟩ v4) := by
  subst hn
  have hzz : Upd [] W z1 := ((Upd.refl [] W).drew).then hz1
  have hz2 : Upd [] W (z1.alloc o) := hzz.alloc o
  have hown4 : ∀ k, v4.ownBlock = some k → wz.heap.size ≤ k := fun k hk => by
    rcases hT4 with e | ⟨g, e, hg⟩
    · exact h2.2 k (by rw [← e]; exact hk)
    · rw [hk] at e; cases e; have := hz2.size; omega
  have hUF : Upd (bo :: v.ownBlock.toList) W (wq.setCell ⟨bo, 0, none⟩ v4) := ((hz2.mono (fun k hk => by cases hk)).trans hU4 (fun k hk => .inl (List.mem_cons_of_mem _ hk))).setCell (.inl (by simp)) _
  have hnb : ∀ k, k < wz.heap.size → k ∉ v.ownBlock.toList := fun k hk hm => by have := h2.2 k (by simpa using hm); omega
  have hRv : Row (z1.alloc o) 35 1 v vs.length vs := (h2.1.upd hzz (by simp)).alloc o
  have hsz : W.heap.size ≤ z1.heap.size := hzz.size
  have hcl : ∀ (q : Nat) (y : Value) , Row z1 40 3 y (min (n - 8000 * q) 8000) (tcs (rowL l q)) → (∀ k, y.ownBlock = some k → wz.heap.size ≤ k) → Cln wz (wq.setCell ⟨bo, 0, none⟩ v4) l n q y := fun q y hy hk => by
    have hy2 : Row (z1.alloc o) 40 3 y _ _ := hy.alloc o
    exact ⟨(hy2.upd hU4 (hy2.ne_row hRv (by decide))).setFar (a := ⟨bo, 0, none⟩) _ (fun e => by have := hk _ e; simp at this; omega), hk⟩
  refine ⟨(hUF.others (fun k hk => ?_)).from _, Keep.of_upd hUF (fun k hk => ?_), ⟨v4, vs ++ [u], ?_, ⟨?_, hown4⟩, by simp [h3], fun j i1 i2 => ?_⟩, ?_⟩
  · rcases List.mem_cons.1 hk with rfl | hk
    · exact h1.cellsOnly
    · exact h2.1.cellsOnly k (by simpa using hk)
  · have hk2 : k = bs := by simpa using hk
    refine ⟨by omega, fun hm => ?_⟩
    rcases List.mem_cons.1 hm with e | hm
    · omega
    · exact hnb k (by omega) hm
  · exact ((h1.upd hz2 (by simp)).upd hU4 (hnb bo (by omega))).set 0 v4
  · rw [List.length_append, List.length_singleton]
    exact hR4.setFar (a := ⟨bo, 0, none⟩) _ (fun e => by have := hown4 _ e; simp at this; omega)
  · by_cases hj : j < pre.length
    · rw [List.getElem_append_left hj, List.getElem_append_left (by omega)]
      exact hcl _ _ ((h4 j hj (by omega)).1.upd hzz (by simp)) (h4 j hj (by omega)).2
    · rw [List.length_append, List.length_singleton] at i1
      obtain rfl : j = pre.length := by omega
      rw [List.getElem_append_right (by omega), List.getElem_append_right (by omega)]
      simp only [h3, Nat.sub_self, List.getElem_singleton]
      exact hcl x u hRu (fun k hk => by have := hbu k hk; have e : W.drew.heap.size = W.heap.size := rfl; omega)
  · refine h5.trans hUF (fun k hk => .inr ?_)
    rcases List.mem_cons.1 hk with rfl | hk
    · exact g1
    · have := h2.2 k (by simpa using hk)
      omega
theorem infoSlT : (Try.prog.info? 35).map (fun i => (i.zero, i.size, i.bytes)) = some (some (.slice none 0 0), 1, 24) := by kernel_rfl
/-- What Parts gives. -/
def PartsP (l : List Tok) (n : Nat) (w : World) (e : Ending) (w' : World) : Prop := ∃ v vs, e = .returned v ∧ OwnX w w' 35 v vs ∧ vs.length = rowsN n ∧ (∀ j (h : j < vs.length), Cln w w' l n j vs[j]) ∧ Upd [] w w'
set_option maxRecDepth 100000 in
set_option maxHeartbeats 8000000 in
theorem parts_any (l : List Tok) (a : Option Addr) (n cap : Nat) (w : World) (hT : TokIn w a n l) (ha : (a = none ∧ n = 0 ∧ cap = 0) ∨ ∃ g o, a = some ⟨g, o, none⟩) (hn : n ≤ 1000000) (hc : n ≤ cap) (hcm : cap ≤ 9223372036854775807) :
    Calls Try.prog 33 #[.slice a n cap] w fun e w' => PartsP l n w e w' := by
  have hB0 : Blk (w.alloc (.cells #[.slice none 0 0] 64)) w.heap.size [.slice none 0 0] 64 := Blk.new w _ _
  have HB0 := Lib.hid hB0
  have HU0 : Hid (Upd [] w (w.alloc (.cells #[.slice none 0 0] 64))) := Lib.hid ((Upd.refl _ _).alloc _)
  obtain ⟨i0, hi, jz0, jz1, jz2⟩ := info_parts infoSlT
  have HT := Lib.hid hT
  have HA := Lib.hid ha
  clear hB0 hT ha
  refine (callsIn_wide (n := 9)).1 ?_
  refine callsIn_of_wp_marks Try.func33 rfl trivial ?_ rfl
  simp only [Try.ntmps33, List.size_toArray, List.length_cons, List.length_nil, Nat.reduceAdd, Nat.reduceSub, Array.replicate_succ, Array.replicate_zero, List.push_toArray, List.append_toArray, List.nil_append, List.cons_append]
  refine wpIn_wide.2 ?_
  let QQ : Exit → Act → World → Prop := bodyPost Try.prog Try.f33 (fun _ _ => True)
  go_wp2_with fail
  change Calls _ _ _ (w.alloc (.cells #[.slice none 0 0] 64)) _
  have hs0 : (w.alloc (.cells #[.slice none 0 0] 64)).heap.size = w.heap.size + 1 := by simp
  generalize w.alloc (.cells #[.slice none 0 0] 64) = w1 at *
  refine (each_any _ _ _ w1).mono ?_
  rintro e w4 ⟨rfl, hw4⟩
  have hU4 : Upd [] w1 w4 := by rw [hw4]; exact (Upd.refl _ _).alloc _
  have hS4 : Blk w4 w1.heap.size [.slice a n cap] 35 := by rw [hw4]; exact Blk.new w1 _ _
  have hz4 : w4.heap.size = w1.heap.size + 1 := by rw [hw4]; simp
  have hI4 : PaI l n w w4 w.heap.size [] w4 := ⟨⟨_, [], HB0.out.upd hU4 (by simp), OwnX.nil _ _ _, rfl, fun j h1 h2 => by simp at h1⟩, HU0.out.then hU4⟩
  have HI4 := Lib.hid hI4
  have HS4 := Lib.hid hS4
  clear hw4 hU4 hS4 hI4 HB0 HU0
  obtain ⟨bs, hbs⟩ : ∃ bs, w1.heap.size = bs := ⟨_, rfl⟩
  rw [hbs] at HS4 hs0 hz4 ⊢
  have HBS := Lib.hid (show w.heap.size < bs ∧ bs < w4.heap.size by omega)
  have hks : Hid (∀ k ∈ [bs], k ≠ w4.heap.size + 1) := Lib.hid (by intro k hk; simp at hk; omega)
  have hbw : w.heap.size ≤ w.heap.size := Nat.le_refl _
  have hbb : w.heap.size < w4.heap.size := by omega
  clear hbs hs0 hz4
  go_wp2_with fail
  refine wp_act ?_
  intro fr hfr
  refine Code.wp_mono (Q := fun e a' W => e = .normal ∧ ∃ D pre, a' = { fr with defers := { target := .collected D, args := #[] } :: fr.defers } ∧ w4.heap.size ≤ D ∧ W.heap[D]? = some (.deferred (some [])) ∧ PaI l n w w4 w.heap.size pre W ∧ Hid (pre = List.range (rowsN n))) ?cont ((wpIn_wide (n := 9)).1 ?main)
  case main =>
    refine loopWA (gf := 90) (lb := #[.pointer (some ⟨bs, 0, none⟩)]) (by rw [hfr]; rfl) (enters_of Try.func90 (by kernel_rfl) rfl)
      (each_seqA bs a n cap w4 HA.out HS4.out hn hc hcm) hks.out (fun _ => rfl)
      (fun pre W => PaI l n w w4 w.heap.size pre W)
      (fun _ _ _ => False)
      ?act
      (PaI.own (by omega)) (fun c => fun _ _ _ _ h _ _ => h)
      (PaI.w2 (by have := HBS.out; omega) HBS.out.1 HBS.out.2) (fun _ _ _ _ h _ => h) HI4.out ?assign ?body ?done ?stop
    case assign =>
      intro L1 x W K hK
      subst hfr
      simp only [rowA]
      gi_wp2
      exact hK
    case body =>
      rintro L1 pre x W hsz hfp hI hlt
      subst hfr
      obtain ⟨⟨v, vs, h2, h3, h6, h7⟩, h5⟩ := hI
      obtain ⟨va, vc, rfl⟩ := h3.form
      have hnl : rowsN n ≤ 1000 := by unfold rowsN; split <;> omega
      obtain ⟨NL, hNL⟩ : ∃ NL, vs.length = NL := ⟨_, rfl⟩
      have hNLb : NL ≤ 1000 := by omega
      have HNL := Lib.hid hNL
      have HVL := Lib.hid h6
      have HCL := Lib.hid h7
      have HTx := Lib.hid ((HT.out.pure (h5.drew)).rowL x)
      have HDL := Lib.hid (fun w' (h : TokIn w' (a.map fun p => p.add (24000 * x)) (min (n - 8000 * x) 8000) (rowL l x)) => tclone_any (rowL l x) _ _ (cap - 8000 * x) w' h (addr_map HA.out (24000 * x) x) (by omega))
      rw [hNL] at h2 h3
      have H2 := Lib.hid h2
      have H3 := Lib.hid h3
      have H5 := Lib.hid h5
      have HSZW := Lib.hid hsz
      have hTx := HTx.out
      have c0 := h2.drew.cell 0 rfl
      generalize (a.map fun p => p.add (24000 * x)) = ax at *
      obtain ⟨m, hm⟩ : ∃ m, min (n - 8000 * x) 8000 = m := ⟨_, rfl⟩
      have HM := Lib.hid hm
      rw [hm] at HDL HTx hTx
      clear h2 h3 h5 h6 h7 hNL hnl hlt hfp
      gi_wp2_with fail
      refine regionIn_held (S := fun _ => True) (by kernel_rfl) (by kernel_rfl) trivial (fun hHeld K hKQ => ?_)
      change wpAnyH _ _ _ _ _ 6 #[false, false, false, false, false, false] _ _
      refine heldTake (i := 1) (d := some 9) (v := ?v1_1) rfl rfl (by kernel_rfl) (by kernel_rfl) (by kernel_rfl) (fun _ _ _ h => h) (by rfl) ?hy1_1 (by assumption) ?r1_1
      case hy1_1 => (intro w hSw; (try dsimp only at hSw); go_simp; try with_reducible rfl)
      try simp only [Act.put, List.setIfInBounds_toArray, List.set_cons_zero, List.set_cons_succ]
      change wpAnyH _ _ _ _ _ 5 #[false, true, false, false, false, false] _ _
      refine wpAnyH_ready (rs := [0, 2]) (by kernel_rfl) (by simp) ?_
      refine AllReadyH.cons rfl (fun K hK => ?_) (AllReadyH.cons rfl (fun K hK => ?_) AllReadyH.nil)
      · skip
        go_simp
        skip
        go_wp2
        refine hK.out _ _ trivial (fun hHeld => ?_)
        clear hK K
        try simp only [Act.put, List.setIfInBounds_toArray, List.set_cons_zero, List.set_cons_succ]
        change wpAnyH _ _ _ _ _ 4 #[true, true, false, false, false, false] _ _
        refine wpAnyH_ready (rs := [2]) (by kernel_rfl) (by simp) ?_
        refine AllReadyH.cons rfl (fun K hK => ?_) AllReadyH.nil
        go_simp
        refine (HDL.out _ hTx).mono ?_
        rintro e z1 ⟨u, rfl, hRu, hbu, hz1⟩
        obtain ⟨ua, uc, rfl⟩ := hRu.form
        have HRU := Lib.hid hRu
        have HBU := Lib.hid hbu
        clear hRu hbu
        have c1 := (H2.out.drew.upd hz1 (by simp)).cell 0 rfl
        have hRz := (((H3.out.1.upd ((Upd.refl [] W).drew) (by simp)).upd hz1 (by simp)).alloc (.cells #[.slice ua m uc] 35))
        rw [HNL.out] at hRz
        go_wp2
        refine hK.out _ _ trivial (fun hHeld => ?_)
        clear hK K
        try simp only [Act.put, List.setIfInBounds_toArray, List.set_cons_zero, List.set_cons_succ]
        change wpAnyH _ _ _ _ _ 3 #[true, true, true, false, false, false] _ _
        refine wpAnyH_ready (rs := [3]) (by kernel_rfl) (by simp) ?_
        refine AllReadyH.cons rfl (fun K hK => ?_) AllReadyH.nil
        go_simp
        have c2 := ((H2.out.drew.upd hz1 (by simp)).alloc (.cells #[.slice ua m uc] 35)).cell 0 rfl
        go_wp2
        refine hK.out _ _ trivial (fun hHeld => ?_)
        clear hK K
        try simp only [Act.put, List.setIfInBounds_toArray, List.set_cons_zero, List.set_cons_succ]
        change wpAnyH _ _ _ _ _ 2 #[true, true, true, true, false, false] _ _
        refine wpAnyH_ready (rs := [4]) (by kernel_rfl) (by simp) ?_
        refine AllReadyH.cons rfl (fun K hK => ?_) AllReadyH.nil
        refine step_app _ rfl _ _ 64 rfl 35 i0 _ 1 24 Try.underlying64 hi jz0 jz1 jz2 rfl (by omega) (.slice va NL vc) NL _ rfl hRz ⟨z1.heap.size, 0, none⟩ 1 1 [_] rfl rfl (World.news_of_block (cs := #[_]) (t := 35) (fr := (0, 0)) (heap_alloc_new _ _)) (by simp [Value.oneCell']) (by unfold maxLen; omega) (by omega) ?_
        intro v4 wq hR4 hU4 hT4
        obtain ⟨g4, cap4, rfl, -, -⟩ := hR4.form' (by omega)
        have hbq := ((H2.out.drew.upd hz1 (by simp)).alloc (.cells #[.slice ua m uc] 35)).upd hU4 (fun hm => by have := H3.out.2 _ (by simpa using hm); omega)
        have c4 := hbq.cell 0 rfl
        have f4 := hbq.frz 0
        refine hK.out _ _ trivial (fun hHeld => ?_)
        clear hK K
        try simp only [Act.put, List.setIfInBounds_toArray, List.set_cons_zero, List.set_cons_succ]
        change wpAnyH _ _ _ _ _ 1 #[true, true, true, true, true, false] _ _
        refine wpAnyH_ready (rs := [5]) (by kernel_rfl) (by simp) ?_
        refine AllReadyH.cons rfl (fun K hK => ?_) AllReadyH.nil
        go_simp
        skip
        go_wp2
        refine hK.out _ _ trivial (fun hHeld => ?_)
        clear hK K
        try simp only [Act.put, List.setIfInBounds_toArray, List.set_cons_zero, List.set_cons_succ]
        change wpAnyH _ _ _ _ _ 0 #[true, true, true, true, true, true] _ _
        refine wpAnyH_done (by kernel_rfl) ?_ 0
        refine hKQ _ _ ?_
        clear c1 c2 c4 f4 hbq hRz
        exact pa_end hbw HBS.out.1 HBS.out.2 HSZW.out H2.out H3.out HVL.out HCL.out H5.out hz1 (by rw [HM.out]; exact HRU.out) HBU.out HNL.out hR4 hU4 hT4
      · skip
        go_simp
        refine (HDL.out _ hTx).mono ?_
        rintro e z1 ⟨u, rfl, hRu, hbu, hz1⟩
        obtain ⟨ua, uc, rfl⟩ := hRu.form
        have HRU := Lib.hid hRu
        have HBU := Lib.hid hbu
        clear hRu hbu
        have c1 := (H2.out.drew.upd hz1 (by simp)).cell 0 rfl
        have hRz := (((H3.out.1.upd ((Upd.refl [] W).drew) (by simp)).upd hz1 (by simp)).alloc (.cells #[.slice ua m uc] 35))
        rw [HNL.out] at hRz
        go_wp2
        refine hK.out _ _ trivial (fun hHeld => ?_)
        clear hK K
        try simp only [Act.put, List.setIfInBounds_toArray, List.set_cons_zero, List.set_cons_succ]
        change wpAnyH _ _ _ _ _ 4 #[false, true, true, false, false, false] _ _
        refine wpAnyH_ready (rs := [0, 3]) (by kernel_rfl) (by simp) ?_
        refine AllReadyH.cons rfl (fun K hK => ?_) (AllReadyH.cons rfl (fun K hK => ?_) AllReadyH.nil)
        · skip
          go_simp
          skip
          go_wp2
          refine hK.out _ _ trivial (fun hHeld => ?_)
          clear hK K
          try simp only [Act.put, List.setIfInBounds_toArray, List.set_cons_zero, List.set_cons_succ]
          change wpAnyH _ _ _ _ _ 3 #[true, true, true, false, false, false] _ _
          refine wpAnyH_ready (rs := [3]) (by kernel_rfl) (by simp) ?_
          refine AllReadyH.cons rfl (fun K hK => ?_) AllReadyH.nil
          go_simp
          have c2 := ((H2.out.drew.upd hz1 (by simp)).alloc (.cells #[.slice ua m uc] 35)).cell 0 rfl
          go_wp2
          refine hK.out _ _ trivial (fun hHeld => ?_)
          clear hK K
          try simp only [Act.put, List.setIfInBounds_toArray, List.set_cons_zero, List.set_cons_succ]
          change wpAnyH _ _ _ _ _ 2 #[true, true, true, true, false, false] _ _
          refine wpAnyH_ready (rs := [4]) (by kernel_rfl) (by simp) ?_
          refine AllReadyH.cons rfl (fun K hK => ?_) AllReadyH.nil
          refine step_app _ rfl _ _ 64 rfl 35 i0 _ 1 24 Try.underlying64 hi jz0 jz1 jz2 rfl (by omega) (.slice va NL vc) NL _ rfl hRz ⟨z1.heap.size, 0, none⟩ 1 1 [_] rfl rfl (World.news_of_block (cs := #[_]) (t := 35) (fr := (0, 0)) (heap_alloc_new _ _)) (by simp [Value.oneCell']) (by unfold maxLen; omega) (by omega) ?_
          intro v4 wq hR4 hU4 hT4
          obtain ⟨g4, cap4, rfl, -, -⟩ := hR4.form' (by omega)
          have hbq := ((H2.out.drew.upd hz1 (by simp)).alloc (.cells #[.slice ua m uc] 35)).upd hU4 (fun hm => by have := H3.out.2 _ (by simpa using hm); omega)
          have c4 := hbq.cell 0 rfl
          have f4 := hbq.frz 0
          refine hK.out _ _ trivial (fun hHeld => ?_)
          clear hK K
          try simp only [Act.put, List.setIfInBounds_toArray, List.set_cons_zero, List.set_cons_succ]
          change wpAnyH _ _ _ _ _ 1 #[true, true, true, true, true, false] _ _
          refine wpAnyH_ready (rs := [5]) (by kernel_rfl) (by simp) ?_
          refine AllReadyH.cons rfl (fun K hK => ?_) AllReadyH.nil
          go_simp
          skip
          go_wp2
          refine hK.out _ _ trivial (fun hHeld => ?_)
          clear hK K
          try simp only [Act.put, List.setIfInBounds_toArray, List.set_cons_zero, List.set_cons_succ]
          change wpAnyH _ _ _ _ _ 0 #[true, true, true, true, true, true] _ _
          refine wpAnyH_done (by kernel_rfl) ?_ 0
          refine hKQ _ _ ?_
          clear c1 c2 c4 f4 hbq hRz
          exact pa_end hbw HBS.out.1 HBS.out.2 HSZW.out H2.out H3.out HVL.out HCL.out H5.out hz1 (by rw [HM.out]; exact HRU.out) HBU.out HNL.out hR4 hU4 hT4
        · skip
          go_simp
          have c2 := ((H2.out.drew.upd hz1 (by simp)).alloc (.cells #[.slice ua m uc] 35)).cell 0 rfl
          go_wp2
          refine hK.out _ _ trivial (fun hHeld => ?_)
          clear hK K
          try simp only [Act.put, List.setIfInBounds_toArray, List.set_cons_zero, List.set_cons_succ]
          change wpAnyH _ _ _ _ _ 3 #[false, true, true, true, false, false] _ _
          refine wpAnyH_ready (rs := [0]) (by kernel_rfl) (by simp) ?_
          refine AllReadyH.cons rfl (fun K hK => ?_) AllReadyH.nil
          go_simp
          skip
          go_wp2
          refine hK.out _ _ trivial (fun hHeld => ?_)
          clear hK K
          try simp only [Act.put, List.setIfInBounds_toArray, List.set_cons_zero, List.set_cons_succ]
          change wpAnyH _ _ _ _ _ 2 #[true, true, true, true, false, false] _ _
          refine wpAnyH_ready (rs := [4]) (by kernel_rfl) (by simp) ?_
          refine AllReadyH.cons rfl (fun K hK => ?_) AllReadyH.nil
          refine step_app _ rfl _ _ 64 rfl 35 i0 _ 1 24 Try.underlying64 hi jz0 jz1 jz2 rfl (by omega) (.slice va NL vc) NL _ rfl hRz ⟨z1.heap.size, 0, none⟩ 1 1 [_] rfl rfl (World.news_of_block (cs := #[_]) (t := 35) (fr := (0, 0)) (heap_alloc_new _ _)) (by simp [Value.oneCell']) (by unfold maxLen; omega) (by omega) ?_
          intro v4 wq hR4 hU4 hT4
          obtain ⟨g4, cap4, rfl, -, -⟩ := hR4.form' (by omega)
          have hbq := ((H2.out.drew.upd hz1 (by simp)).alloc (.cells #[.slice ua m uc] 35)).upd hU4 (fun hm => by have := H3.out.2 _ (by simpa using hm); omega)
          have c4 := hbq.cell 0 rfl
          have f4 := hbq.frz 0
          refine hK.out _ _ trivial (fun hHeld => ?_)
          clear hK K
          try simp only [Act.put, List.setIfInBounds_toArray, List.set_cons_zero, List.set_cons_succ]
          change wpAnyH _ _ _ _ _ 1 #[true, true, true, true, true, false] _ _
          refine wpAnyH_ready (rs := [5]) (by kernel_rfl) (by simp) ?_
          refine AllReadyH.cons rfl (fun K hK => ?_) AllReadyH.nil
          go_simp
          skip
          go_wp2
          refine hK.out _ _ trivial (fun hHeld => ?_)
          clear hK K
          try simp only [Act.put, List.setIfInBounds_toArray, List.set_cons_zero, List.set_cons_succ]
          change wpAnyH _ _ _ _ _ 0 #[true, true, true, true, true, true] _ _
          refine wpAnyH_done (by kernel_rfl) ?_ 0
          refine hKQ _ _ ?_
          clear c1 c2 c4 f4 hbq hRz
          exact pa_end hbw HBS.out.1 HBS.out.2 HSZW.out H2.out H3.out HVL.out HCL.out H5.out hz1 (by rw [HM.out]; exact HRU.out) HBU.out HNL.out hR4 hU4 hT4
    case done =>
      rintro D xs W hD hxs hI hK
      exact ⟨rfl, D, _, rfl, hD, hK, hI, Lib.hid hxs⟩
    case stop =>
      rintro D c pre W hD hpre h hK
      exact h.elim
  case cont =>
    rintro e a' wz ⟨rfl, D, pre, rfl, hD, hDk, hI, HP⟩
    subst hfr
    obtain ⟨⟨v, vs, h2, h3, h6, h7⟩, h5⟩ := hI
    obtain ⟨va, vc, rfl⟩ := h3.form
    have HDk := Lib.hid hDk
    have HB := Lib.hid h2
    have HO := Lib.hid h3
    have HU := Lib.hid h5
    have HVL := Lib.hid h6
    have HCL := Lib.hid h7
    have r0 := h2.cell 0 rfl
    have rf := h2.frz 0
    have hDlt : D < wz.heap.size := (Array.getElem?_eq_some_iff.1 hDk).1
    clear h2 h3 h5 h6 h7 hDk
    go_wp2
    have hk9 : (wz.setCell ⟨w.heap.size, 0, none⟩ (.slice va vs.length vc)).heap[D]? = some (.deferred (some [])) := (Below.heap_setCell _ _ _ _ (by simp; omega)).trans HDk.out
    refine ⟨by simp, .inl ⟨_, _, rfl, run_takeDeferred hk9, ?_⟩⟩
    have hB9 : Blk ((wz.setCell ⟨w.heap.size, 0, none⟩ (.slice va vs.length vc)).putObj D (.deferred none)) w.heap.size [.slice va vs.length vc] 64 := (World.putObj_heap_other (by omega)).trans (HB.out.set 0 _)
    have hU9 : Upd [] w ((wz.setCell ⟨w.heap.size, 0, none⟩ (.slice va vs.length vc)).putObj D (.deferred none)) := (HU.out.setCell (.inr (by simp)) _).putObj' (by omega) _
    have hrow : ∀ {e : TypeId} {size : Nat} {y : Value} {k : Nat} {xs : List Value}, Row wz e size y k xs → (∀ b, y.ownBlock = some b → w4.heap.size ≤ b) → Row ((wz.setCell ⟨w.heap.size, 0, none⟩ (.slice va vs.length vc)).putObj D (.deferred none)) e size y k xs := fun h hk =>
      (h.setFar (a := ⟨w.heap.size, 0, none⟩) _ (fun e => by have := hk _ e; simp at this; omega)).ownF (grownBy_putObj' _ D (.deferred none)) (fun r e => by cases e; exact ⟨Nat.le_refl _, _, hk9, rfl⟩)
    have hpre := HP.out
    have hvl := HVL.out
    refine ⟨_, results_cellT rfl _ _ w.heap.size _ _ _ rfl hB9, ⟨_, vs, rfl, ⟨hrow HO.out.1 HO.out.2, fun k hk => by have := HO.out.2 k hk; omega⟩, by rw [hvl, hpre, List.length_range], fun j hj => ?_, hU9⟩⟩
    have hjp : j < pre.length := by omega
    have hc := HCL.out j hjp hj
    have e : pre[j] = j := by subst hpre; rw [List.getElem_range]
    rw [e] at hc
    exact ⟨hrow hc.1 hc.2, fun k hk => by have := hc.2 k hk; omega⟩
end Go.Proofs.Ytdehkaknbmbieaa
